/- FrameBehind, plainly. -/
import Derived.Test.YtklmbkkeiihgdaaFrb
import Derived.Test.YtklmbkkeiihgdaaG2
namespace Go.Proofs.Ytklmbkkeiihgdaa
open Go.RowKit
set_option maxRecDepth 100000
set_option linter.unusedVariables false
set_option linter.unusedSimpArgs false
theorem map_fr (l : List Fr) : (l.map toD).map fr = l := by rw [List.map_map]; exact List.map_id'' (fun _ => rfl) l
theorem map_D (l : List DFrame) : (l.map fr).map toD = l := by rw [List.map_map]; exact List.map_id'' (fun _ => rfl) l
theorem FrameBehind_p (x0 : List DFrame) (x1 : List UInt8) (k0 : ok_LDFrame x0) (k1 : ok_LUInt8 x1) : watershedlaw03_FrameBehind x0 x1 = some (true, ()) := by
  unfold watershedlaw03_FrameBehind
  obtain ⟨r, r1, r2⟩ := great_p k0.len (fun f hf => (k0.all f hf).2.1.len)
  refine bindS awake_p (condF rfl (bindS r1 ?_))
  cases r with
  | true => exact condT rfl rfl
  | false =>
  have hg := r2 rfl
  refine condF rfl ?_
  by_cases hb : 8000 < x1.length
  · exact condT (dT (by omega)) rfl
  refine condF (dF (by omega)) (bindS (Get_p (b := x1) (by omega)) ?_)
  obtain ⟨g1, g2, g3⟩ := getAll_is x1.length x1 (Nat.le_refl _)
  generalize hx : (getAll x1).1 = x at g1 g2
  generalize hn : (getAll x1).2 = n at g2 g3
  have hcx : (codes x).length = n := by rw [g2, List.length_take]; omega
  have hxl : x.length ≤ n := by
    have := codes_dsum (x.map toD)
    rw [map_fr] at this
    rw [List.length_map] at this
    omega
  have hput := Put_p (x.map toD) (by rw [List.length_map]; omega) (by rw [map_fr]; omega)
  rw [map_fr, putErr_ok.2 g1] at hput
  dsimp only at hput
  refine bindS hput (condF rfl (condF (dF (by dsimp only; omega)) (condF (dF (by dsimp only; omega)) (iteT (by dsimp only; omega) ?_))))
  have hy : (x1.drop (((0 : Int) : Int)).toNat).take (((n : Int)).toNat - (((0 : Int) : Int)).toNat) = codes x := by
    rw [g2]; simp
  dsimp only
  rw [hy]
  refine bindS (SameBytes_p _ _ (by omega)) (condF (by simp) ?_)
  have hc0 := codes_dsum x0
  have hput0 := Put_p x0 (by omega) (by omega)
  cases he : putErr (x0.map fr) with
  | some e =>
    rw [he] at hput0
    dsimp only at hput0
    refine bindS hput0 (condT (dT ?_) rfl)
    dsimp only
    obtain ⟨f, hf, h1⟩ := List.exists_of_findSome?_eq_some he
    unfold frErr at h1
    split at h1
    · injection h1 with h1; omega
    · split at h1
      · injection h1 with h1; omega
      · cases h1
  | none =>
    rw [he] at hput0
    dsimp only at hput0
    refine bindS hput0 (condF rfl (iteT (by dsimp only; omega) ?_))
    have hga := getAll_codes (x0.map fr) (putErr_ok.1 he) x1
    rw [hx, hn] at hga
    have hget := Get_p (b := codes (x0.map fr) ++ x1) (by rw [List.length_append]; omega)
    rw [hga] at hget
    dsimp only at hget
    rw [List.map_append, map_D] at hget
    refine bindS hget (condT (dT ?_) (iteT (by simp only [List.length_nil]; omega) (iteT (by simp only [List.length_append, List.length_nil, List.length_map]; omega) ?_)))
    · dsimp only
      rw [w64 (by omega)]
      omega
    · have hdata : ∀ f ∈ x0 ++ x.map toD, f.data.length ≤ 140737488355328 := fun f hf => by
        rcases List.mem_append.1 hf with hf | hf
        · exact (k0.all f hf).2.1.len
        · obtain ⟨q, hq, rfl⟩ := List.mem_map.1 hf
          have := (g1 q hq).2.2
          dsimp only
          omega
      refine bindS (equal_p _ _ (by simp only [List.length_append, List.length_map]; omega) hdata) ?_
      simp
end Go.Proofs.Ytklmbkkeiihgdaa
