/- The chapter's example (round 09): what the models tell of it. -/
import Derived.Test.YteempnebenjkmaaDoorMh
import Derived.Test.YteempnebenjkmaaDoorPg
import Derived.Test.YteempnebenjkmaaDoorMg
namespace Go.Proofs.YteempnebenjkmaaDoor
open Go.RowKit
set_option maxRecDepth 100000
set_option linter.unusedVariables false
set_option linter.unusedSimpArgs false
theorem ZyW {bs : List UInt8} (h : bs.length <= 10000) : Zeb [⟨4, bs⟩] = some ((codes [(4, bs)], 0, ()), ((), ())) := by
 have hok : Zwe (4, bs) := ⟨by show (0 : Int) <= 4; decide, by show (4 : Int) <= 255; decide, by show bs.length <= _; omega⟩
 have hc : (codes [(4, bs)]).length <= 20000 := by
  simp [codes, code, hd, le4]
  omega
 have hp := ZBq [⟨4, bs⟩] (by simp) (by show (codes [(4, bs)]).length <= _; omega)
 rw [show Zf4 ([(⟨4, bs⟩ : Zb4)].map fr) = none from ZuD.2 (by intro f hf; rw [List.mem_singleton.1 hf]; exact hok)] at hp
 exact hp
theorem Zp2 (bs : List UInt8) : (codes [(4, bs)]).length = 9 + bs.length := by
 simp [codes, code, hd, le4]
 omega
theorem ZyX {bs : List UInt8} (h : bs.length <= 10000) : ZeV (codes [(4, bs)]) = some (([⟨4, bs⟩], ((codes [(4, bs)]).length : Int), ()), ((), ())) := by
 have hok : Zwe (4, bs) := ⟨by show (0 : Int) <= 4; decide, by show (4 : Int) <= 255; decide, by show bs.length <= _; omega⟩
 have hl := Zp2 bs
 have hg := ZBr (b := codes [(4, bs)]) (by omega)
 have ha := ZkY [(4, bs)] (by intro f hf; rw [List.mem_singleton.1 hf]; exact hok) []
 rw [List.append_nil, Zmr (b := []) rfl] at ha
 rw [ha] at hg
 exact hg
theorem ZkB : Zez smallD.base = true := by decide
theorem ZmF : ZjD smallD.base.config := by unfold ZjD; decide
theorem ZyY {x : Zcd} (hf : ZjD x.base.config) (hb : x.bytes.length <= 5000) (h : Zez x.base = true) : (Zlo x).length <= 200000 /\ 0 < (Zlo x).length := by
 have hl := Zmp hf
 rw [ZhT hf (Zef h).2] at hl
 dsimp only at hl
 have h9 := Zhx (n := x.bytes.length) (by omega)
 have h1 := Zom x.bytes.length
 unfold Zlo Zm4
 rw [List.length_append, List.length_append]
 omega
theorem ZwQ : Tr CT Tryd.prog (fun _ => True) 4 [] [] (.bool true) [] := by
 have hB := Zuy (x := smallD) ZmF (by decide)
 rw [if_pos ZkB] at hB
 have hs : (Zlo smallD).length <= 500 := by decide +kernel
 have hG := Zuz (l := Zlo smallD) (by omega) (ZuA ZmF (by decide) ZkB)
 have hbo : Zb0 (Zlo smallD) = (smallD.base, some (Zm4 smallD.bytes)) := Zjq ZkB
 have hro : ZsT 131072 (some (Zm4 smallD.bytes)) = (smallD.bytes, some []) := by
  have := Zlp (t := smallD.bytes) (r := []) (by decide)
  rwa [List.append_nil] at this
 rw [hbo] at hG
 dsimp only at hG
 rw [hro] at hG
 intro ρ σ vs hs' _
 have hv : vs = [] := Zbd.1 hs'
 subst hv
 have hd := Zp2 (Zlo smallD)
 refine ZwP hB (ZyW (by omega)) (by omega) (ZyX (by omega)) hG (by decide) (by decide) (by decide) (by decide) (by decide) rfl (ZqT ZmF (by decide)) fun τ hX => ?_
 exact ⟨ρ, ZaU.2 rfl, Zxc _, Nat.zero_le _, fun i hi => absurd hi (Nat.not_lt_zero i), ⟨fun b k _ hk => hX.keep _ _ hk, hX.used⟩, fun b ⟨i, x, hx, _⟩ => by simp at hx⟩
end Go.Proofs.YteempnebenjkmaaDoor
