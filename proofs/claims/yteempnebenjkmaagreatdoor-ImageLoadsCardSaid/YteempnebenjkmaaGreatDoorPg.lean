/- Frames: reading them, plainly; what the laws begin with. -/
import Derived.Test.YteempnebenjkmaaGreatDoorPf
namespace Go.Proofs.YteempnebenjkmaaGreatDoor
open Go.RowKit
set_option maxRecDepth 100000
set_option linter.unusedVariables false
set_option linter.unusedSimpArgs false
abbrev toD (f : Fr) : ZbH := ⟨f.1, f.2⟩
theorem Zqa {b : List UInt8} {at_ : Int} {k : Nat} (h : k + 4 <= b.length) : Zin (k : Int) ⟨⟨b⟩, at_⟩ = some ((num b k : Int), (⟨⟨b⟩, at_⟩, ())) := by
 unfold Zin
 exact Zdz ⟨by omega, by (try dsimp only); omega⟩ rfl
theorem ZBX {b : List UInt8} {at_ : Nat} (hb : b.length <= 1000000000) (ha : at_ <= 1000000000) : Zhv ⟨⟨b⟩, at_⟩ = some (match Za3 b with
 | none => ((⟨0, []⟩, false, ()), (⟨⟨b⟩, at_⟩, ()))
 | some f => ((toD f, true, ()), (⟨⟨b.drop (9 + f.2.length)⟩, ((at_ + 9 + f.2.length : Nat) : Int)⟩, ()))) := by
 unfold Zhv
 by_cases h9 : b.length < 9
 ·have : Za3 b = none := by unfold Za3; rw [if_pos h9]
  rw [this]
  exact Zam (dT (by (try dsimp only); omega)) rfl
 have hn := ZyC b 0
 have hw : IntKind.i64.wrap (num b 0 : Int) = (num b 0 : Int) := w64 (by omega)
 refine Zaq (dF (by (try dsimp only); omega)) (Zaf (Zqa (k := 0) (by omega)) ?_)
 dsimp only
 rw [hw]
 by_cases h1 : 262144 < num b 0
 ·have : Za3 b = none := by unfold Za3; rw [if_neg h9, if_pos (.inl h1)]
  rw [this]
  exact Zam (dT (by omega)) rfl
 refine Zaq (dF (by omega)) ?_
 rw [w64 (n := (b.length : Int) - 9) (by omega)]
 by_cases h2 : b.length - 9 < num b 0
 ·have : Za3 b = none := by unfold Za3; rw [if_neg h9, if_pos (.inr h2)]
  rw [this]
  exact Zam (dT (by omega)) rfl
 refine Zaq (dF (by omega)) (Zaf (Zbg (i := 4) (by omega)) ?_)
 rw [w64 (n := 9 + (num b 0 : Int)) (by omega)]
 have hy : (b.drop ((9 : Int)).toNat).take ((9 + (num b 0 : Int)).toNat - ((9 : Int)).toNat) = (b.drop 9).take (num b 0) := by
  rw [show ((9 + (num b 0 : Int))).toNat - ((9 : Int)).toNat = num b 0 from by omega]
  rfl
 have hyl : ((b.drop 9).take (num b 0)).length = num b 0 := by rw [List.length_take, List.length_drop]; omega
 have hz : (b.drop (((0 : Int) : Int)).toNat).take ((5 : Int).toNat - (((0 : Int) : Int)).toNat) = b.take 5 := rfl
 refine Zdz (by omega) ?_
 rw [hy]
 refine Zaf (v := ((b.drop 9).take (num b 0), ((), ()))) (by unfold Zfv; exact Zdz (by omega) rfl) (Zdz (by omega) ?_)
 rw [hz]
 refine Zaf (Zqa (k := 5) (by omega)) ?_
 have hs : Znl (0, 2, 2) [b.take 5, (b.drop 9).take (num b 0)] = some (((Crc.more 0#32 (b.take 5 ++ (b.drop 9).take (num b 0))).toNat : Int), ([b.take 5, (b.drop 9).take (num b 0)], ())) := by
  unfold Znl ZzH
  refine Zdz (by simp) ?_
  rw [if_pos trivial]
  have : ((([b.take 5, (b.drop 9).take (num b 0)] : List (List UInt8)).drop 0).take 2).flatten = b.take 5 ++ (b.drop 9).take (num b 0) := by simp
  dsimp only
  rw [this]
  rfl
 refine Zaf hs ?_
 dsimp only
 by_cases h3 : num b 5 = (Crc.more 0#32 (b.take 5 ++ (b.drop 9).take (num b 0))).toNat
 ·have hf : Za3 b = some (((b.getD 4 0).toNat : Int), (b.drop 9).take (num b 0)) := by
   unfold Za3
   rw [if_neg h9, if_neg (by omega), if_pos h3]
  rw [hf]
  refine Zaq (dF (by omega)) (Zdz (by omega) ?_)
  have hd : (b.drop ((9 + (num b 0 : Int))).toNat).take ((b.length : Int).toNat - ((9 + (num b 0 : Int))).toNat) = b.drop (9 + num b 0) := by
   rw [show ((9 + (num b 0 : Int))).toNat = 9 + num b 0 from by omega, Int.toNat_natCast]
   exact List.take_of_length_le (by rw [List.length_drop]; exact Nat.le_refl _)
  rw [hd]
  have hk : IntKind.i64.wrap ((b[4]'(by omega)).toNat : Int) = ((b.getD 4 0).toNat : Int) := by
   have := (b[4]'(by omega)).toNat_lt
   rw [w64 (by omega)]
   simp [List.getD_eq_getElem?_getD, List.getElem?_eq_getElem (show 4 < b.length by omega)]
  rw [hk, w64 (n := (at_ : Int) + 9) (by omega), w64 (by omega)]
  dsimp only
  rw [hyl]
  rw [show ((at_ + 9 + num b 0 : Nat) : Int) = (at_ : Int) + 9 + (num b 0 : Int) from by omega]
 ·have hf : Za3 b = none := by
   unfold Za3
   rw [if_neg h9, if_neg (by omega), if_neg h3]
  rw [hf]
  exact Zam (dT (by omega)) rfl
theorem ZDf {b : List UInt8} (hb : b.length <= 1000000000) : ZiX b = some (((ZaB b).1.map toD, ((ZaB b).2 : Int), ()), ((), ())) := by
 have key : ∃ z, Za2 Zfe (([], (), ()), ((⟨(⟨b⟩ : Ztf), 0⟩ : ZdN), (), ())) = some z /\ z.1.1 = (ZaB b).1.map toD /\ z.1.2.1 = ((ZaB b).2 : Int) := by
  refine Zcj (fun n a => ∃ (out : List ZbH) (r : List UInt8) (at_ : Nat), a = ((out, (), ()), ((⟨(⟨r⟩ : Ztf), (at_ : Int)⟩ : ZdN), (), ())) /\ out ++ (ZaB r).1.map toD = (ZaB b).1.map toD /\ at_ + (ZaB r).2 = (ZaB b).2 /\ at_ + r.length <= b.length /\ out.length <= at_ /\ n = r.length) _ ?_ (n := b.length) ⟨[], b, 0, rfl, by simp, by simp, by simp, Nat.le_refl _, rfl⟩
  rintro n a ⟨out, r, at_, rfl, h1, h2, h3, h4, rfl⟩
  unfold Zfe
  have hnx := ZBX (b := r) (at_ := at_) (by omega) (by omega)
  cases hf : Za3 r with
  | none =>
   right
   rw [hf] at hnx
   rw [ZeX hf] at h1 h2
   exact ⟨_, Zaf hnx (Zam rfl rfl), by simpa using h1, by (try dsimp only); simp only [Nat.add_zero] at h2; rw [h2]⟩
  | some f =>
   left
   rw [hf] at hnx
   have hl := ZfO hf
   rw [Zgr hf] at h1 h2
   refine ⟨(r.drop (9 + f.2.length)).length, _, by rw [List.length_drop]; omega, Zaf hnx (Zaq rfl (Zdz (by simp only [List.length_singleton]; omega) rfl)), out ++ [toD f], r.drop (9 + f.2.length), at_ + 9 + f.2.length, rfl, ?_, ?_, ?_, ?_, rfl⟩
   ·rw [<- h1]; simp
   ·dsimp only at h2; omega
   ·rw [List.length_drop]; omega
   ·rw [List.length_append, List.length_singleton]; omega
 obtain ⟨z, hz, z1, z2⟩ := key
 unfold ZiX
 refine Zaf hz ?_
 rw [z1, z2]
end Go.Proofs.YteempnebenjkmaaGreatDoor
