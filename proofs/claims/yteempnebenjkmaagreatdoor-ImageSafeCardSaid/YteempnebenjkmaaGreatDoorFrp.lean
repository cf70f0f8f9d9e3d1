/- Frames, plainly: what is put is got, and the other way. -/
import Derived.Test.YteempnebenjkmaaGreatDoorFramePure
namespace Go.Proofs.YteempnebenjkmaaGreatDoor
set_option linter.unusedSimpArgs false
set_option linter.unusedVariables false
def Zw9 (f : Fr) : Prop := 0 <= f.1 /\ f.1 <= 255 /\ f.2.length <= 262144
theorem ZBY (l : List UInt8) : ZvM l 4 = (l.getD 0 0).toNat + (l.getD 1 0).toNat * 256 + (l.getD 2 0).toNat * 65536 + (l.getD 3 0).toNat * 16777216 := by
 simp [ZvM]
theorem Zvp {n : Nat} (hn : n < 4294967296) (r : List UInt8) : ZvM (le4 n ++ r) 4 = n := by
 rw [ZBY]
 unfold le4
 simp only [List.cons_append, List.nil_append, List.getD_cons_zero, List.getD_cons_succ, UInt8.toNat_ofNat']
 omega
theorem Zvq (f : Fr) (r : List UInt8) : (code f ++ r).drop (9 + f.2.length) = r := by
 rw [List.drop_append_of_le_length (by rw [ZeE]; exact Nat.le_refl _), List.drop_of_length_le (by rw [ZeE]; exact Nat.le_refl _), List.nil_append]
theorem Zte (f : Fr) (r : List UInt8) (h : f.2.length <= 262144) : num (code f ++ r) 0 = f.2.length /\ num (code f ++ r) 5 = ZnL f /\ (code f ++ r).take 5 = hd f /\ ((code f ++ r).drop 9) = f.2 ++ r /\ (code f ++ r).getD 4 0 = UInt8.ofNat f.1.toNat := by
 have e : code f ++ r = le4 f.2.length ++ (UInt8.ofNat f.1.toNat :: (le4 (ZnL f) ++ (f.2 ++ r))) := by simp [code, hd]
 have hc := ZrS f
 refine ⟨?_, ?_, ?_, ?_, ?_⟩
 ·unfold num
  rw [e, List.drop_zero, Zvp (by omega)]
 ·unfold num
  have : (code f ++ r).drop 5 = le4 (ZnL f) ++ (f.2 ++ r) := by rw [e]; rfl
  rw [this, Zvp hc]
 ·rw [e]; rfl
 ·rw [e]; rfl
 ·rw [e]; rfl
theorem ZqW {f : Fr} (h : Zw9 f) (r : List UInt8) : Zcm (code f ++ r) = some f := by
 obtain ⟨h1, h2, h3⟩ := h
 obtain ⟨p1, p2, p3, p4, p5⟩ := Zte f r h3
 have hl : (code f ++ r).length = 9 + f.2.length + r.length := by rw [List.length_append, ZeE]
 unfold Zcm
 rw [if_neg (by omega), p1, if_neg (by omega), p2, p3, p4, p5, List.take_left]
 rw [if_pos (show ZnL f = (Crc.more 0#32 (hd f ++ f.2)).toNat from rfl)]
 have : (((UInt8.ofNat f.1.toNat).toNat : Nat) : Int) = f.1 := by rw [UInt8.toNat_ofNat']; omega
 rw [this]
theorem Ztf : ∀ (n : Nat) (b : List UInt8) (k m : Nat), b.length <= n -> b.length < k -> b.length < m -> ZnM k b = ZnM m b := by
 intro n
 induction n with
 | zero =>
  intro b k m hn hk hm
  obtain ⟨k, rfl⟩ : ∃ k', k = k' + 1 := ⟨k - 1, by omega⟩
  obtain ⟨m, rfl⟩ : ∃ m', m = m' + 1 := ⟨m - 1, by omega⟩
  have : Zcm b = none := by unfold Zcm; rw [if_pos (by omega)]
  simp [ZnM, this]
 | succ n ih =>
  intro b k m hn hk hm
  obtain ⟨k, rfl⟩ : ∃ k', k = k' + 1 := ⟨k - 1, by omega⟩
  obtain ⟨m, rfl⟩ : ∃ m', m = m' + 1 := ⟨m - 1, by omega⟩
  cases hf : Zcm b with
  | none => simp [ZnM, hf]
  | some f =>
   have hl := ZjD hf
   have hd : (b.drop (9 + f.2.length)).length < b.length := by rw [List.length_drop]; omega
   have := ih (b.drop (9 + f.2.length)) k m (by omega) (by omega) (by omega)
   simp only [ZnM, hf, this]
theorem ZpG (b : List UInt8) : Zdu b = match Zcm b with
 | none => ([], 0)
 | some f => (f :: (Zdu (b.drop (9 + f.2.length))).1, 9 + f.2.length + (Zdu (b.drop (9 + f.2.length))).2) := by
 unfold Zdu
 conv => lhs; unfold ZnM
 cases hf : Zcm b with
 | none => rfl
 | some f =>
  have hl := ZjD hf
  have hd : (b.drop (9 + f.2.length)).length < b.length := by rw [List.length_drop]; omega
  dsimp only
  rw [Ztf b.length (b.drop (9 + f.2.length)) b.length ((b.drop (9 + f.2.length)).length + 1) (by omega) (by omega) (by omega)]
theorem Zl9 {b : List UInt8} (h : Zcm b = none) : Zdu b = ([], 0) := by rw [ZpG, h]
theorem Zma {b : List UInt8} {f : Fr} (h : Zcm b = some f) : Zdu b = (f :: (Zdu (b.drop (9 + f.2.length))).1, 9 + f.2.length + (Zdu (b.drop (9 + f.2.length))).2) := by
 rw [ZpG b, h]
theorem Zkw : ∀ (l : List Fr), (∀ f ∈ l, Zw9 f) -> ∀ b, Zdu (codes l ++ b) = (l ++ (Zdu b).1, (codes l).length + (Zdu b).2)
 | [], _, b => by simp [codes]
 | f :: l, h, b => by
  rw [ZsZ, List.append_assoc]
  rw [Zma (ZqW (h f List.mem_cons_self) _), Zvq, Zkw l (fun g hg => h g (List.mem_cons_of_mem _ hg)) b]
  simp only [List.cons_append, List.length_append, ZeE, Nat.add_assoc]
theorem Zvr {l : List Fr} : Zfy l = none ↔ ∀ f ∈ l, Zw9 f := by
 unfold Zfy
 rw [List.findSome?_eq_none_iff]
 refine forall_congr' fun f => forall_congr' fun _ => ?_
 unfold ZkA Zw9
 constructor
 ·intro h
  split at h
  ·cases h
  ·split at h
   ·cases h
   ·omega
 ·rintro ⟨h1, h2, h3⟩
  rw [if_neg (by omega), if_neg (by omega)]
end Go.Proofs.YteempnebenjkmaaGreatDoor
