/- Frames, plainly: what is put is got, and the other way. -/
import Derived.Test.YteempnebenjkmaaDoorFramePure
namespace Go.Proofs.YteempnebenjkmaaDoor
set_option linter.unusedSimpArgs false
set_option linter.unusedVariables false
def Zwe (f : Fr) : Prop := 0 <= f.1 /\ f.1 <= 255 /\ f.2.length <= 262144
theorem ZBp (l : List UInt8) : Zvh l 4 = (l.getD 0 0).toNat + (l.getD 1 0).toNat * 256 + (l.getD 2 0).toNat * 65536 + (l.getD 3 0).toNat * 16777216 := by
 simp [Zvh]
theorem ZuB {n : Nat} (hn : n < 4294967296) (r : List UInt8) : Zvh (le4 n ++ r) 4 = n := by
 rw [ZBp]
 unfold le4
 simp only [List.cons_append, List.nil_append, List.getD_cons_zero, List.getD_cons_succ, UInt8.toNat_ofNat']
 omega
theorem ZuC (f : Fr) (r : List UInt8) : (code f ++ r).drop (9 + f.2.length) = r := by
 rw [List.drop_append_of_le_length (by rw [ZeU]; exact Nat.le_refl _), List.drop_of_length_le (by rw [ZeU]; exact Nat.le_refl _), List.nil_append]
theorem ZsW (f : Fr) (r : List UInt8) (h : f.2.length <= 262144) : num (code f ++ r) 0 = f.2.length /\ num (code f ++ r) 5 = Zn5 f /\ (code f ++ r).take 5 = hd f /\ ((code f ++ r).drop 9) = f.2 ++ r /\ (code f ++ r).getD 4 0 = UInt8.ofNat f.1.toNat := by
 have e : code f ++ r = le4 f.2.length ++ (UInt8.ofNat f.1.toNat :: (le4 (Zn5 f) ++ (f.2 ++ r))) := by simp [code, hd]
 have hc := ZrI f
 refine ⟨?_, ?_, ?_, ?_, ?_⟩
 ·unfold num
  rw [e, List.drop_zero, ZuB (by omega)]
 ·unfold num
  have : (code f ++ r).drop 5 = le4 (Zn5 f) ++ (f.2 ++ r) := by rw [e]; rfl
  rw [this, ZuB hc]
 ·rw [e]; rfl
 ·rw [e]; rfl
 ·rw [e]; rfl
theorem ZqU {f : Fr} (h : Zwe f) (r : List UInt8) : Zct (code f ++ r) = some f := by
 obtain ⟨h1, h2, h3⟩ := h
 obtain ⟨p1, p2, p3, p4, p5⟩ := ZsW f r h3
 have hl : (code f ++ r).length = 9 + f.2.length + r.length := by rw [List.length_append, ZeU]
 unfold Zct
 rw [if_neg (by omega), p1, if_neg (by omega), p2, p3, p4, p5, List.take_left]
 rw [if_pos (show Zn5 f = (Crc.more 0#32 (hd f ++ f.2)).toNat from rfl)]
 have : (((UInt8.ofNat f.1.toNat).toNat : Nat) : Int) = f.1 := by rw [UInt8.toNat_ofNat']; omega
 rw [this]
theorem ZsX : ∀ (n : Nat) (b : List UInt8) (k m : Nat), b.length <= n -> b.length < k -> b.length < m -> Zn6 k b = Zn6 m b := by
 intro n
 induction n with
 | zero =>
  intro b k m hn hk hm
  obtain ⟨k, rfl⟩ : ∃ k', k = k' + 1 := ⟨k - 1, by omega⟩
  obtain ⟨m, rfl⟩ : ∃ m', m = m' + 1 := ⟨m - 1, by omega⟩
  have : Zct b = none := by unfold Zct; rw [if_pos (by omega)]
  simp [Zn6, this]
 | succ n ih =>
  intro b k m hn hk hm
  obtain ⟨k, rfl⟩ : ∃ k', k = k' + 1 := ⟨k - 1, by omega⟩
  obtain ⟨m, rfl⟩ : ∃ m', m = m' + 1 := ⟨m - 1, by omega⟩
  cases hf : Zct b with
  | none => simp [Zn6, hf]
  | some f =>
   have hl := ZjZ hf
   have hd : (b.drop (9 + f.2.length)).length < b.length := by rw [List.length_drop]; omega
   have := ih (b.drop (9 + f.2.length)) k m (by omega) (by omega) (by omega)
   simp only [Zn6, hf, this]
theorem ZpL (b : List UInt8) : Zdz b = match Zct b with
 | none => ([], 0)
 | some f => (f :: (Zdz (b.drop (9 + f.2.length))).1, 9 + f.2.length + (Zdz (b.drop (9 + f.2.length))).2) := by
 unfold Zdz
 conv => lhs; unfold Zn6
 cases hf : Zct b with
 | none => rfl
 | some f =>
  have hl := ZjZ hf
  have hd : (b.drop (9 + f.2.length)).length < b.length := by rw [List.length_drop]; omega
  dsimp only
  rw [ZsX b.length (b.drop (9 + f.2.length)) b.length ((b.drop (9 + f.2.length)).length + 1) (by omega) (by omega) (by omega)]
theorem Zmr {b : List UInt8} (h : Zct b = none) : Zdz b = ([], 0) := by rw [ZpL, h]
theorem Zms {b : List UInt8} {f : Fr} (h : Zct b = some f) : Zdz b = (f :: (Zdz (b.drop (9 + f.2.length))).1, 9 + f.2.length + (Zdz (b.drop (9 + f.2.length))).2) := by
 rw [ZpL b, h]
theorem ZkY : ∀ (l : List Fr), (∀ f ∈ l, Zwe f) -> ∀ b, Zdz (codes l ++ b) = (l ++ (Zdz b).1, (codes l).length + (Zdz b).2)
 | [], _, b => by simp [codes]
 | f :: l, h, b => by
  rw [ZsJ, List.append_assoc]
  rw [Zms (ZqU (h f List.mem_cons_self) _), ZuC, ZkY l (fun g hg => h g (List.mem_cons_of_mem _ hg)) b]
  simp only [List.cons_append, List.length_append, ZeU, Nat.add_assoc]
theorem ZuD {l : List Fr} : Zf4 l = none ↔ ∀ f ∈ l, Zwe f := by
 unfold Zf4
 rw [List.findSome?_eq_none_iff]
 refine forall_congr' fun f => forall_congr' fun _ => ?_
 unfold Zk3 Zwe
 constructor
 ·intro h
  split at h
  ·cases h
  ·split at h
   ·cases h
   ·omega
 ·rintro ⟨h1, h2, h3⟩
  rw [if_neg (by omega), if_neg (by omega)]
end Go.Proofs.YteempnebenjkmaaDoor
