/- Frames, plainly: what is put is got, and the other way. -/
import Derived.Test.YteempnebenjkmaaGreatDoorFramePure
namespace Go.Proofs.YteempnebenjkmaaGreatDoor
set_option linter.unusedSimpArgs false
set_option linter.unusedVariables false
def Zsr (f : Fr) : Prop := 0 <= f.1 /\ f.1 <= 255 /\ f.2.length <= 262144
theorem Zz7 (l : List UInt8) : Zvz l 4 = (l.getD 0 0).toNat + (l.getD 1 0).toNat * 256 + (l.getD 2 0).toNat * 65536 + (l.getD 3 0).toNat * 16777216 := by
 simp [Zvz]
theorem Zv5 {n : Nat} (hn : n < 4294967296) (r : List UInt8) : Zvz (le4 n ++ r) 4 = n := by
 rw [Zz7]
 unfold le4
 simp only [List.cons_append, List.nil_append, List.getD_cons_zero, List.getD_cons_succ, UInt8.toNat_ofNat']
 omega
theorem Zv6 {l : List UInt8} (h : 4 <= l.length) : ∃ a b c d r, l = a :: b :: c :: d :: r := by
 match l, h with
 | a :: b :: c :: d :: r, _ => exact ⟨a, b, c, d, r, rfl⟩
theorem Zv7 {l : List UInt8} (h : 4 <= l.length) : le4 (Zvz l 4) = l.take 4 := by
 obtain ⟨a, b, c, d, r, rfl⟩ := Zv6 h
 rw [Zz7]
 simp only [List.getD_cons_zero, List.getD_cons_succ, List.take_succ_cons, List.take_zero]
 have ha := a.toNat_lt
 have hb := b.toNat_lt
 have hc := c.toNat_lt
 have hd := d.toNat_lt
 unfold le4
 congr 1
 ·apply UInt8.toNat_inj.1; rw [UInt8.toNat_ofNat']; omega
 congr 1
 ·apply UInt8.toNat_inj.1; rw [UInt8.toNat_ofNat']; omega
 congr 1
 ·apply UInt8.toNat_inj.1; rw [UInt8.toNat_ofNat']; omega
 congr 1
 ·apply UInt8.toNat_inj.1; rw [UInt8.toNat_ofNat']; omega
theorem Zv8 (f : Fr) (r : List UInt8) : (code f ++ r).drop (9 + f.2.length) = r := by
 rw [List.drop_append_of_le_length (by rw [Zbz]; exact Nat.le_refl _), List.drop_of_length_le (by rw [Zbz]; exact Nat.le_refl _), List.nil_append]
theorem ZtM (f : Fr) (r : List UInt8) (h : f.2.length <= 262144) : num (code f ++ r) 0 = f.2.length /\ num (code f ++ r) 5 = ZiT f /\ (code f ++ r).take 5 = hd f /\ ((code f ++ r).drop 9) = f.2 ++ r /\ (code f ++ r).getD 4 0 = UInt8.ofNat f.1.toNat := by
 have e : code f ++ r = le4 f.2.length ++ (UInt8.ofNat f.1.toNat :: (le4 (ZiT f) ++ (f.2 ++ r))) := by simp [code, hd]
 have hc := Zn7 f
 refine ⟨?_, ?_, ?_, ?_, ?_⟩
 ·unfold num
  rw [e, List.drop_zero, Zv5 (by omega)]
 ·unfold num
  have : (code f ++ r).drop 5 = le4 (ZiT f) ++ (f.2 ++ r) := by rw [e]; rfl
  rw [this, Zv5 hc]
 ·rw [e]; rfl
 ·rw [e]; rfl
 ·rw [e]; rfl
theorem Zmv {f : Fr} (h : Zsr f) (r : List UInt8) : Za3 (code f ++ r) = some f := by
 obtain ⟨h1, h2, h3⟩ := h
 obtain ⟨p1, p2, p3, p4, p5⟩ := ZtM f r h3
 have hl : (code f ++ r).length = 9 + f.2.length + r.length := by rw [List.length_append, Zbz]
 unfold Za3
 rw [if_neg (by omega), p1, if_neg (by omega), p2, p3, p4, p5, List.take_left]
 rw [if_pos (show ZiT f = (Crc.more 0#32 (hd f ++ f.2)).toNat from rfl)]
 have : (((UInt8.ofNat f.1.toNat).toNat : Nat) : Int) = f.1 := by rw [UInt8.toNat_ofNat']; omega
 rw [this]
theorem Zp7 {b : List UInt8} {f : Fr} (h : Za3 b = some f) : Zsr f /\ b.take (9 + f.2.length) = code f /\ 9 + f.2.length <= b.length := by
 have hlen := ZfO h
 unfold Za3 at h
 split at h
 ·cases h
 rename_i h9
 split at h
 ·cases h
 rename_i hn
 split at h
 ·rename_i hcrc
  injection h with h
  subst h
  have hfl : ((b.drop 9).take (num b 0)).length = num b 0 := by rw [List.length_take, List.length_drop]; omega
  refine ⟨⟨by simp, ?_, ?_⟩, ?_, hlen⟩
  ·have := (b.getD 4 0).toNat_lt; dsimp only; omega
  ·dsimp only; rw [hfl]; omega
  ·dsimp only at hlen ⊢
   rw [hfl]
   have h4 : le4 (num b 0) = b.take 4 := by unfold num; rw [List.drop_zero]; exact Zv7 (by omega)
   have h5 : le4 (num b 5) = (b.drop 5).take 4 := by unfold num; exact Zv7 (by rw [List.length_drop]; omega)
   have hk : UInt8.ofNat (((b.getD 4 0).toNat : Int)).toNat = b[4]'(by omega) := by
    have : b.getD 4 0 = b[4]'(by omega) := by simp [List.getD_eq_getElem?_getD, List.getElem?_eq_getElem (show 4 < b.length by omega)]
    rw [this]
    apply UInt8.toNat_inj.1
    rw [UInt8.toNat_ofNat']
    have := (b[4]'(by omega)).toNat_lt
    omega
   have hhd : hd ((((b.getD 4 0).toNat : Int)), (b.drop 9).take (num b 0)) = b.take 5 := by
    unfold hd
    dsimp only
    rw [hfl, h4, hk]
    exact (List.take_succ_eq_append_getElem (by omega)).symm
   have hcc : ZiT ((((b.getD 4 0).toNat : Int)), (b.drop 9).take (num b 0)) = num b 5 := by
    unfold ZiT
    rw [hhd]
    exact hcrc.symm
   unfold code
   rw [hhd, hcc, h5]
   dsimp only
   rw [show 9 + num b 0 = 5 + (4 + num b 0) from by omega, List.take_add, List.take_add, List.drop_drop]
 ·cases h
theorem ZtN : ∀ (n : Nat) (b : List UInt8) (k m : Nat), b.length <= n -> b.length < k -> b.length < m -> Zn8 k b = Zn8 m b := by
 intro n
 induction n with
 | zero =>
  intro b k m hn hk hm
  obtain ⟨k, rfl⟩ : ∃ k', k = k' + 1 := ⟨k - 1, by omega⟩
  obtain ⟨m, rfl⟩ : ∃ m', m = m' + 1 := ⟨m - 1, by omega⟩
  have : Za3 b = none := by unfold Za3; rw [if_pos (by omega)]
  simp [Zn8, this]
 | succ n ih =>
  intro b k m hn hk hm
  obtain ⟨k, rfl⟩ : ∃ k', k = k' + 1 := ⟨k - 1, by omega⟩
  obtain ⟨m, rfl⟩ : ∃ m', m = m' + 1 := ⟨m - 1, by omega⟩
  cases hf : Za3 b with
  | none => simp [Zn8, hf]
  | some f =>
   have hl := ZfO hf
   have hd : (b.drop (9 + f.2.length)).length < b.length := by rw [List.length_drop]; omega
   have := ih (b.drop (9 + f.2.length)) k m (by omega) (by omega) (by omega)
   simp only [Zn8, hf, this]
theorem Zp8 (b : List UInt8) : ZaB b = match Za3 b with
 | none => ([], 0)
 | some f => (f :: (ZaB (b.drop (9 + f.2.length))).1, 9 + f.2.length + (ZaB (b.drop (9 + f.2.length))).2) := by
 unfold ZaB
 conv => lhs; unfold Zn8
 cases hf : Za3 b with
 | none => rfl
 | some f =>
  have hl := ZfO hf
  have hd : (b.drop (9 + f.2.length)).length < b.length := by rw [List.length_drop]; omega
  dsimp only
  rw [ZtN b.length (b.drop (9 + f.2.length)) b.length ((b.drop (9 + f.2.length)).length + 1) (by omega) (by omega) (by omega)]
theorem ZeX {b : List UInt8} (h : Za3 b = none) : ZaB b = ([], 0) := by rw [Zp8, h]
theorem Zgr {b : List UInt8} {f : Fr} (h : Za3 b = some f) : ZaB b = (f :: (ZaB (b.drop (9 + f.2.length))).1, 9 + f.2.length + (ZaB (b.drop (9 + f.2.length))).2) := by
 rw [Zp8 b, h]
theorem ZkG : ∀ (l : List Fr), (∀ f ∈ l, Zsr f) -> ∀ b, ZaB (codes l ++ b) = (l ++ (ZaB b).1, (codes l).length + (ZaB b).2)
 | [], _, b => by simp [codes]
 | f :: l, h, b => by
  rw [Znk, List.append_assoc]
  rw [Zgr (Zmv (h f List.mem_cons_self) _), Zv8, ZkG l (fun g hg => h g (List.mem_cons_of_mem _ hg)) b]
  simp only [List.cons_append, List.length_append, Zbz, Nat.add_assoc]
theorem Zv9 : ∀ (n : Nat) (b : List UInt8), b.length <= n -> (∀ f ∈ (ZaB b).1, Zsr f) /\ codes (ZaB b).1 = b.take (ZaB b).2 /\ (ZaB b).2 <= b.length := by
 intro n
 induction n with
 | zero =>
  intro b hb
  have : Za3 b = none := by unfold Za3; rw [if_pos (by omega)]
  rw [ZeX this]
  exact ⟨by simp, by simp [codes], Nat.zero_le _⟩
 | succ n ih =>
  intro b hb
  cases hf : Za3 b with
  | none => rw [ZeX hf]; exact ⟨by simp, by simp [codes], Nat.zero_le _⟩
  | some f =>
   obtain ⟨h1, h2, h3⟩ := Zp7 hf
   have hd : (b.drop (9 + f.2.length)).length = b.length - (9 + f.2.length) := List.length_drop
   obtain ⟨g1, g2, g3⟩ := ih (b.drop (9 + f.2.length)) (by omega)
   rw [Zgr hf]
   refine ⟨?_, ?_, ?_⟩
   ·intro g hg
    rcases List.mem_cons.1 hg with rfl | hg
    ·exact h1
    ·exact g1 g hg
   ·dsimp only
    rw [Znk, g2, <- h2]
    exact List.take_add.symm
   ·dsimp only; omega
theorem Zwa {l : List Fr} : ZfN l = none ↔ ∀ f ∈ l, Zsr f := by
 unfold ZfN
 rw [List.findSome?_eq_none_iff]
 refine forall_congr' fun f => forall_congr' fun _ => ?_
 unfold ZkL Zsr
 constructor
 ·intro h
  split at h
  ·cases h
  ·split at h
   ·cases h
   ·omega
 ·rintro ⟨h1, h2, h3⟩
  rw [if_neg (by omega), if_neg (by omega)]
end Go.Proofs.YteempnebenjkmaaGreatDoor
