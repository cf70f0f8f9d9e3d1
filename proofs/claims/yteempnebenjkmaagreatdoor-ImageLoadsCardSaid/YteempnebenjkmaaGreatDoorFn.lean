/- Chapter 03: a number that is read of an object's bytes: its contract. -/
import Derived.Test.YteempnebenjkmaaGreatDoorMm
import Derived.Test.YteempnebenjkmaaGreatDoorMd
import Derived.Test.YteempnebenjkmaaGreatDoorSumM
import Derived.Test.YteempnebenjkmaaGreatDoorFramePure
import Derived.Deep.RegionHeld3
namespace Go.Proofs.YteempnebenjkmaaGreatDoor
open Go.RowKit
set_option linter.unusedSimpArgs false
set_option maxRecDepth 100000
set_option linter.unusedVariables false
set_option linter.unusedSectionVars false
section
variable {T : Nat -> Type} {C : ZaA T} {P : Program} {U : Nat -> Prop}
variable {Eb : Nat} {tb : T Eb -> UInt8} (hb : ∀ x, C.enc Eb x = [.int .u8 ((tb x).toNat : Int)])
include hb
theorem Tr.numb {f : FuncId} {t : TypeId} {xs : List (T Eb)} {rest : List (XV T)} {x g : Int} (hf : ZcZ P f = true)
 (hcall : ∀ b A c w, xs.length <= 140737488355328 -> w.cell? ⟨b, 0, none⟩ = some (.slice A xs.length c) -> Rep (fun _ => True) w (Zey (xs.map tb)) (.slice A xs.length c) -> Calls P f #[.pointer (some ⟨b, 0, none⟩), .int .i64 x] w fun e w' => e = .returned (.int .u32 g) /\ w = w') :
 Tr C P U f [.ptr 0 0, .int .i64 x] [.obj t (.sl Eb xs none :: rest)] (.int .u32 g) [.obj t (.sl Eb xs none :: rest)] := by
 intro ρ σ vs hs H
 obtain ⟨a, a2, rfl, h1, h2⟩ := Zig.1 hs
 obtain ⟨c, rfl, hcN, hρ⟩ := Zdp.1 h1
 rw [Zaw.1 h2]
 obtain ⟨b', acs, q1, q2, q3, q4⟩ := H.it 0 _ rfl
 obtain ⟨a3, acs2, rfl, q5, q6⟩ := q4.to
 have hcb : c = b' := ZnO (hρ.symm.trans q1)
 subst hcb
 refine fun w Z hH hV => .inl ⟨hf, ?_⟩
 obtain ⟨o1, o2, o3⟩ := hH.own _ _ _ q2
 have hcell : w.cell? ⟨c, 0, none⟩ = some a3.val := Zdl hH q2 0 0 (d := a3) rfl
 obtain ⟨A, cc, e1, hR⟩ := Zpw hb q5 (o3 a3 List.mem_cons_self)
 obtain ⟨_, _, _, _, _, _, _, hlen, _⟩ := Zb8.1 q5
 rw [e1] at hcell hR
 refine Calls.mono (hcall c A cc w hlen hcell hR) ?_
 rintro e w' ⟨rfl, rfl⟩
 exact ⟨.raw (.int .u32 g), σ, by simp, ⟨ρ, Zaw.2 rfl, H, .refl _ _ _ _⟩, hH, by unfold Zag; trivial, Grow.refl _ _⟩
end
theorem ZqZ (x : Nat) (b : UInt8) (k : Nat) (hk : k < 4) (hx : x < 256 ^ k) : Go.bits .or .u32 (x : Int) ((b.toNat : Int) % 4294967296 * 2 ^ (8 * k) % 4294967296) = ((x + b.toNat * 256 ^ k : Nat) : Int) := by
 have hb := b.toNat_lt
 have hp : (256 : Nat) ^ k = 2 ^ (8 * k) := by rw [show (256 : Nat) = 2 ^ 8 from rfl, <- Nat.pow_mul]
 have hk3 : (256 : Nat) ^ k <= 256 ^ 3 := Nat.pow_le_pow_right (by omega) (by omega)
 have hm : b.toNat * 256 ^ k <= 255 * 256 ^ 3 := Nat.mul_le_mul (by omega) hk3
 have h1 : (b.toNat : Int) % 4294967296 * 2 ^ (8 * k) % 4294967296 = ((b.toNat * 256 ^ k : Nat) : Int) := by
  have hb' : (b.toNat : Int) % 4294967296 = b.toNat := by omega
  rw [hb', show ((2 : Int) ^ (8 * k)) = ((256 ^ k : Nat) : Int) from by rw [hp]; simp, <- Int.natCast_mul, Int.emod_eq_of_lt (by omega) (by omega)]
 rw [h1, u32_or_nat _ _ (by omega) (by omega), Nat.or_comm, nat_join (8 * k) _ _ (by rw [hp]; exact Nat.mul_mod_left _ _) (by rw [<- hp]; exact hx), Nat.add_comm]
set_option maxHeartbeats 1000000 in
theorem Zto (F : Nat -> Prop) (l : List UInt8) (A : Option Addr) (n c g at_ : Nat) (w : World) (hc : w.cell? ⟨g, 0, none⟩ = some (.slice A n c)) (hr : Rep F w (Zey l) (.slice A n c)) (ha : at_ + 4 <= n) (hn : n <= 140737488355328) :
 Calls Tryz.prog 153 #[.pointer (some ⟨g, 0, none⟩), .int .i64 at_] w fun e w' => e = .returned (.int .u32 (num l at_)) /\ w = w' := by
 have HR := Lib.hid hr
 clear hr
 go_enter Tryz.func153, Tryz.ntmps153
 go_wp2
 go_loop [5, 6, 7] (fun x _ i => ∃ k : Nat, k <= 4 /\ i = .int .i64 k /\ x = .int .u32 (Zvz (l.drop at_) k)) (fun _ _ i => 4 - (intOf i).toNat)
 case atStart => exact ⟨0, by omega, rfl, rfl⟩
 case round =>
  obtain ⟨k, hk, rfl, rfl⟩ := hrel
  by_cases hlt : k < 4
  ·obtain ⟨ad, rfl, _, _, hlb, hc2⟩ := HR.out.bytes_at (k := at_ + k) (by omega)
   go_wp2
   go_round
   case rel => exact ⟨k + 1, by omega, by go_num, by
    have hd : (l.drop at_).getD k 0 = l[at_ + k] := by simp [List.getD_eq_getElem?_getD, hlb]
    rw [ZqZ _ _ _ hlt (ZvA _ _)]
    simp only [Zvz, hd]⟩
   case measure => simp [intOf]; omega
  ·have : k = 4 := by omega
   subst this
   go_wp2
   go_ret
   exact ⟨rfl, rfl⟩
theorem ZpH {l : List UInt8} {x : Int} (h0 : 0 <= x) (hx : x.toNat + 4 <= l.length) (b : Nat) (A : Option Addr) (c : Nat) (w : World) (hn : l.length <= 140737488355328) (hc : w.cell? ⟨b, 0, none⟩ = some (.slice A l.length c)) (hr : Rep (fun _ => True) w (Zey l) (.slice A l.length c)) :
 Calls Tryz.prog 153 #[.pointer (some ⟨b, 0, none⟩), .int .i64 x] w fun e w' => e = .returned (.int .u32 (num l x.toNat)) /\ w = w' := by
 obtain ⟨n, rfl⟩ : ∃ n : Nat, x = (n : Int) := ⟨x.toNat, by omega⟩
 exact Zto _ l A l.length c b n w hc hr (by simpa using hx) hn
end Go.Proofs.YteempnebenjkmaaGreatDoor
