/- The walk of SumTells. -/
import Derived.Test.YtcplpfmickdccaaSumL
namespace Go.Proofs.Ytcplpfmickdccaa
open Go.RowKit
theorem beq_same (x : Int) : (x == x) = true := by simp
theorem mem_le_flatten {α : Type} (rs : List (List α)) : ∀ r ∈ rs, r.length ≤ rs.flatten.length := by
  intro r hr
  obtain ⟨i, hi, rfl⟩ := List.getElem_of_mem hr
  have := get_le_flatten rs i hi
  omega
theorem map_snd_mem {α β : Type} {ps : List (α × β)} {rs : List β} (h : ps.map (·.2) = rs) : ∀ p ∈ ps, p.2 ∈ rs := by
  intro p hp; rw [← h]; exact List.mem_map_of_mem hp
set_option maxRecDepth 100000 in
set_option maxHeartbeats 1000000 in
theorem SumTells_any (F : Nat → Prop) (rs : List (List UInt8)) (A : Option Addr) (n c : Nat) (s : BitVec 32) (w : World) (hr : Rep F w (dRows rs) (.slice A n c)) :
    Calls Try.prog 3 #[.slice A n c, .int .u32 (s.toNat : Int)] w fun e w' => e = .returned (.bool true) ∧ Keep (fun _ => False) w w' := by
  have HR := Lib.hid hr
  clear hr
  go_enter Try.func3, Try.ntmps3
  go_wp2_with fail
  refine (great_any F rs A n c w HR.out).mono ?_
  rintro e w1 ⟨⟨g, rfl, hg⟩, hD⟩
  have HD := Lib.hid hD.keep
  clear hD
  cases g
  · have HG := Lib.hid (hg rfl)
    clear hg
    have HRL := Lib.hid HR.out.rows_len
    have hn : n ≤ 20000 := by have h1 := HG.out; have h2 := HRL.out; omega
    go_wp2_with fail
    refine (LentRows_any F rs A n c _ (HR.out.kept HD.out) (by omega) (fun r hr => by have h1 := HG.out; have h2 := mem_le_flatten rs r hr; omega)).mono ?_
    rintro e w2 ⟨v, ps, rfl, hps, hL, hK2⟩
    have HP := Lib.hid hps
    have HL := Lib.hid hL
    have HK2 := Lib.hid hK2
    have HM : Hid (∀ p ∈ ps, p.2.length ≤ 1000000000) := fun p hp => by have h1 := HG.out; have h2 := mem_le_flatten rs _ (map_snd_mem hps p hp); omega
    have HPL : Hid (ps.length ≤ 1000000000) := by show ps.length ≤ _; have h1 := HG.out; rw [← hps] at h1; simp only [List.length_map] at h1; omega
    have HLr : Hid (Rep (fun k => w1.heap.size ≤ k) w2 (dRows rs) v) := by have := hL.rep HM.out HPL.out; rw [hps] at this; exact this
    clear hps hL hK2
    obtain ⟨A', c', rfl⟩ := HL.out.form
    go_wp2_with fail
    refine (Sum_any _ rs _ _ _ _ HLr.out).mono ?_
    rintro e w3 ⟨rfl, hK3⟩
    have HK3 := Lib.hid hK3
    clear hK3
    go_wp2_with fail
    refine (rSum_any F rs A n c _ ((HR.out.kept HD.out).kept (HK2.out.trans HK3.out)) (by have h1 := HG.out; omega)).mono ?_
    rintro e w4 ⟨rfl, hK4⟩
    have HK4 := Lib.hid hK4
    clear hK4
    have hb1 := beq_same ((Crc.more 0#32 rs.flatten).toNat : Int)
    have hb2 := beq_same ((Crc.more s rs.flatten).toNat : Int)
    go_wp2_with fail
    refine (More_any _ rs _ _ _ s _ ((HLr.out.kept HK3.out).kept HK4.out)).mono ?_
    rintro e w5 ⟨rfl, hK5⟩
    have HK5 := Lib.hid hK5
    clear hK5
    go_wp2_with fail
    refine (rMore_any F rs A n c s _ ((HR.out.kept HD.out).kept ((HK2.out.trans HK3.out).trans (HK4.out.trans HK5.out)))).mono ?_
    rintro e w6 ⟨rfl, rfl⟩
    have HK6 : Hid (Keep (fun _ => False) w2 w5) := (HK3.out.trans HK4.out).trans HK5.out
    go_wp2_with fail
    refine (KeptRows_any F ps A A' n _ c c' _ _ (by rw [HP.out]; exact (HR.out.kept HD.out).kept (HK2.out.trans HK6.out)) (HL.out.keep HK6.out (fun _ _ _ => id)) HM.out).mono ?_
    rintro e w7 ⟨rfl, hD7⟩
    have HD7 := Lib.hid hD7.keep
    clear hD7
    go_wp2_with fail
    refine (awake_any _).mono ?_
    rintro e w8 ⟨rfl, hK8⟩
    have HK8 := Lib.hid hK8
    clear hK8
    go_wp2
    go_ret
    exact ⟨rfl, (HD.out.trans (HK2.out.trans HK6.out)).trans (HD7.out.trans HK8.out)⟩
  · clear hg
    go_wp2_with fail
    refine (awake_any _).mono ?_
    rintro e w8 ⟨rfl, hK8⟩
    have HK8 := Lib.hid hK8
    clear hK8
    go_wp2
    go_ret
    exact ⟨rfl, HD.out.trans HK8.out⟩
end Go.Proofs.Ytcplpfmickdccaa
