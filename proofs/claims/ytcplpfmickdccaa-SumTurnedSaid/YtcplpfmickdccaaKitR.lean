/- The walks of watershedkit over rows of bytes. -/
import Derived.Test.YtcplpfmickdccaaKitB
namespace Go.Proofs.Ytcplpfmickdccaa
open Go.RowKit

theorem rows_info : (Try.prog.info? 34).map (fun i => (i.zero, i.size, i.bytes)) = some (some (.slice none 0 0), 1, 24) := by kernel_rfl
/-- A row that was lent: its block, its bytes. -/
def lentV (p : Nat × List UInt8) : Value := .slice (some ⟨p.1, 0, none⟩) p.2.length (p.2.length + 12)
def LentB (w : World) (lo : Nat) (p : Nat × List UInt8) : Prop := lo ≤ p.1 ∧ Blk w p.1 5 (p.2.map vB ++ marks 12).toArray
/-- Rows that were lent: each in a block of its own, all from block lo on. -/
def LentR (w : World) (lo : Nat) (v : Value) (ps : List (Nat × List UInt8)) : Prop :=
  w.ownsRow lo 34 1 v ps.length (ps.map lentV) ∧ ∀ p ∈ ps, LentB w lo p
theorem LentB.keep {w w' : World} {lo : Nat} {p : Nat × List UInt8} {S : Nat → Prop} (h : LentB w lo p) (hk : Keep S w w') (hS : ∀ k, lo ≤ k → k < w.heap.size → ¬ S k) : LentB w' lo p :=
  ⟨h.1, h.2.keep hk (hS _ h.1 h.2.lt)⟩
theorem own_keep {w w' : World} {base : Nat} {e : TypeId} {size n : Nat} {v : Value} {xs : List Value} {S : Nat → Prop} (h : w.ownsRow base e size v n xs) (hk : Keep S w w') (hS : ∀ k, base ≤ k → k < w.heap.size → ¬ S k) : w'.ownsRow base e size v n xs := by
  refine ⟨h.1, ?_⟩
  rcases h.2 with h' | ⟨g, cap, cur, hv, hg, hh, h'⟩
  · exact .inl h'
  · have hl : g < w.heap.size := (Array.getElem?_eq_some_iff.1 hh).1
    exact .inr ⟨g, cap, cur, hv, hg, (hk.block g hl (hS g hg hl)).trans hh, h'⟩
theorem LentR.keep {w w' : World} {lo : Nat} {v : Value} {ps : List (Nat × List UInt8)} {S : Nat → Prop} (h : LentR w lo v ps) (hk : Keep S w w') (hS : ∀ k, lo ≤ k → k < w.heap.size → ¬ S k) : LentR w' lo v ps :=
  ⟨own_keep h.1 hk hS, fun p hp => (h.2 p hp).keep hk hS⟩
theorem LentB.rep {w : World} {lo : Nat} {p : Nat × List UInt8} (h : LentB w lo p) (hl : p.2.length ≤ 1000000000) : Rep (fun k => lo ≤ k) w (dBytes p.2) (lentV p) := by
  refine Rep.of_list (by simp) (by omega) (by simp only [maxLen]; omega) (by omega) (fun h => by cases h) ?_
  intro ad ha _
  injection ha with ha
  subst ha
  refine ⟨h.1, h.2.lt, fun j d hd => ?_⟩
  rw [List.getElem?_map] at hd
  cases hb : p.2[j]? with
  | none => rw [hb] at hd; cases hd
  | some b =>
    rw [hb] at hd
    injection hd with hd
    subst hd
    have hj : j < p.2.length := (List.getElem?_eq_some_iff.1 hb).1
    refine ⟨vB b, ?_, rfl⟩
    rw [show (⟨p.1, 0, none⟩ : Addr).add j = ⟨p.1, j, none⟩ from by simp [Addr.add]; intro h; exact h.symm]
    rw [h.2.cell, List.getElem?_toArray, List.getElem?_append_left (by simpa using hj), List.getElem?_map, hb]
    rfl
theorem own_rep {w : World} {lo : Nat} {e : TypeId} {v : Value} {n : Nat} {xs : List Value} {ds : List D} {F : Nat → Prop} (h : w.ownsRow lo e 1 v n xs) (hF : ∀ k, lo ≤ k → F k) (hd : Reps F w ds xs) (hn : n ≤ 140737488355328) : Rep F w (.l 1 ds) v := by
  have hlen : ds.length = n := by have := hd.length; have := h.1; omega
  rcases h.2 with ⟨rfl, rfl⟩ | ⟨g, cap, cur, rfl, hg, hh, h1, h2, h3, h4⟩
  · exact Rep.of_list (by simpa using hlen) (by omega) (by simp [maxLen]) hn (fun _ => ⟨rfl, rfl⟩) (fun ad ha _ => by cases ha)
  · refine Rep.of_list (by simpa using hlen) h1 h2 hn (fun ha => by cases ha) ?_
    intro ad ha _
    injection ha with ha
    subst ha
    refine ⟨hF _ hg, (Array.getElem?_eq_some_iff.1 hh).1, fun j d hd' => ?_⟩
    obtain ⟨u, hu, hr⟩ := hd.get hd'
    exact ⟨u, h.cells (g := g) rfl j u hu, hr⟩
theorem LentR.rep {w : World} {lo : Nat} {v : Value} {ps : List (Nat × List UInt8)} (h : LentR w lo v ps) (hl : ∀ p ∈ ps, p.2.length ≤ 1000000000) (hn : ps.length ≤ 1000000000) : Rep (fun k => lo ≤ k) w (dRows (ps.map (·.2))) v := by
  refine own_rep h.1 (fun _ => id) (Reps.mk (by simp) ?_) (by omega)
  intro i d v hd hv
  simp only [List.map_map, List.getElem?_map] at hd hv
  cases hp : ps[i]? with
  | none => rw [hp] at hd; cases hd
  | some p =>
    rw [hp] at hd hv
    injection hd with hd
    injection hv with hv
    subst hd hv
    have hm := List.mem_of_getElem? hp
    exact (h.2 p hm).rep (hl p hm)
theorem Rep.rows_len {F : Nat → Prop} {w : World} {rs : List (List UInt8)} {A : Option Addr} {n c : Nat} (h : Rep F w (dRows rs) (.slice A n c)) : rs.length = n := by simpa using h.form.1
theorem Rep.rows_at {F : Nat → Prop} {w : World} {rs : List (List UInt8)} {A : Option Addr} {n c : Nat} (h : Rep F w (dRows rs) (.slice A n c)) {k : Nat} (hk : k < n) :
    ∃ ad A' c', A = some ad ∧ ∃ hl : k < rs.length, w.cell? (ad.add k) = some (.slice A' rs[k].length c') ∧ Rep F w (dBytes rs[k]) (.slice A' rs[k].length c') := by
  obtain ⟨ad, u, rfl, h1, h2, h3, h4, h5⟩ := h.at_ hk
  have hl : k < rs.length := by simpa using h3
  rw [List.getElem_map] at h5
  obtain ⟨A', n', c', rfl, h6, _⟩ := h5.list
  have : n' = rs[k].length := by simp at h6; exact h6.symm
  subst this
  exact ⟨ad, A', c', rfl, hl, h4, h5⟩

set_option maxHeartbeats 1000000 in
theorem LentRows_any (F : Nat → Prop) (rs : List (List UInt8)) (A : Option Addr) (n c : Nat) (w : World) (hr : Rep F w (dRows rs) (.slice A n c)) (hn : n ≤ 1000000000) (hl : ∀ r ∈ rs, r.length ≤ 1000000000) :
    Calls Try.prog 9 #[.slice A n c] w fun e w' => ∃ v ps, e = .returned v ∧ ps.map (·.2) = rs ∧ LentR w' w.heap.size v ps ∧ Keep (fun _ => False) w w' := by
  obtain ⟨i0, hi0, hz0, hz1, hz2⟩ := info_parts rows_info
  have HL := Lib.hid hr.rows_len
  have HR := Lib.hid hr
  have HLs := Lib.hid hl
  clear hr hl
  go_enter Try.func9, Try.ntmps9
  go_wp2
  go_loopw [3, 4] (fun v i wr => ∃ (k : Nat) (ps : List (Nat × List UInt8)), k ≤ n ∧ i = .int .i64 k ∧ ps.length = k ∧ ps.map (·.2) = rs.take k ∧ LentR wr w.heap.size v ps ∧ Keep (fun _ => False) w wr) (fun _ i _ => n - (intOf i).toNat)
  case atStart => exact ⟨0, [], by omega, rfl, rfl, rfl, ⟨World.ownsRow_nil _ _ _ _, by simp⟩, Keep.refl _ _⟩
  case round =>
    obtain ⟨k, ps, hk, rfl, hpk, hps, hL, hK⟩ := hrel
    have hex : ∃ v, v = u3 := ⟨_, rfl⟩
    obtain ⟨ps_v, rfl⟩ := hex
    have HK := Lib.hid hK
    have hs := hK.size
    have HP := Lib.hid hps
    have HPK := Lib.hid hpk
    have HLr := Lib.hid hL
    by_cases hlt : k < n
    · obtain ⟨ad, A', c', rfl, hlr, hc1, hRk⟩ := (HR.out.kept hK).rows_at hlt
      have hlb : rs[k].length ≤ 1000000000 := HLs.out _ (List.getElem_mem hlr)
      have HRk := Lib.hid hRk
      clear hK hps hpk hL hRk
      go_wp2_with (first
        | (go_at_call 18
           refine (LentBytes_any F rs[k] A' _ c' _ HRk.out (by omega)).mono ?_
           rintro e w2 ⟨rfl, hb2, hk2⟩
           have HB2 := Lib.hid hb2
           have HK2 := Lib.hid hk2
           clear hb2 hk2)
        | (at_builtin
           refine wpList_append_own _ rfl _ _ _ rfl w.heap.size 34 i0 _ 1 24 Try.underlying22 hi0 hz0 hz1 hz2 rfl (by omega) _ ps.length (ps.map lentV) rfl ((own_keep HLr.out.1 HK2.out (fun _ _ _ => id)).alloc _) ⟨w2.heap.size, 0, none⟩ 1 1 [lentV (wr.heap.size, rs[k])] rfl rfl ?_ ?_ ?_ ?_ ?_ ?_
           · exact cell_one_new _ _ _
           · intro u hu; simp at hu; subst hu; rfl
           · have := HPK.out; simp only [maxLen]; omega
           · have := HPK.out; omega
           · have := HK2.out.size; simp; omega
           intro v3 w3 hown3 hg3 _
           have HOW3 := Lib.hid hown3
           have HG3 := Lib.hid hg3
           clear hown3 hg3))
      have hKa : Keep (fun k => some k = ps_v.ownBlock) wr w3 := ((HK2.out.more (fun _ _ h => h.elim)).alloc _).grown HG3.out (fun g hg _ => hg.symm)
      have hlt3 := (HLr.out.1.lt)
      go_roundw
      case rel =>
        refine ⟨k + 1, ps ++ [(wr.heap.size, rs[k])], by omega, by go_num, by simp [HPK.out], by rw [map_take_snoc rs k hlr, ← HP.out]; simp, ⟨?_, ?_⟩, HK.out.andThen hKa (fun g _ hg => by have := (hlt3 g hg.symm).1; omega)⟩
        · simpa using HOW3.out
        · intro p hp
          simp only [List.mem_append, List.mem_singleton] at hp
          rcases hp with hp | rfl
          · exact ⟨(HLr.out.2 p hp).1, (HLr.out.2 p hp).2.keep hKa (own_ne HLr.out.1 (HLr.out.2 p hp).2 (by decide))⟩
          · exact ⟨hs, (HB2.out.alloc _).keep (S := fun k => some k = ps_v.ownBlock) ((Keep.refl _ _).grown HG3.out (fun g hg _ => hg.symm)) (fun h => by have := (hlt3 _ h.symm).2; omega)⟩
      case measure => simp [intOf]; omega
    · have : k = n := by omega
      subst this
      clear hlt
      go_wp2
      go_ret
      exact ⟨_, ps, rfl, by rw [hps, List.take_of_length_le (by rw [HL.out]; omega)], hL, hK⟩

theorem LentR.at_ {w : World} {lo : Nat} {A : Option Addr} {n c : Nat} {ps : List (Nat × List UInt8)} (h : LentR w lo (.slice A n c) ps) {k : Nat} (hk : k < n) :
    ∃ ad, A = some ad ∧ ∃ hl : k < ps.length, w.cell? (ad.add k) = some (lentV ps[k]) ∧ LentB w lo ps[k] := by
  rcases h.1.2 with ⟨he, h0⟩ | ⟨g, cap, cur, hv, hg, hh, h1, h2, h3, h4⟩
  · injection he with _ hn _; omega
  · injection hv with hA hn hc
    subst hA hn hc
    have hl : k < ps.length := hk
    refine ⟨_, rfl, hl, ?_, h.2 _ (List.getElem_mem hl)⟩
    refine h.1.cells (g := g) rfl k _ ?_
    rw [List.getElem?_map, List.getElem?_eq_getElem hl]; rfl
theorem LentR.form {w : World} {lo : Nat} {v : Value} {ps : List (Nat × List UInt8)} (h : LentR w lo v ps) : ∃ A c, v = .slice A ps.length c := by
  rcases h.1.2 with ⟨he, h0⟩ | ⟨g, cap, cur, hv, hg, hh, h1, h2, h3, h4⟩
  · exact ⟨none, 0, by rw [he, h0]⟩
  · exact ⟨_, _, hv⟩
set_option maxHeartbeats 1000000 in
theorem KeptRows_any (F : Nat → Prop) (ps : List (Nat × List UInt8)) (A A' : Option Addr) (n n' c c' lo : Nat) (w : World) (hr : Rep F w (dRows (ps.map (·.2))) (.slice A n c)) (hL : LentR w lo (.slice A' n' c') ps) (hl : ∀ p ∈ ps, p.2.length ≤ 1000000000) :
    Calls Try.prog 14 #[.slice A' n' c', .slice A n c] w fun e w' => e = .returned (.bool true) ∧ Drawn w w' := by
  have hn : ps.length = n := by simpa using hr.rows_len
  obtain rfl : n = n' := by
    obtain ⟨A1, c1, h1⟩ := hL.form
    injection h1 with _ h1 _
    omega
  have hm : n ≤ maxLen := by have := hr.form; omega
  simp only [maxLen] at hm
  have HN := Lib.hid hn
  have HR := Lib.hid hr
  have HL := Lib.hid hL
  have HLs := Lib.hid hl
  clear hr hL hl hn
  have hne : ((n : Int) != n) = false := by simp
  go_enter Try.func14, Try.ntmps14
  go_wp2
  go_loopw [5] (fun i wr => ∃ k : Nat, k ≤ n ∧ i = .int .i64 k ∧ Drawn w wr) (fun i _ => n - (intOf i).toNat)
  case atStart => exact ⟨0, by omega, rfl, Drawn.refl _⟩
  case round =>
    obtain ⟨k, hk, rfl, hD⟩ := hrel
    have hRw := HR.out.kept hD.keep
    have hLw := HL.out.keep hD.keep (fun _ _ _ => id)
    have HD := Lib.hid hD
    clear hD
    by_cases hlt : k < n
    · obtain ⟨ad, B, cB, rfl, hl1, hc1, hr1⟩ := hRw.rows_at hlt
      obtain ⟨ad', rfl, hl2, hc2, hb2⟩ := hLw.at_ hlt
      have hlb : ps[k].2.length ≤ 1000000000 := HLs.out _ (List.getElem_mem hl2)
      rw [List.getElem_map] at hc1 hr1
      unfold lentV at hc2
      have HC := Lib.hid (fun w (h1 : Rep F w (dBytes ps[k].2) (.slice B ps[k].2.length cB)) (h2 : Blk w ps[k].1 5 (ps[k].2.map vB ++ marks 12).toArray) => KeptBytes_any F ps[k].2 B _ cB ps[k].1 w h1 h2 hlb)
      have HR1 := Lib.hid hr1
      have HB2 := Lib.hid hb2.2
      clear hr1 hb2 hRw hLw
      go_wp2
      go_quiet ((go_at_call 22; exact quiet (HC.out _ (HR1.out.drewN _) (HB2.out.drewN _))))
      go_wp2
      go_roundw
      case rel => exact ⟨k + 1, by omega, by go_num, HD.out.drewN _⟩
      case measure => simp [intOf]; omega
    · clear hRw hLw
      go_wp2
      go_ret
      exact ⟨rfl, HD.out⟩
end Go.Proofs.Ytcplpfmickdccaa
