/- Rows of the call's own, read as data; rows of bytes; rows written out. -/
import Derived.Test.YtklmbkkeiihgdaaProg
import Derived.Test.YtklmbkkeiihgdaaBa
namespace Go.Proofs.Ytklmbkkeiihgdaa
open Go.RowKit
set_option maxRecDepth 100000
theorem byte_info : (Try.prog.info? 5).map (fun i => (i.zero, i.size, i.bytes)) = some (some (.int .u8 0), 1, 1) := by kernel_rfl
theorem rows_info : (Try.prog.info? 23).map (fun i => (i.zero, i.size, i.bytes)) = some (some (.slice none 0 0), 1, 24) := by kernel_rfl
theorem own_keep {w w' : World} {base : Nat} {e : TypeId} {size n : Nat} {v : Value} {xs : List Value} {S : Nat → Prop} (h : w.ownsRow base e size v n xs) (hk : Keep S w w') (hS : ∀ k, base ≤ k → k < w.heap.size → ¬ S k) : w'.ownsRow base e size v n xs := by
  refine ⟨h.1, ?_⟩
  rcases h.2 with h' | ⟨g, cap, cur, hv, hg, hh, h'⟩
  · exact .inl h'
  · have hl : g < w.heap.size := (Array.getElem?_eq_some_iff.1 hh).1
    exact .inr ⟨g, cap, cur, hv, hg, (hk.block g hl (hS g hg hl)).trans hh, h'⟩
theorem own_rep {w : World} {lo : Nat} {e : TypeId} {v : Value} {n : Nat} {xs : List Value} {ds : List D} {F : Nat → Prop} (h : w.ownsRow lo e 1 v n xs) (hF : ∀ k, lo ≤ k → F k) (hd : Reps F w ds xs) (hn : n ≤ 140737488355328) : Rep F w (.l 1 ds) v := by
  have hlen : ds.length = n := by have := hd.length; have := h.1; omega
  rcases h.2 with ⟨rfl, rfl⟩ | ⟨g, cap, cur, rfl, hg, hh, h1, h2, h3, h4⟩
  · exact Rep.of_list (by simpa using hlen) (by omega) (by simp [maxLen]) hn (fun _ => ⟨rfl, rfl⟩) (fun ad ha _ => by cases ha)
  · refine Rep.of_list (by simpa using hlen) h1 h2 hn (fun ha => by cases ha) ?_
    intro ad ha _
    injection ha with ha
    subst ha
    refine ⟨hF _ hg, (Array.getElem?_eq_some_iff.1 hh).1, fun j d hd' => ?_⟩
    obtain ⟨u, hu, hr⟩ := hd.get hd'
    exact ⟨u, h.cells (g := g) rfl j u hu, hr⟩
theorem Rep.rows_len {F : Nat → Prop} {w : World} {rs : List (List UInt8)} {A : Option Addr} {n c : Nat} (h : Rep F w (dRows rs) (.slice A n c)) : rs.length = n := by simpa using h.form.1
theorem Rep.rows_at {F : Nat → Prop} {w : World} {rs : List (List UInt8)} {A : Option Addr} {n c : Nat} (h : Rep F w (dRows rs) (.slice A n c)) {k : Nat} (hk : k < n) :
    ∃ ad A' c', A = some ad ∧ ∃ hl : k < rs.length, w.cell? (ad.add k) = some (.slice A' rs[k].length c') ∧ Rep F w (dBytes rs[k]) (.slice A' rs[k].length c') := by
  obtain ⟨ad, u, rfl, h1, h2, h3, h4, h5⟩ := h.at_ hk
  have hl : k < rs.length := by simpa using h3
  rw [List.getElem_map] at h5
  obtain ⟨A', n', c', rfl, h6, _⟩ := h5.list
  have : n' = rs[k].length := by simp at h6; exact h6.symm
  subst this
  exact ⟨ad, A', c', rfl, hl, h4, h5⟩

theorem Rep.rows_max {F : Nat → Prop} {w : World} {rs : List (List UInt8)} {A : Option Addr} {n c : Nat} (h : Rep F w (dRows rs) (.slice A n c)) : n ≤ 140737488355328 := h.form.2.2.2.1
theorem Rep.bytes_max {F : Nat → Prop} {w : World} {l : List UInt8} {A : Option Addr} {n c : Nat} (h : Rep F w (dBytes l) (.slice A n c)) : n ≤ 140737488355328 := h.form.2.2.2.1
theorem vB_oneCell (l : List UInt8) : ∀ u, u ∈ l.map vB → u.oneCell' = true := by intro u hu; simp only [List.mem_map] at hu; obtain ⟨b, _, rfl⟩ := hu; rfl
theorem flatten_take_le {α : Type} (rs : List (List α)) (k : Nat) : (rs.take k).flatten.length ≤ rs.flatten.length := by
  have h : rs.flatten = (rs.take k).flatten ++ (rs.drop k).flatten := by rw [← List.flatten_append, List.take_append_drop]
  rw [h, List.length_append]
  omega
theorem get_le_flatten {α : Type} (rs : List (List α)) (k : Nat) (h : k < rs.length) : (rs.take k).flatten.length + rs[k].length ≤ rs.flatten.length := by
  have := flatten_take_le rs (k + 1)
  rw [map_take_snoc rs k h, List.flatten_append, List.flatten_singleton, List.length_append] at this
  exact this
theorem add_off (g i : Nat) : (⟨g, 0, none⟩ : Addr).add i = ⟨g, i, none⟩ := by
  unfold Addr.add; split <;> simp_all
/-- A list written out: a block of its own. -/
theorem rep_blk {F : Nat → Prop} {w : World} {g n sz : Nat} {e : TypeId} {vs : List Value} {ds : List D} (hB : Blk w g e vs.toArray) (hF : F g) (hr : Reps F w ds vs) (hn : ds.length = n * sz) (hl : n ≤ 1000000000) : Rep F w (.l sz ds) (.slice (some ⟨g, 0, none⟩) n n) := by
  refine Rep.of_list hn (Nat.le_refl _) (by simp only [maxLen]; omega) (by omega) (fun h => by cases h) ?_
  intro ad ha _
  injection ha with ha
  subst ha
  refine ⟨hF, hB.lt, fun j d hd => ?_⟩
  obtain ⟨v, hv, hr⟩ := hr.get hd
  exact ⟨v, by rw [add_off, hB.cell]; simpa using hv, hr⟩
theorem rep_alloc {F : Nat → Prop} {w : World} {n sz : Nat} {e : TypeId} {vs : List Value} {ds : List D} (hF : F w.heap.size) (hr : Reps F w ds vs) (hn : ds.length = n * sz) (hl : n ≤ 1000000000) :
    Rep F (w.alloc (.cells vs.toArray e)) (.l sz ds) (.slice (some ⟨w.heap.size, 0, none⟩) n n) :=
  rep_blk (Blk.new w e vs.toArray) hF (hr.kept ((Keep.refl _ _).alloc _)) hn hl
/-- One row, two rows of one list each, and a nil between them, written out. -/
theorem rows_one {F : Nat → Prop} {w : World} {g : Nat} {l : List UInt8} {v : Value} (hc : w.cell? ⟨g, 0, none⟩ = some v) (hF : F g) (hr : Rep F w (dBytes l) v) : Rep F w (dRows [l]) (.slice (some ⟨g, 0, none⟩) 1 1) := by
  refine Rep.of_list rfl (Nat.le_refl _) (by simp [maxLen]) (by omega) (fun h => by cases h) ?_
  intro ad ha _
  injection ha with ha
  subst ha
  refine ⟨hF, World.block_lt_of_cell? w _ hc, fun j d hd => ?_⟩
  match j, hd with
  | 0, hd => injection hd with hd; subst hd; exact ⟨v, by rw [add_off]; exact hc, hr⟩
theorem rows_two {F : Nat → Prop} {w : World} {g : Nat} {l m : List UInt8} {v u : Value} (hc : w.cell? ⟨g, 0, none⟩ = some v) (hc1 : w.cell? ⟨g, 1, none⟩ = some u) (hF : F g) (hr : Rep F w (dBytes l) v) (hr1 : Rep F w (dBytes m) u) : Rep F w (dRows [l, m]) (.slice (some ⟨g, 0, none⟩) 2 2) := by
  refine Rep.of_list rfl (Nat.le_refl _) (by simp [maxLen]) (by omega) (fun h => by cases h) ?_
  intro ad ha _
  injection ha with ha
  subst ha
  refine ⟨hF, World.block_lt_of_cell? w _ hc, fun j d hd => ?_⟩
  match j, hd with
  | 0, hd => injection hd with hd; subst hd; exact ⟨v, by rw [add_off]; exact hc, hr⟩
  | 1, hd => injection hd with hd; subst hd; exact ⟨u, by rw [add_off]; exact hc1, hr1⟩
theorem rows_three {F : Nat → Prop} {w : World} {g : Nat} {l m k : List UInt8} {v u x : Value} (hc : w.cell? ⟨g, 0, none⟩ = some v) (hc1 : w.cell? ⟨g, 1, none⟩ = some u) (hc2 : w.cell? ⟨g, 2, none⟩ = some x) (hF : F g) (hr : Rep F w (dBytes l) v) (hr1 : Rep F w (dBytes m) u) (hr2 : Rep F w (dBytes k) x) : Rep F w (dRows [l, m, k]) (.slice (some ⟨g, 0, none⟩) 3 3) := by
  refine Rep.of_list rfl (Nat.le_refl _) (by simp [maxLen]) (by omega) (fun h => by cases h) ?_
  intro ad ha _
  injection ha with ha
  subst ha
  refine ⟨hF, World.block_lt_of_cell? w _ hc, fun j d hd => ?_⟩
  match j, hd with
  | 0, hd => injection hd with hd; subst hd; exact ⟨v, by rw [add_off]; exact hc, hr⟩
  | 1, hd => injection hd with hd; subst hd; exact ⟨u, by rw [add_off]; exact hc1, hr1⟩
  | 2, hd => injection hd with hd; subst hd; exact ⟨x, by rw [add_off]; exact hc2, hr2⟩
theorem nil_bytes {F : Nat → Prop} {w : World} : Rep F w (dBytes []) (.slice none 0 0) := Rep.of_list rfl (by omega) (by simp [maxLen]) (by omega) (fun _ => ⟨rfl, rfl⟩) (fun ad ha _ => by cases ha)
theorem nil_rep {F : Nat → Prop} {w : World} : Rep F w (dRows []) (.slice none 0 0) := Rep.of_list rfl (by omega) (by simp [maxLen]) (by omega) (fun _ => ⟨rfl, rfl⟩) (fun ad ha _ => by cases ha)
end Go.Proofs.Ytklmbkkeiihgdaa
