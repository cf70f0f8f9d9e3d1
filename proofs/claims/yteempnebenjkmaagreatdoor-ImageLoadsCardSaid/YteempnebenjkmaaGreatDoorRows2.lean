/- Rows of the call's own, read as data; rows of bytes; rows written out. -/
import Derived.Test.YteempnebenjkmaaGreatDoorProg
import Derived.Test.YteempnebenjkmaaGreatDoorBa
namespace Go.Proofs.YteempnebenjkmaaGreatDoor
open Go.RowKit
set_option maxRecDepth 100000
theorem Zvy : (Tryz.prog.info? 5).map (fun i => (i.zero, i.size, i.bytes)) = some (some (.int .u8 0), 1, 1) := by kernel_rfl
theorem ZzF {w : World} {lo : Nat} {e : TypeId} {v : Value} {n : Nat} {xs : List Value} {ds : List D} {F : Nat -> Prop} (h : w.ownsRow lo e 1 v n xs) (hF : ∀ k, lo <= k -> F k) (hd : Zd3 F w ds xs) (hn : n <= 140737488355328) : Rep F w (.l 1 ds) v := by
 have hlen : ds.length = n := by have := hd.length; have := h.1; omega
 rcases h.2 with ⟨rfl, rfl⟩ | ⟨g, cap, cur, rfl, hg, hh, h1, h2, h3, h4⟩
 ·exact Rep.of_list (by simpa using hlen) (by omega) (by simp [maxLen]) hn (fun _ => ⟨rfl, rfl⟩) (fun ad ha _ => by cases ha)
 ·refine Rep.of_list (by simpa using hlen) h1 h2 hn (fun ha => by cases ha) ?_
  intro ad ha _
  injection ha with ha
  subst ha
  refine ⟨hF _ hg, (Array.getElem?_eq_some_iff.1 hh).1, fun j d hd' => ?_⟩
  obtain ⟨u, hu, hr⟩ := hd.get hd'
  exact ⟨u, h.cells (g := g) rfl j u hu, hr⟩
theorem Rep.rows_len {F : Nat -> Prop} {w : World} {rs : List (List UInt8)} {A : Option Addr} {n c : Nat} (h : Rep F w (ZmA rs) (.slice A n c)) : rs.length = n := by simpa using h.form.1
theorem Rep.rows_at {F : Nat -> Prop} {w : World} {rs : List (List UInt8)} {A : Option Addr} {n c : Nat} (h : Rep F w (ZmA rs) (.slice A n c)) {k : Nat} (hk : k < n) :
 ∃ ad A' c', A = some ad /\ ∃ hl : k < rs.length, w.cell? (ad.add k) = some (.slice A' rs[k].length c') /\ Rep F w (Zey rs[k]) (.slice A' rs[k].length c') := by
 obtain ⟨ad, u, rfl, h1, h2, h3, h4, h5⟩ := h.at_ hk
 have hl : k < rs.length := by simpa using h3
 rw [List.getElem_map] at h5
 obtain ⟨A', n', c', rfl, h6, _⟩ := h5.list
 have : n' = rs[k].length := by simp at h6; exact h6.symm
 subst this
 exact ⟨ad, A', c', rfl, hl, h4, h5⟩
theorem Rep.rows_max {F : Nat -> Prop} {w : World} {rs : List (List UInt8)} {A : Option Addr} {n c : Nat} (h : Rep F w (ZmA rs) (.slice A n c)) : n <= 140737488355328 := h.form.2.2.2.1
theorem Rep.bytes_max {F : Nat -> Prop} {w : World} {l : List UInt8} {A : Option Addr} {n c : Nat} (h : Rep F w (Zey l) (.slice A n c)) : n <= 140737488355328 := h.form.2.2.2.1
theorem Ztm (l : List UInt8) : ∀ u, u ∈ l.map vB -> u.oneCell' = true := by intro u hu; simp only [List.mem_map] at hu; obtain ⟨b, _, rfl⟩ := hu; rfl
theorem Zl0 {α : Type} (rs : List (List α)) (k : Nat) : (rs.take k).flatten.length <= rs.flatten.length := by
 have h : rs.flatten = (rs.take k).flatten ++ (rs.drop k).flatten := by rw [<- List.flatten_append, List.take_append_drop]
 rw [h, List.length_append]
 omega
theorem ZmL {α : Type} (rs : List (List α)) (k : Nat) (h : k < rs.length) : (rs.take k).flatten.length + rs[k].length <= rs.flatten.length := by
 have := Zl0 rs (k + 1)
 rw [Zdj rs k h, List.flatten_append, List.flatten_singleton, List.length_append] at this
 exact this
end Go.Proofs.YteempnebenjkmaaGreatDoor
