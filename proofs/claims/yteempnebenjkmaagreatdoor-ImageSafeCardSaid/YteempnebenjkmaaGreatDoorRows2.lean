/- Rows of the call's own, read as data; rows of bytes; rows written out. -/
import Derived.Test.YteempnebenjkmaaGreatDoorProg
import Derived.Test.YteempnebenjkmaaGreatDoorBa
namespace Go.Proofs.YteempnebenjkmaaGreatDoor
open Go.RowKit
set_option maxRecDepth 100000
theorem Rep.rows_len {F : Nat -> Prop} {w : World} {rs : List (List UInt8)} {A : Option Addr} {n c : Nat} (h : Rep F w (Zoj rs) (.slice A n c)) : rs.length = n := by simpa using h.form.1
theorem Rep.rows_at {F : Nat -> Prop} {w : World} {rs : List (List UInt8)} {A : Option Addr} {n c : Nat} (h : Rep F w (Zoj rs) (.slice A n c)) {k : Nat} (hk : k < n) :
 ∃ ad A' c', A = some ad /\ ∃ hl : k < rs.length, w.cell? (ad.add k) = some (.slice A' rs[k].length c') /\ Rep F w (Zeq rs[k]) (.slice A' rs[k].length c') := by
 obtain ⟨ad, u, rfl, h1, h2, h3, h4, h5⟩ := h.at_ hk
 have hl : k < rs.length := by simpa using h3
 rw [List.getElem_map] at h5
 obtain ⟨A', n', c', rfl, h6, _⟩ := h5.list
 have : n' = rs[k].length := by simp at h6; exact h6.symm
 subst this
 exact ⟨ad, A', c', rfl, hl, h4, h5⟩
theorem Rep.rows_max {F : Nat -> Prop} {w : World} {rs : List (List UInt8)} {A : Option Addr} {n c : Nat} (h : Rep F w (Zoj rs) (.slice A n c)) : n <= 140737488355328 := h.form.2.2.2.1
theorem Rep.bytes_max {F : Nat -> Prop} {w : World} {l : List UInt8} {A : Option Addr} {n c : Nat} (h : Rep F w (Zeq l) (.slice A n c)) : n <= 140737488355328 := h.form.2.2.2.1
end Go.Proofs.YteempnebenjkmaaGreatDoor
