/- What comes in, read as data: by the type's shape, whatever the type (whole numbers, truths, texts, lists, structs of these). -/
import Derived.Test.YtklmbkkeiihgdaaBa
import Derived.ProofKit
import Derived.SizedLaws
namespace Go.Proofs.Ytklmbkkeiihgdaa
open Go.RowKit
set_option maxRecDepth 100000

inductive Sh where
  | i (k : IntKind)
  | b
  | s
  | l (cells : List Sh)

/-- What a row's cells weigh, at the least. -/
def massS : List Sh → Nat
  | [] => 0
  | .i k :: l => k.bits / 8 + massS l
  | .b :: l => 1 + massS l
  | .s :: l => 16 + massS l
  | .l _ :: l => 24 + massS l
/-- Row by row: the cells are of these shapes, again and again. -/
inductive Fits : Sh → D → Prop
  | i (k : IntKind) (n : Int) (h : (Lit.int k n).wf = true) : Fits (.i k) (.i k n)
  | b (x : Bool) : Fits .b (.b x)
  | s (l : List UInt8) (h : l.length ≤ 140737488355328) : Fits .s (.s l)
  | l (cs : List Sh) (n : Nat) (ds : List D) (hl : ds.length = n * cs.length) (hm : n * massS cs ≤ 140737488351232) (h : ∀ (i j : Nat) (sh : Sh) (d : D), i < n → cs[j]? = some sh → ds[i * cs.length + j]? = some d → Fits sh d) : Fits (.l cs) (.l cs.length ds)
def FitsAll : List Sh → List D → Prop
  | [], [] => True
  | x :: ss, d :: ds => Fits x d ∧ FitsAll ss ds
  | _, _ => False
theorem FitsAll.length : ∀ {ss : List Sh} {ds : List D}, FitsAll ss ds → ds.length = ss.length
  | [], [], _ => rfl
  | _ :: _, _ :: _, h => by simp [h.2.length]
  | [], _ :: _, h => h.elim
  | _ :: _, [], h => h.elim
theorem FitsAll.get : ∀ {ss : List Sh} {ds : List D}, FitsAll ss ds → ∀ (j : Nat) (x : Sh) (d : D), ss[j]? = some x → ds[j]? = some d → Fits x d
  | [], [], _, j, x, d, h, _ => by simp at h
  | _ :: _, _ :: _, h, 0, x, d, h1, h2 => by simp at h1 h2; subst h1 h2; exact h.1
  | _ :: _, _ :: _, h, j + 1, x, d, h1, h2 => by simp at h1 h2; exact h.2.get j x d h1 h2
  | [], _ :: _, h, _, _, _, _, _ => h.elim
  | _ :: _, [], h, _, _, _, _, _ => h.elim
theorem FitsAll.append : ∀ {ss : List Sh} {ds : List D} {ts : List Sh} {es : List D}, FitsAll ss ds → FitsAll ts es → FitsAll (ss ++ ts) (ds ++ es)
  | [], [], _, _, _, h => h
  | _ :: _, _ :: _, _, _, h, k => ⟨h.1, h.2.append k⟩
  | [], _ :: _, _, _, h, _ => h.elim
  | _ :: _, [], _, _, h, _ => h.elim

section
variable {H : Type} {enc : TypeId × Value → H} {P : Program} {w : World} {base : Nat} {spare : Nat → Bool} {held : Bool}
end

end Go.Proofs.Ytklmbkkeiihgdaa
