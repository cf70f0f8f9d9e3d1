/- What comes in, read as data: by the type's shape, whatever the type (whole numbers, truths, texts, lists, structs of these). -/
import Derived.Test.YtlmmpfbdgiokmaaGreatBa
import Derived.ProofKit
import Derived.SizedLaws
namespace Go.Proofs.YtlmmpfbdgiokmaaGreat
open Go.RowKit
set_option maxRecDepth 100000
inductive Sh where
 | i (k : IntKind)
 | b
 | s
 | l (cells : List Sh)
def Zw9 : List Sh -> Nat
 | [] => 0
 | .i k :: l => k.bits / 8 + Zw9 l
 | .b :: l => 1 + Zw9 l
 | .s :: l => 16 + Zw9 l
 | .l _ :: l => 24 + Zw9 l
inductive ZA6 : Sh -> D -> Prop
 | i (k : IntKind) (n : Int) (h : (Lit.int k n).wf = true) : ZA6 (.i k) (.i k n)
 | b (x : Bool) : ZA6 .b (.b x)
 | s (l : List UInt8) (h : l.length <= 140737488355328) : ZA6 .s (.s l)
 | l (cs : List Sh) (n : Nat) (ds : List D) (hl : ds.length = n * cs.length) (hm : n * Zw9 cs <= 140737488351232) (h : ∀ (i j : Nat) (sh : Sh) (d : D), i < n -> cs[j]? = some sh -> ds[i * cs.length + j]? = some d -> ZA6 sh d) : ZA6 (.l cs) (.l cs.length ds)
def ZiL : List Sh -> List D -> Prop
 | [], [] => True
 | x :: ss, d :: ds => ZA6 x d /\ ZiL ss ds
 | _, _ => False
theorem ZiL.length : ∀ {ss : List Sh} {ds : List D}, ZiL ss ds -> ds.length = ss.length
 | [], [], _ => rfl
 | _ :: _, _ :: _, h => by simp [h.2.length]
 | [], _ :: _, h => h.elim
 | _ :: _, [], h => h.elim
theorem ZiL.get : ∀ {ss : List Sh} {ds : List D}, ZiL ss ds -> ∀ (j : Nat) (x : Sh) (d : D), ss[j]? = some x -> ds[j]? = some d -> ZA6 x d
 | [], [], _, j, x, d, h, _ => by simp at h
 | _ :: _, _ :: _, h, 0, x, d, h1, h2 => by simp at h1 h2; subst h1 h2; exact h.1
 | _ :: _, _ :: _, h, j + 1, x, d, h1, h2 => by simp at h1 h2; exact h.2.get j x d h1 h2
 | [], _ :: _, h, _, _, _, _, _ => h.elim
 | _ :: _, [], h, _, _, _, _, _ => h.elim
theorem ZiL.append : ∀ {ss : List Sh} {ds : List D} {ts : List Sh} {es : List D}, ZiL ss ds -> ZiL ts es -> ZiL (ss ++ ts) (ds ++ es)
 | [], [], _, _, _, h => h
 | _ :: _, _ :: _, _, _, h, k => ⟨h.1, h.2.append k⟩
 | [], _ :: _, _, _, h, _ => h.elim
 | _ :: _, [], _, _, h, _ => h.elim
section
variable {H : Type} {enc : TypeId × Value -> H} {P : Program} {w : World} {base : Nat} {spare : Nat -> Bool} {held : Bool}
end
end Go.Proofs.YtlmmpfbdgiokmaaGreat
