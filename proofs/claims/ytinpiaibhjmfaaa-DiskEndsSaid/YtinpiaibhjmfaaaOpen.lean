/- What comes in, read as data: by the type's shape, whatever the type (whole numbers, truths, texts, lists, structs of these). -/
import Derived.Test.YtinpiaibhjmfaaaBa
import Derived.ProofKit
import Derived.SizedLaws
namespace Go.Proofs.Ytinpiaibhjmfaaa
open Go.RowKit
set_option maxRecDepth 100000
inductive Sh where
 | i (k : IntKind)
 | b
 | s
 | l (cells : List Sh)
def ZlG : List Sh -> Nat
 | [] => 0
 | .i k :: l => k.bits / 8 + ZlG l
 | .b :: l => 1 + ZlG l
 | .s :: l => 16 + ZlG l
 | .l _ :: l => 24 + ZlG l
inductive Zoo : Sh -> D -> Prop
 | i (k : IntKind) (n : Int) (h : (Lit.int k n).wf = true) : Zoo (.i k) (.i k n)
 | b (x : Bool) : Zoo .b (.b x)
 | s (l : List UInt8) (h : l.length <= 140737488355328) : Zoo .s (.s l)
 | l (cs : List Sh) (n : Nat) (ds : List D) (hl : ds.length = n * cs.length) (hm : n * ZlG cs <= 140737488351232) (h : ∀ (i j : Nat) (sh : Sh) (d : D), i < n -> cs[j]? = some sh -> ds[i * cs.length + j]? = some d -> Zoo sh d) : Zoo (.l cs) (.l cs.length ds)
def Zev : List Sh -> List D -> Prop
 | [], [] => True
 | x :: ss, d :: ds => Zoo x d /\ Zev ss ds
 | _, _ => False
theorem Zev.length : ∀ {ss : List Sh} {ds : List D}, Zev ss ds -> ds.length = ss.length
 | [], [], _ => rfl
 | _ :: _, _ :: _, h => by simp [h.2.length]
 | [], _ :: _, h => h.elim
 | _ :: _, [], h => h.elim
theorem Zev.get : ∀ {ss : List Sh} {ds : List D}, Zev ss ds -> ∀ (j : Nat) (x : Sh) (d : D), ss[j]? = some x -> ds[j]? = some d -> Zoo x d
 | [], [], _, j, x, d, h, _ => by simp at h
 | _ :: _, _ :: _, h, 0, x, d, h1, h2 => by simp at h1 h2; subst h1 h2; exact h.1
 | _ :: _, _ :: _, h, j + 1, x, d, h1, h2 => by simp at h1 h2; exact h.2.get j x d h1 h2
 | [], _ :: _, h, _, _, _, _, _ => h.elim
 | _ :: _, [], h, _, _, _, _, _ => h.elim
theorem Zev.append : ∀ {ss : List Sh} {ds : List D} {ts : List Sh} {es : List D}, Zev ss ds -> Zev ts es -> Zev (ss ++ ts) (ds ++ es)
 | [], [], _, _, _, h => h
 | _ :: _, _ :: _, _, _, h, k => ⟨h.1, h.2.append k⟩
 | [], _ :: _, _, _, h, _ => h.elim
 | _ :: _, [], _, _, h, _ => h.elim
section
variable {H : Type} {enc : TypeId × Value -> H} {P : Program} {w : World} {base : Nat} {spare : Nat -> Bool} {held : Bool}
end
end Go.Proofs.Ytinpiaibhjmfaaa
