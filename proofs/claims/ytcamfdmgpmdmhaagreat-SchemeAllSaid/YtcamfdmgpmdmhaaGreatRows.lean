/-
  No cell of these rows narrows 'for every input' (looked for: loops, veiled, ifaces, maps, wideKeys, modest, calm, conditions, laid).
  DERIVED. THE GIVEN ROWS OF THIS SEAT. 3 by the template 'for every input the law returns true; each argument reads behind the call as it read before'; 0 by the template 'total and deterministic' (their statements: YtcamfdmgpmdmhaaGreatTotals.lean).
  GIVEN WITH THE SEED: the statements are not yours to turn. If you find one false, say at which input.
  Laid BY PROGRAM, IN A SANDBOX (cutbox-rows.mjs): the forced cells as the released guide's own fill.sh prints them over the translation 870432eda51327f1… (all of the seat's roots in one cut). By AI agents, Wed Nov 11 2026. No macro, syntax, notation, axiom, sorry.
-/
import Derived.Test.YtcamfdmgpmdmhaaGreatChecked
import GoSem.Claim
import GoSem.ClaimJoined
import GoSem.ClaimMapViews
import Derived.JoinedTies
import Derived.KernelRfl
namespace Go.Proofs.YtcamfdmgpmdmhaaGreat
/- THE CELL 'sum', in the pinned program and in every row, IS THE sha256 OF THE DUMP (.gsa) THAT YtcamfdmgpmdmhaaGreatProg.lean LOADS. Nothing in Lean hashes anything: it is a label: what it is worth is what the hold of that sum in a sandbox is worth. -/
noncomputable def Tryz.pinned : Pinned := { name := "ytcamfdmgpmdmhaagreat", sum := "870432eda51327f10d19721167a69f6de142bb789b2a8467824e0f77100675f8", checked := Tryz.checked }
namespace Rows
def none {H : Type} : Left H := { results := [], args := [] }

/-- 'watershedlaw20.SchemeTells': WHATEVER THE INPUT: true; the input reads as it did. -/
def schemeTellsSpec : ChangeSpec := { name := "schemeTells", fn := fun _ => fun
  | [d1, d2, d3, d4, d5, d6] => { results := [.lit (.bool true)], args := [d1, d2, d3, d4, d5, d6] }
  | _ => none }
def schemeTellsRow : OpenClaim := { program := "ytcamfdmgpmdmhaagreat", sum := "870432eda51327f10d19721167a69f6de142bb789b2a8467824e0f77100675f8", func := "watershed/watershedlaw20.SchemeTells", spec := "schemeTells", inPlace := ["slices.overlaps[watershed/api.Share]"], unfollowed := true, recurses := true, apart := false }
def SchemeTellsSaid : Prop := schemeTellsRow.holds Tryz.pinned (OpenSpec.ofChange schemeTellsSpec)

/-- ITS FALSE NEIGHBOUR: 'it returns false'. Refute it at one input. -/
def schemeTellsWrong : ChangeSpec := { name := "schemeTells", fn := fun _ => fun
  | [d1, d2, d3, d4, d5, d6] => { results := [.lit (.bool false)], args := [d1, d2, d3, d4, d5, d6] }
  | _ => none }
def SchemeTellsWrongFalsely : Prop := schemeTellsRow.holds Tryz.pinned (OpenSpec.ofChange schemeTellsWrong)

/-- 'watershedlaw20.SchemeBytes': WHATEVER THE INPUT: true; the input reads as it did. -/
def schemeBytesSpec : ChangeSpec := { name := "schemeBytes", fn := fun _ => fun
  | [d1, d2] => { results := [.lit (.bool true)], args := [d1, d2] }
  | _ => none }
def schemeBytesRow : OpenClaim := { program := "ytcamfdmgpmdmhaagreat", sum := "870432eda51327f10d19721167a69f6de142bb789b2a8467824e0f77100675f8", func := "watershed/watershedlaw20.SchemeBytes", spec := "schemeBytes", inPlace := ["slices.overlaps[watershed/api.Share]"], unfollowed := true, recurses := true, apart := false }
def SchemeBytesSaid : Prop := schemeBytesRow.holds Tryz.pinned (OpenSpec.ofChange schemeBytesSpec)

/-- ITS FALSE NEIGHBOUR: 'it returns false'. Refute it at one input. -/
def schemeBytesWrong : ChangeSpec := { name := "schemeBytes", fn := fun _ => fun
  | [d1, d2] => { results := [.lit (.bool false)], args := [d1, d2] }
  | _ => none }
def SchemeBytesWrongFalsely : Prop := schemeBytesRow.holds Tryz.pinned (OpenSpec.ofChange schemeBytesWrong)

/-- 'watershedlaw20.SchemeAll': WHATEVER THE INPUT: true; the input reads as it did. -/
def schemeAllSpec : ChangeSpec := { name := "schemeAll", fn := fun _ => fun
  | [] => { results := [.lit (.bool true)], args := [] }
  | _ => none }
def schemeAllRow : OpenClaim := { program := "ytcamfdmgpmdmhaagreat", sum := "870432eda51327f10d19721167a69f6de142bb789b2a8467824e0f77100675f8", func := "watershed/watershedlaw20.SchemeAll", spec := "schemeAll", inPlace := ["slices.overlaps[watershed/api.Share]"], unfollowed := true, recurses := true, apart := false }
def SchemeAllSaid : Prop := schemeAllRow.holds Tryz.pinned (OpenSpec.ofChange schemeAllSpec)

/-- ITS FALSE NEIGHBOUR: 'it returns false'. Refute it at one input. -/
def schemeAllWrong : ChangeSpec := { name := "schemeAll", fn := fun _ => fun
  | [] => { results := [.lit (.bool false)], args := [] }
  | _ => none }
def SchemeAllWrongFalsely : Prop := schemeAllRow.holds Tryz.pinned (OpenSpec.ofChange schemeAllWrong)

/- THE SECOND FORM. 'bulk': how many values and letters a reading holds, each counted each time it is reached (what is shared counts as often as it is met; a slice's spare places count too). A statement '..UptoSaid' is the law's where the arguments, and the package variables that the reading takes, are together of bulk at most 1048576: NARROWER than '..Said'. Prove '..Said' where nothing that the law and all that it calls make is longer than what came in: it says more and counts as full. Else prove '..UptoSaid'. A law counts once. -/
mutual
def uptoBulk {H : Type} : DataW H → Nat
  | .lit (.string bytes) => bytes.length + 1
  | .lit _ => 1
  | .nil => 1
  | .ptr d => uptoBulk d + 1
  | .slice elems spare => uptoBulkAll elems + uptoBulkAll spare + 1
  | .agg parts => uptoBulkAll parts + 1
  | .iface _ d => uptoBulk d + 1
  | .map entries => uptoBulkEntries entries + 1
  | .held _ => 1
def uptoBulkAll {H : Type} : List (DataW H) → Nat
  | [] => 0
  | d :: r => uptoBulk d + uptoBulkAll r
def uptoBulkEntries {H : Type} : List (Lit × DataW H) → Nat
  | [] => 0
  | x :: r => uptoBulkEntry x + uptoBulkEntries r
def uptoBulkEntry {H : Type} : Lit × DataW H → Nat
  | (.string bytes, d) => bytes.length + uptoBulk d + 1
  | (_, d) => uptoBulk d + 1
 end
def uptoSmall : (H : Type) → List (DataW H) → Bool := fun _ ds => decide (uptoBulkAll ds ≤ 1048576)
def OpenSpec.upto (s : _root_.Go.ChangeSpec) : _root_.Go.OpenSpec := { _root_.Go.OpenSpec.ofChange s with cond := some uptoSmall }

/-- 'watershedlaw20.SchemeTells', WHERE WHAT IT READS IS OF BULK AT MOST 1048576: true; the input reads as it did. -/
def schemeTellsUptoRow : OpenClaim := { program := "ytcamfdmgpmdmhaagreat", sum := "870432eda51327f10d19721167a69f6de142bb789b2a8467824e0f77100675f8", func := "watershed/watershedlaw20.SchemeTells", spec := "schemeTells", inPlace := ["slices.overlaps[watershed/api.Share]"], unfollowed := true, recurses := true, apart := false, narrowed := true }
def SchemeTellsUptoSaid : Prop := schemeTellsUptoRow.holds Tryz.pinned (OpenSpec.upto schemeTellsSpec)

/-- 'watershedlaw20.SchemeBytes', WHERE WHAT IT READS IS OF BULK AT MOST 1048576: true; the input reads as it did. -/
def schemeBytesUptoRow : OpenClaim := { program := "ytcamfdmgpmdmhaagreat", sum := "870432eda51327f10d19721167a69f6de142bb789b2a8467824e0f77100675f8", func := "watershed/watershedlaw20.SchemeBytes", spec := "schemeBytes", inPlace := ["slices.overlaps[watershed/api.Share]"], unfollowed := true, recurses := true, apart := false, narrowed := true }
def SchemeBytesUptoSaid : Prop := schemeBytesUptoRow.holds Tryz.pinned (OpenSpec.upto schemeBytesSpec)

/-- 'watershedlaw20.SchemeAll', WHERE WHAT IT READS IS OF BULK AT MOST 1048576: true; the input reads as it did. -/
def schemeAllUptoRow : OpenClaim := { program := "ytcamfdmgpmdmhaagreat", sum := "870432eda51327f10d19721167a69f6de142bb789b2a8467824e0f77100675f8", func := "watershed/watershedlaw20.SchemeAll", spec := "schemeAll", inPlace := ["slices.overlaps[watershed/api.Share]"], unfollowed := true, recurses := true, apart := false, narrowed := true }
def SchemeAllUptoSaid : Prop := schemeAllUptoRow.holds Tryz.pinned (OpenSpec.upto schemeAllSpec)

end Rows
end Go.Proofs.YtcamfdmgpmdmhaaGreat
