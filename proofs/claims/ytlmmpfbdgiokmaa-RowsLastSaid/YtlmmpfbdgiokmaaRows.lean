/-
  No cell of these rows narrows 'for every input' (looked for: loops, veiled, ifaces, maps, wideKeys, modest, calm, conditions, laid).
  DERIVED. THE GIVEN ROWS OF THIS SEAT. 3 by the template 'for every input the law returns true; each argument reads behind the call as it read before'; 0 by the template 'total and deterministic' (their statements: YtlmmpfbdgiokmaaTotals.lean).
  GIVEN WITH THE SEED: the statements are not yours to turn. If you find one false, say at which input.
  Laid BY PROGRAM, IN A SANDBOX (cutbox-rows.mjs): the forced cells as the released guide's own fill.sh prints them over the translation 099b0d6c44ba59b4… (all of the seat's roots in one cut). By AI agents, Wed Nov 11 2026. No macro, syntax, notation, axiom, sorry.
-/
import Derived.Test.YtlmmpfbdgiokmaaChecked
import GoSem.Claim
import GoSem.ClaimJoined
import GoSem.ClaimMapViews
import Derived.JoinedTies
import Derived.KernelRfl
namespace Go.Proofs.Ytlmmpfbdgiokmaa
/- THE CELL 'sum', in the pinned program and in every row, IS THE sha256 OF THE DUMP (.gsa) THAT YtlmmpfbdgiokmaaProg.lean LOADS. Nothing in Lean hashes anything: it is a label: what it is worth is what the hold of that sum in a sandbox is worth. -/
noncomputable def Try.pinned : Pinned := { name := "ytlmmpfbdgiokmaa", sum := "099b0d6c44ba59b4fc5c9906def9f717394ff23ad4042e14f84542b3d40d1150", checked := Try.checked }
namespace Rows
def none {H : Type} : Left H := { results := [], args := [] }

/-- 'watershedlaw15.RowsLast': WHATEVER THE INPUT: true; the input reads as it did. -/
def rowsLastSpec : ChangeSpec := { name := "rowsLast", fn := fun _ => fun
  | [d] => { results := [.lit (.bool true)], args := [d] }
  | _ => none }
def rowsLastRow : OpenClaim := { program := "ytlmmpfbdgiokmaa", sum := "099b0d6c44ba59b4fc5c9906def9f717394ff23ad4042e14f84542b3d40d1150", func := "watershed/watershedlaw15.RowsLast", spec := "rowsLast", inPlace := ["internal/bytealg.abigen_runtime_cmpstring", "slices.overlaps[watershed/api.Row]"], unfollowed := true, recurses := true, apart := false }
def RowsLastSaid : Prop := rowsLastRow.holds Try.pinned (OpenSpec.ofChange rowsLastSpec)

/-- ITS FALSE NEIGHBOUR: 'it returns false'. Refute it at one input. -/
def rowsLastWrong : ChangeSpec := { name := "rowsLast", fn := fun _ => fun
  | [d] => { results := [.lit (.bool false)], args := [d] }
  | _ => none }
def RowsLastWrongFalsely : Prop := rowsLastRow.holds Try.pinned (OpenSpec.ofChange rowsLastWrong)

/-- 'watershedlaw15.RowsBytes': WHATEVER THE INPUT: true; the input reads as it did. -/
def rowsBytesSpec : ChangeSpec := { name := "rowsBytes", fn := fun _ => fun
  | [d1, d2] => { results := [.lit (.bool true)], args := [d1, d2] }
  | _ => none }
def rowsBytesRow : OpenClaim := { program := "ytlmmpfbdgiokmaa", sum := "099b0d6c44ba59b4fc5c9906def9f717394ff23ad4042e14f84542b3d40d1150", func := "watershed/watershedlaw15.RowsBytes", spec := "rowsBytes", inPlace := ["internal/bytealg.abigen_runtime_cmpstring", "slices.overlaps[watershed/api.Row]"], unfollowed := true, recurses := true, apart := false }
def RowsBytesSaid : Prop := rowsBytesRow.holds Try.pinned (OpenSpec.ofChange rowsBytesSpec)

/-- ITS FALSE NEIGHBOUR: 'it returns false'. Refute it at one input. -/
def rowsBytesWrong : ChangeSpec := { name := "rowsBytes", fn := fun _ => fun
  | [d1, d2] => { results := [.lit (.bool false)], args := [d1, d2] }
  | _ => none }
def RowsBytesWrongFalsely : Prop := rowsBytesRow.holds Try.pinned (OpenSpec.ofChange rowsBytesWrong)

/-- 'watershedlaw15.RowsParts': WHATEVER THE INPUT: true; the input reads as it did. -/
def rowsPartsSpec : ChangeSpec := { name := "rowsParts", fn := fun _ => fun
  | [d1, d2, d3] => { results := [.lit (.bool true)], args := [d1, d2, d3] }
  | _ => none }
def rowsPartsRow : OpenClaim := { program := "ytlmmpfbdgiokmaa", sum := "099b0d6c44ba59b4fc5c9906def9f717394ff23ad4042e14f84542b3d40d1150", func := "watershed/watershedlaw15.RowsParts", spec := "rowsParts", inPlace := ["internal/bytealg.abigen_runtime_cmpstring", "slices.overlaps[watershed/api.Row]"], unfollowed := true, recurses := true, apart := false }
def RowsPartsSaid : Prop := rowsPartsRow.holds Try.pinned (OpenSpec.ofChange rowsPartsSpec)

/-- ITS FALSE NEIGHBOUR: 'it returns false'. Refute it at one input. -/
def rowsPartsWrong : ChangeSpec := { name := "rowsParts", fn := fun _ => fun
  | [d1, d2, d3] => { results := [.lit (.bool false)], args := [d1, d2, d3] }
  | _ => none }
def RowsPartsWrongFalsely : Prop := rowsPartsRow.holds Try.pinned (OpenSpec.ofChange rowsPartsWrong)

/- THE SECOND FORM. 'bulk': how many values and letters a reading holds, each counted each time it is reached (what is shared counts as often as it is met; a slice's spare places count too). A statement '..UptoSaid' is the law's where the arguments, and the package variables that the reading takes, are together of bulk at most 1048576: NARROWER than '..Said'. Prove '..Said' where nothing that the law and all that it calls make is longer than what came in: it says more and counts as full. Else prove '..UptoSaid'. A law counts once. -/
mutual
def uptoBulk {H : Type} : DataW H → Nat
  | .lit (.string bytes) => bytes.length + 1
  | .lit _ => 1
  | .nil => 1
  | .ptr d => uptoBulk d + 1
  | .slice elems spare => uptoBulkAll elems + uptoBulkAll spare + 1
  | .agg parts => uptoBulkAll parts + 1
  | .iface _ d => uptoBulk d + 1
  | .map entries => uptoBulkEntries entries + 1
  | .held _ => 1
def uptoBulkAll {H : Type} : List (DataW H) → Nat
  | [] => 0
  | d :: r => uptoBulk d + uptoBulkAll r
def uptoBulkEntries {H : Type} : List (Lit × DataW H) → Nat
  | [] => 0
  | x :: r => uptoBulkEntry x + uptoBulkEntries r
def uptoBulkEntry {H : Type} : Lit × DataW H → Nat
  | (.string bytes, d) => bytes.length + uptoBulk d + 1
  | (_, d) => uptoBulk d + 1
 end
def uptoSmall : (H : Type) → List (DataW H) → Bool := fun _ ds => decide (uptoBulkAll ds ≤ 1048576)
def OpenSpec.upto (s : _root_.Go.ChangeSpec) : _root_.Go.OpenSpec := { _root_.Go.OpenSpec.ofChange s with cond := some uptoSmall }

/-- 'watershedlaw15.RowsLast', WHERE WHAT IT READS IS OF BULK AT MOST 1048576: true; the input reads as it did. -/
def rowsLastUptoRow : OpenClaim := { program := "ytlmmpfbdgiokmaa", sum := "099b0d6c44ba59b4fc5c9906def9f717394ff23ad4042e14f84542b3d40d1150", func := "watershed/watershedlaw15.RowsLast", spec := "rowsLast", inPlace := ["internal/bytealg.abigen_runtime_cmpstring", "slices.overlaps[watershed/api.Row]"], unfollowed := true, recurses := true, apart := false, narrowed := true }
def RowsLastUptoSaid : Prop := rowsLastUptoRow.holds Try.pinned (OpenSpec.upto rowsLastSpec)

/-- 'watershedlaw15.RowsBytes', WHERE WHAT IT READS IS OF BULK AT MOST 1048576: true; the input reads as it did. -/
def rowsBytesUptoRow : OpenClaim := { program := "ytlmmpfbdgiokmaa", sum := "099b0d6c44ba59b4fc5c9906def9f717394ff23ad4042e14f84542b3d40d1150", func := "watershed/watershedlaw15.RowsBytes", spec := "rowsBytes", inPlace := ["internal/bytealg.abigen_runtime_cmpstring", "slices.overlaps[watershed/api.Row]"], unfollowed := true, recurses := true, apart := false, narrowed := true }
def RowsBytesUptoSaid : Prop := rowsBytesUptoRow.holds Try.pinned (OpenSpec.upto rowsBytesSpec)

/-- 'watershedlaw15.RowsParts', WHERE WHAT IT READS IS OF BULK AT MOST 1048576: true; the input reads as it did. -/
def rowsPartsUptoRow : OpenClaim := { program := "ytlmmpfbdgiokmaa", sum := "099b0d6c44ba59b4fc5c9906def9f717394ff23ad4042e14f84542b3d40d1150", func := "watershed/watershedlaw15.RowsParts", spec := "rowsParts", inPlace := ["internal/bytealg.abigen_runtime_cmpstring", "slices.overlaps[watershed/api.Row]"], unfollowed := true, recurses := true, apart := false, narrowed := true }
def RowsPartsUptoSaid : Prop := rowsPartsUptoRow.holds Try.pinned (OpenSpec.upto rowsPartsSpec)

end Rows
end Go.Proofs.Ytlmmpfbdgiokmaa
