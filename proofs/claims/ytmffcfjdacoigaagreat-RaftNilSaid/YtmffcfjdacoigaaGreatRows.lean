/-
  No cell of these rows narrows 'for every input' (looked for: loops, veiled, ifaces, maps, wideKeys, modest, calm, conditions, laid).
  DERIVED. THE GIVEN ROWS OF THIS SEAT. 3 by the template 'for every input the law returns true; each argument reads behind the call as it read before'; 0 by the template 'total and deterministic' (their statements: YtmffcfjdacoigaaGreatTotals.lean).
  GIVEN WITH THE SEED: the statements are not yours to turn. If you find one false, say at which input.
  Laid BY PROGRAM, IN A SANDBOX (cutbox-rows.mjs): the forced cells as the released guide's own fill.sh prints them over the translation 1f010edd03526adf… (all of the seat's roots in one cut). By AI agents, Wed Nov 11 2026. No macro, syntax, notation, axiom, sorry.
-/
import Derived.Test.YtmffcfjdacoigaaGreatChecked
import GoSem.Claim
import GoSem.ClaimJoined
import GoSem.ClaimMapViews
import Derived.JoinedTies
import Derived.KernelRfl
namespace Go.Proofs.YtmffcfjdacoigaaGreat
/- THE CELL 'sum', in the pinned program and in every row, IS THE sha256 OF THE DUMP (.gsa) THAT YtmffcfjdacoigaaGreatProg.lean LOADS. Nothing in Lean hashes anything: it is a label: what it is worth is what the hold of that sum in a sandbox is worth. -/
noncomputable def Tryz.pinned : Pinned := { name := "ytmffcfjdacoigaagreat", sum := "1f010edd03526adf28a43b5b9df5e39b2c5b6373b4f9353b05632e331dbae590", checked := Tryz.checked }
namespace Rows
def none {H : Type} : Left H := { results := [], args := [] }

/-- 'watershedlaw12.RaftNumbers': WHATEVER THE INPUT: true; the input reads as it did. -/
def raftNumbersSpec : ChangeSpec := { name := "raftNumbers", fn := fun _ => fun
  | [] => { results := [.lit (.bool true)], args := [] }
  | _ => none }
def raftNumbersRow : OpenClaim := { program := "ytmffcfjdacoigaagreat", sum := "1f010edd03526adf28a43b5b9df5e39b2c5b6373b4f9353b05632e331dbae590", func := "watershed/watershedlaw12.RaftNumbers", spec := "raftNumbers", unfollowed := true, recurses := true, apart := false }
def RaftNumbersSaid : Prop := raftNumbersRow.holds Tryz.pinned (OpenSpec.ofChange raftNumbersSpec)

/-- ITS FALSE NEIGHBOUR: 'it returns false'. Refute it at one input. -/
def raftNumbersWrong : ChangeSpec := { name := "raftNumbers", fn := fun _ => fun
  | [] => { results := [.lit (.bool false)], args := [] }
  | _ => none }
def RaftNumbersWrongFalsely : Prop := raftNumbersRow.holds Tryz.pinned (OpenSpec.ofChange raftNumbersWrong)

/-- 'watershedlaw12.RaftNil': WHATEVER THE INPUT: true; the input reads as it did. -/
def raftNilSpec : ChangeSpec := { name := "raftNil", fn := fun _ => fun
  | [d] => { results := [.lit (.bool true)], args := [d] }
  | _ => none }
def raftNilRow : OpenClaim := { program := "ytmffcfjdacoigaagreat", sum := "1f010edd03526adf28a43b5b9df5e39b2c5b6373b4f9353b05632e331dbae590", func := "watershed/watershedlaw12.RaftNil", spec := "raftNil", unfollowed := true, recurses := true, apart := false }
def RaftNilSaid : Prop := raftNilRow.holds Tryz.pinned (OpenSpec.ofChange raftNilSpec)

/-- ITS FALSE NEIGHBOUR: 'it returns false'. Refute it at one input. -/
def raftNilWrong : ChangeSpec := { name := "raftNil", fn := fun _ => fun
  | [d] => { results := [.lit (.bool false)], args := [d] }
  | _ => none }
def RaftNilWrongFalsely : Prop := raftNilRow.holds Tryz.pinned (OpenSpec.ofChange raftNilWrong)

/-- 'watershedlaw12.RaftEach': WHATEVER THE INPUT: true; the input reads as it did. -/
def raftEachSpec : ChangeSpec := { name := "raftEach", fn := fun _ => fun
  | [] => { results := [.lit (.bool true)], args := [] }
  | _ => none }
def raftEachRow : OpenClaim := { program := "ytmffcfjdacoigaagreat", sum := "1f010edd03526adf28a43b5b9df5e39b2c5b6373b4f9353b05632e331dbae590", func := "watershed/watershedlaw12.RaftEach", spec := "raftEach", unfollowed := true, recurses := true, apart := false }
def RaftEachSaid : Prop := raftEachRow.holds Tryz.pinned (OpenSpec.ofChange raftEachSpec)

/-- ITS FALSE NEIGHBOUR: 'it returns false'. Refute it at one input. -/
def raftEachWrong : ChangeSpec := { name := "raftEach", fn := fun _ => fun
  | [] => { results := [.lit (.bool false)], args := [] }
  | _ => none }
def RaftEachWrongFalsely : Prop := raftEachRow.holds Tryz.pinned (OpenSpec.ofChange raftEachWrong)

/- THE SECOND FORM. 'bulk': how many values and letters a reading holds, each counted each time it is reached (what is shared counts as often as it is met; a slice's spare places count too). A statement '..UptoSaid' is the law's where the arguments, and the package variables that the reading takes, are together of bulk at most 1048576: NARROWER than '..Said'. Prove '..Said' where nothing that the law and all that it calls make is longer than what came in: it says more and counts as full. Else prove '..UptoSaid'. A law counts once. -/
mutual
def uptoBulk {H : Type} : DataW H → Nat
  | .lit (.string bytes) => bytes.length + 1
  | .lit _ => 1
  | .nil => 1
  | .ptr d => uptoBulk d + 1
  | .slice elems spare => uptoBulkAll elems + uptoBulkAll spare + 1
  | .agg parts => uptoBulkAll parts + 1
  | .iface _ d => uptoBulk d + 1
  | .map entries => uptoBulkEntries entries + 1
  | .held _ => 1
def uptoBulkAll {H : Type} : List (DataW H) → Nat
  | [] => 0
  | d :: r => uptoBulk d + uptoBulkAll r
def uptoBulkEntries {H : Type} : List (Lit × DataW H) → Nat
  | [] => 0
  | x :: r => uptoBulkEntry x + uptoBulkEntries r
def uptoBulkEntry {H : Type} : Lit × DataW H → Nat
  | (.string bytes, d) => bytes.length + uptoBulk d + 1
  | (_, d) => uptoBulk d + 1
 end
def uptoSmall : (H : Type) → List (DataW H) → Bool := fun _ ds => decide (uptoBulkAll ds ≤ 1048576)
def OpenSpec.upto (s : _root_.Go.ChangeSpec) : _root_.Go.OpenSpec := { _root_.Go.OpenSpec.ofChange s with cond := some uptoSmall }

/-- 'watershedlaw12.RaftNumbers', WHERE WHAT IT READS IS OF BULK AT MOST 1048576: true; the input reads as it did. -/
def raftNumbersUptoRow : OpenClaim := { program := "ytmffcfjdacoigaagreat", sum := "1f010edd03526adf28a43b5b9df5e39b2c5b6373b4f9353b05632e331dbae590", func := "watershed/watershedlaw12.RaftNumbers", spec := "raftNumbers", unfollowed := true, recurses := true, apart := false, narrowed := true }
def RaftNumbersUptoSaid : Prop := raftNumbersUptoRow.holds Tryz.pinned (OpenSpec.upto raftNumbersSpec)

/-- 'watershedlaw12.RaftNil', WHERE WHAT IT READS IS OF BULK AT MOST 1048576: true; the input reads as it did. -/
def raftNilUptoRow : OpenClaim := { program := "ytmffcfjdacoigaagreat", sum := "1f010edd03526adf28a43b5b9df5e39b2c5b6373b4f9353b05632e331dbae590", func := "watershed/watershedlaw12.RaftNil", spec := "raftNil", unfollowed := true, recurses := true, apart := false, narrowed := true }
def RaftNilUptoSaid : Prop := raftNilUptoRow.holds Tryz.pinned (OpenSpec.upto raftNilSpec)

/-- 'watershedlaw12.RaftEach', WHERE WHAT IT READS IS OF BULK AT MOST 1048576: true; the input reads as it did. -/
def raftEachUptoRow : OpenClaim := { program := "ytmffcfjdacoigaagreat", sum := "1f010edd03526adf28a43b5b9df5e39b2c5b6373b4f9353b05632e331dbae590", func := "watershed/watershedlaw12.RaftEach", spec := "raftEach", unfollowed := true, recurses := true, apart := false, narrowed := true }
def RaftEachUptoSaid : Prop := raftEachUptoRow.holds Tryz.pinned (OpenSpec.upto raftEachSpec)

end Rows
end Go.Proofs.YtmffcfjdacoigaaGreat
