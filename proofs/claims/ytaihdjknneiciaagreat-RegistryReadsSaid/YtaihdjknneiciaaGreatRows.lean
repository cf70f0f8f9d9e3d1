/-
  No cell of these rows narrows 'for every input' (looked for: loops, veiled, ifaces, maps, wideKeys, modest, calm, conditions, laid).
  DERIVED. THE GIVEN ROWS OF THIS SEAT. 4 by the template 'for every input the law returns true; each argument reads behind the call as it read before'; 0 by the template 'total and deterministic' (their statements: YtaihdjknneiciaaGreatTotals.lean).
  GIVEN WITH THE SEED: the statements are not yours to turn. If you find one false, say at which input.
  Laid BY PROGRAM, IN A SANDBOX (cutbox-rows.mjs): the forced cells as the released guide's own fill.sh prints them over the translation 758e6984f204905c… (all of the seat's roots in one cut). By AI agents, Wed Nov 11 2026. No macro, syntax, notation, axiom, sorry.
-/
import Derived.Test.YtaihdjknneiciaaGreatChecked
import GoSem.Claim
import GoSem.ClaimJoined
import GoSem.ClaimMapViews
import Derived.JoinedTies
import Derived.KernelRfl
namespace Go.Proofs.YtaihdjknneiciaaGreat
/- THE CELL 'sum', in the pinned program and in every row, IS THE sha256 OF THE DUMP (.gsa) THAT YtaihdjknneiciaaGreatProg.lean LOADS. Nothing in Lean hashes anything: it is a label: what it is worth is what the hold of that sum in a sandbox is worth. -/
noncomputable def Tryz.pinned : Pinned := { name := "ytaihdjknneiciaagreat", sum := "758e6984f204905cfa751cffde9e624516538805a12385a7a8ac076ca989b69a", checked := Tryz.checked }
namespace Rows
def none {H : Type} : Left H := { results := [], args := [] }

/-- 'watershedlaw21.RegistryApart': WHATEVER THE INPUT: true; the input reads as it did. -/
def registryApartSpec : ChangeSpec := { name := "registryApart", fn := fun _ => fun
  | [d1, d2] => { results := [.lit (.bool true)], args := [d1, d2] }
  | _ => none }
def registryApartRow : OpenClaim := { program := "ytaihdjknneiciaagreat", sum := "758e6984f204905cfa751cffde9e624516538805a12385a7a8ac076ca989b69a", func := "watershed/watershedlaw21.RegistryApart", spec := "registryApart", inPlace := ["slices.overlaps[watershed/api.Share]"], unfollowed := true, recurses := true, plainKeys := false, apart := false }
def RegistryApartSaid : Prop := registryApartRow.holds Tryz.pinned (OpenSpec.ofChange registryApartSpec)

/-- ITS FALSE NEIGHBOUR: 'it returns false'. Refute it at one input. -/
def registryApartWrong : ChangeSpec := { name := "registryApart", fn := fun _ => fun
  | [d1, d2] => { results := [.lit (.bool false)], args := [d1, d2] }
  | _ => none }
def RegistryApartWrongFalsely : Prop := registryApartRow.holds Tryz.pinned (OpenSpec.ofChange registryApartWrong)

/-- 'watershedlaw21.RegistryRuns': WHATEVER THE INPUT: true; the input reads as it did. -/
def registryRunsSpec : ChangeSpec := { name := "registryRuns", fn := fun _ => fun
  | [d1, d2, d3, d4] => { results := [.lit (.bool true)], args := [d1, d2, d3, d4] }
  | _ => none }
def registryRunsRow : OpenClaim := { program := "ytaihdjknneiciaagreat", sum := "758e6984f204905cfa751cffde9e624516538805a12385a7a8ac076ca989b69a", func := "watershed/watershedlaw21.RegistryRuns", spec := "registryRuns", inPlace := ["slices.overlaps[watershed/api.Share]"], unfollowed := true, recurses := true, plainKeys := false, apart := false }
def RegistryRunsSaid : Prop := registryRunsRow.holds Tryz.pinned (OpenSpec.ofChange registryRunsSpec)

/-- ITS FALSE NEIGHBOUR: 'it returns false'. Refute it at one input. -/
def registryRunsWrong : ChangeSpec := { name := "registryRuns", fn := fun _ => fun
  | [d1, d2, d3, d4] => { results := [.lit (.bool false)], args := [d1, d2, d3, d4] }
  | _ => none }
def RegistryRunsWrongFalsely : Prop := registryRunsRow.holds Tryz.pinned (OpenSpec.ofChange registryRunsWrong)

/-- 'watershedlaw21.RegistryReads': WHATEVER THE INPUT: true; the input reads as it did. -/
def registryReadsSpec : ChangeSpec := { name := "registryReads", fn := fun _ => fun
  | [d] => { results := [.lit (.bool true)], args := [d] }
  | _ => none }
def registryReadsRow : OpenClaim := { program := "ytaihdjknneiciaagreat", sum := "758e6984f204905cfa751cffde9e624516538805a12385a7a8ac076ca989b69a", func := "watershed/watershedlaw21.RegistryReads", spec := "registryReads", inPlace := ["slices.overlaps[watershed/api.Share]"], unfollowed := true, recurses := true, plainKeys := false, apart := false }
def RegistryReadsSaid : Prop := registryReadsRow.holds Tryz.pinned (OpenSpec.ofChange registryReadsSpec)

/-- ITS FALSE NEIGHBOUR: 'it returns false'. Refute it at one input. -/
def registryReadsWrong : ChangeSpec := { name := "registryReads", fn := fun _ => fun
  | [d] => { results := [.lit (.bool false)], args := [d] }
  | _ => none }
def RegistryReadsWrongFalsely : Prop := registryReadsRow.holds Tryz.pinned (OpenSpec.ofChange registryReadsWrong)

/-- 'watershedlaw21.RegistryTurns': WHATEVER THE INPUT: true; the input reads as it did. -/
def registryTurnsSpec : ChangeSpec := { name := "registryTurns", fn := fun _ => fun
  | [d1, d2, d3, d4] => { results := [.lit (.bool true)], args := [d1, d2, d3, d4] }
  | _ => none }
def registryTurnsRow : OpenClaim := { program := "ytaihdjknneiciaagreat", sum := "758e6984f204905cfa751cffde9e624516538805a12385a7a8ac076ca989b69a", func := "watershed/watershedlaw21.RegistryTurns", spec := "registryTurns", inPlace := ["slices.overlaps[watershed/api.Share]"], unfollowed := true, recurses := true, plainKeys := false, apart := false }
def RegistryTurnsSaid : Prop := registryTurnsRow.holds Tryz.pinned (OpenSpec.ofChange registryTurnsSpec)

/-- ITS FALSE NEIGHBOUR: 'it returns false'. Refute it at one input. -/
def registryTurnsWrong : ChangeSpec := { name := "registryTurns", fn := fun _ => fun
  | [d1, d2, d3, d4] => { results := [.lit (.bool false)], args := [d1, d2, d3, d4] }
  | _ => none }
def RegistryTurnsWrongFalsely : Prop := registryTurnsRow.holds Tryz.pinned (OpenSpec.ofChange registryTurnsWrong)

/- THE SECOND FORM. 'bulk': how many values and letters a reading holds, each counted each time it is reached (what is shared counts as often as it is met; a slice's spare places count too). A statement '..UptoSaid' is the law's where the arguments, and the package variables that the reading takes, are together of bulk at most 1048576: NARROWER than '..Said'. Prove '..Said' where nothing that the law and all that it calls make is longer than what came in: it says more and counts as full. Else prove '..UptoSaid'. A law counts once. -/
mutual
def uptoBulk {H : Type} : DataW H → Nat
  | .lit (.string bytes) => bytes.length + 1
  | .lit _ => 1
  | .nil => 1
  | .ptr d => uptoBulk d + 1
  | .slice elems spare => uptoBulkAll elems + uptoBulkAll spare + 1
  | .agg parts => uptoBulkAll parts + 1
  | .iface _ d => uptoBulk d + 1
  | .map entries => uptoBulkEntries entries + 1
  | .held _ => 1
def uptoBulkAll {H : Type} : List (DataW H) → Nat
  | [] => 0
  | d :: r => uptoBulk d + uptoBulkAll r
def uptoBulkEntries {H : Type} : List (Lit × DataW H) → Nat
  | [] => 0
  | x :: r => uptoBulkEntry x + uptoBulkEntries r
def uptoBulkEntry {H : Type} : Lit × DataW H → Nat
  | (.string bytes, d) => bytes.length + uptoBulk d + 1
  | (_, d) => uptoBulk d + 1
 end
def uptoSmall : (H : Type) → List (DataW H) → Bool := fun _ ds => decide (uptoBulkAll ds ≤ 1048576)
def OpenSpec.upto (s : _root_.Go.ChangeSpec) : _root_.Go.OpenSpec := { _root_.Go.OpenSpec.ofChange s with cond := some uptoSmall }

/-- 'watershedlaw21.RegistryApart', WHERE WHAT IT READS IS OF BULK AT MOST 1048576: true; the input reads as it did. -/
def registryApartUptoRow : OpenClaim := { program := "ytaihdjknneiciaagreat", sum := "758e6984f204905cfa751cffde9e624516538805a12385a7a8ac076ca989b69a", func := "watershed/watershedlaw21.RegistryApart", spec := "registryApart", inPlace := ["slices.overlaps[watershed/api.Share]"], unfollowed := true, recurses := true, plainKeys := false, apart := false, narrowed := true }
def RegistryApartUptoSaid : Prop := registryApartUptoRow.holds Tryz.pinned (OpenSpec.upto registryApartSpec)

/-- 'watershedlaw21.RegistryRuns', WHERE WHAT IT READS IS OF BULK AT MOST 1048576: true; the input reads as it did. -/
def registryRunsUptoRow : OpenClaim := { program := "ytaihdjknneiciaagreat", sum := "758e6984f204905cfa751cffde9e624516538805a12385a7a8ac076ca989b69a", func := "watershed/watershedlaw21.RegistryRuns", spec := "registryRuns", inPlace := ["slices.overlaps[watershed/api.Share]"], unfollowed := true, recurses := true, plainKeys := false, apart := false, narrowed := true }
def RegistryRunsUptoSaid : Prop := registryRunsUptoRow.holds Tryz.pinned (OpenSpec.upto registryRunsSpec)

/-- 'watershedlaw21.RegistryReads', WHERE WHAT IT READS IS OF BULK AT MOST 1048576: true; the input reads as it did. -/
def registryReadsUptoRow : OpenClaim := { program := "ytaihdjknneiciaagreat", sum := "758e6984f204905cfa751cffde9e624516538805a12385a7a8ac076ca989b69a", func := "watershed/watershedlaw21.RegistryReads", spec := "registryReads", inPlace := ["slices.overlaps[watershed/api.Share]"], unfollowed := true, recurses := true, plainKeys := false, apart := false, narrowed := true }
def RegistryReadsUptoSaid : Prop := registryReadsUptoRow.holds Tryz.pinned (OpenSpec.upto registryReadsSpec)

/-- 'watershedlaw21.RegistryTurns', WHERE WHAT IT READS IS OF BULK AT MOST 1048576: true; the input reads as it did. -/
def registryTurnsUptoRow : OpenClaim := { program := "ytaihdjknneiciaagreat", sum := "758e6984f204905cfa751cffde9e624516538805a12385a7a8ac076ca989b69a", func := "watershed/watershedlaw21.RegistryTurns", spec := "registryTurns", inPlace := ["slices.overlaps[watershed/api.Share]"], unfollowed := true, recurses := true, plainKeys := false, apart := false, narrowed := true }
def RegistryTurnsUptoSaid : Prop := registryTurnsUptoRow.holds Tryz.pinned (OpenSpec.upto registryTurnsSpec)

end Rows
end Go.Proofs.YtaihdjknneiciaaGreat
