/-
  No cell of these rows narrows 'for every input' (looked for: loops, veiled, ifaces, maps, wideKeys, modest, calm, conditions, laid).
  DERIVED. THE GIVEN ROWS OF THIS SEAT. 6 by the template 'for every input the law returns true; each argument reads behind the call as it read before'; 0 by the template 'total and deterministic' (their statements: YtknoanpgadecbaaGreatTotals.lean).
  GIVEN WITH THE SEED: the statements are not yours to turn. If you find one false, say at which input.
  Laid BY PROGRAM, IN A SANDBOX (cutbox-rows.mjs): the forced cells as the released guide's own fill.sh prints them over the translation 84e36a8a22688450… (all of the seat's roots in one cut). By AI agents, Wed Nov 11 2026. No macro, syntax, notation, axiom, sorry.
-/
import Derived.Test.YtknoanpgadecbaaGreatChecked
import GoSem.Claim
import GoSem.ClaimJoined
import GoSem.ClaimMapViews
import Derived.JoinedTies
import Derived.KernelRfl
namespace Go.Proofs.YtknoanpgadecbaaGreat
/- THE CELL 'sum', in the pinned program and in every row, IS THE sha256 OF THE DUMP (.gsa) THAT YtknoanpgadecbaaGreatProg.lean LOADS. Nothing in Lean hashes anything: it is a label: what it is worth is what the hold of that sum in a sandbox is worth. -/
noncomputable def Tryz.pinned : Pinned := { name := "ytknoanpgadecbaagreat", sum := "84e36a8a22688450a12b83263028fe78bc06c81ac9b917576d3926787fb526cb", checked := Tryz.checked }
namespace Rows
def none {H : Type} : Left H := { results := [], args := [] }

/-- 'laws.FnReady': WHATEVER THE INPUT: true; the input reads as it did. -/
def fnReadySpec : ChangeSpec := { name := "fnReady", fn := fun _ => fun
  | [d] => { results := [.lit (.bool true)], args := [d] }
  | _ => none }
def fnReadyRow : OpenClaim := { program := "ytknoanpgadecbaagreat", sum := "84e36a8a22688450a12b83263028fe78bc06c81ac9b917576d3926787fb526cb", func := "loop.example/atomicpush/laws.FnReady", spec := "fnReady", unfollowed := true, recurses := true, apart := false }
def FnReadySaid : Prop := fnReadyRow.holds Tryz.pinned (OpenSpec.ofChange fnReadySpec)

/-- ITS FALSE NEIGHBOUR: 'it returns false'. Refute it at one input. -/
def fnReadyWrong : ChangeSpec := { name := "fnReady", fn := fun _ => fun
  | [d] => { results := [.lit (.bool false)], args := [d] }
  | _ => none }
def FnReadyWrongFalsely : Prop := fnReadyRow.holds Tryz.pinned (OpenSpec.ofChange fnReadyWrong)

/-- 'laws.FnReadyMost': WHATEVER THE INPUT: true; the input reads as it did. -/
def fnReadyMostSpec : ChangeSpec := { name := "fnReadyMost", fn := fun _ => fun
  | [d] => { results := [.lit (.bool true)], args := [d] }
  | _ => none }
def fnReadyMostRow : OpenClaim := { program := "ytknoanpgadecbaagreat", sum := "84e36a8a22688450a12b83263028fe78bc06c81ac9b917576d3926787fb526cb", func := "loop.example/atomicpush/laws.FnReadyMost", spec := "fnReadyMost", unfollowed := true, recurses := true, apart := false }
def FnReadyMostSaid : Prop := fnReadyMostRow.holds Tryz.pinned (OpenSpec.ofChange fnReadyMostSpec)

/-- ITS FALSE NEIGHBOUR: 'it returns false'. Refute it at one input. -/
def fnReadyMostWrong : ChangeSpec := { name := "fnReadyMost", fn := fun _ => fun
  | [d] => { results := [.lit (.bool false)], args := [d] }
  | _ => none }
def FnReadyMostWrongFalsely : Prop := fnReadyMostRow.holds Tryz.pinned (OpenSpec.ofChange fnReadyMostWrong)

/-- 'laws.FnSnapshot': WHATEVER THE INPUT: true; the input reads as it did. -/
def fnSnapshotSpec : ChangeSpec := { name := "fnSnapshot", fn := fun _ => fun
  | [d] => { results := [.lit (.bool true)], args := [d] }
  | _ => none }
def fnSnapshotRow : OpenClaim := { program := "ytknoanpgadecbaagreat", sum := "84e36a8a22688450a12b83263028fe78bc06c81ac9b917576d3926787fb526cb", func := "loop.example/atomicpush/laws.FnSnapshot", spec := "fnSnapshot", unfollowed := true, recurses := true, apart := false }
def FnSnapshotSaid : Prop := fnSnapshotRow.holds Tryz.pinned (OpenSpec.ofChange fnSnapshotSpec)

/-- ITS FALSE NEIGHBOUR: 'it returns false'. Refute it at one input. -/
def fnSnapshotWrong : ChangeSpec := { name := "fnSnapshot", fn := fun _ => fun
  | [d] => { results := [.lit (.bool false)], args := [d] }
  | _ => none }
def FnSnapshotWrongFalsely : Prop := fnSnapshotRow.holds Tryz.pinned (OpenSpec.ofChange fnSnapshotWrong)

/-- 'laws.FnSnapshotLess': WHATEVER THE INPUT: true; the input reads as it did. -/
def fnSnapshotLessSpec : ChangeSpec := { name := "fnSnapshotLess", fn := fun _ => fun
  | [d1, d2] => { results := [.lit (.bool true)], args := [d1, d2] }
  | _ => none }
def fnSnapshotLessRow : OpenClaim := { program := "ytknoanpgadecbaagreat", sum := "84e36a8a22688450a12b83263028fe78bc06c81ac9b917576d3926787fb526cb", func := "loop.example/atomicpush/laws.FnSnapshotLess", spec := "fnSnapshotLess", unfollowed := true, recurses := true, apart := false }
def FnSnapshotLessSaid : Prop := fnSnapshotLessRow.holds Tryz.pinned (OpenSpec.ofChange fnSnapshotLessSpec)

/-- ITS FALSE NEIGHBOUR: 'it returns false'. Refute it at one input. -/
def fnSnapshotLessWrong : ChangeSpec := { name := "fnSnapshotLess", fn := fun _ => fun
  | [d1, d2] => { results := [.lit (.bool false)], args := [d1, d2] }
  | _ => none }
def FnSnapshotLessWrongFalsely : Prop := fnSnapshotLessRow.holds Tryz.pinned (OpenSpec.ofChange fnSnapshotLessWrong)

/-- 'laws.FnSnapshotNone': WHATEVER THE INPUT: true; the input reads as it did. -/
def fnSnapshotNoneSpec : ChangeSpec := { name := "fnSnapshotNone", fn := fun _ => fun
  | [d] => { results := [.lit (.bool true)], args := [d] }
  | _ => none }
def fnSnapshotNoneRow : OpenClaim := { program := "ytknoanpgadecbaagreat", sum := "84e36a8a22688450a12b83263028fe78bc06c81ac9b917576d3926787fb526cb", func := "loop.example/atomicpush/laws.FnSnapshotNone", spec := "fnSnapshotNone", unfollowed := true, recurses := true, apart := false }
def FnSnapshotNoneSaid : Prop := fnSnapshotNoneRow.holds Tryz.pinned (OpenSpec.ofChange fnSnapshotNoneSpec)

/-- ITS FALSE NEIGHBOUR: 'it returns false'. Refute it at one input. -/
def fnSnapshotNoneWrong : ChangeSpec := { name := "fnSnapshotNone", fn := fun _ => fun
  | [d] => { results := [.lit (.bool false)], args := [d] }
  | _ => none }
def FnSnapshotNoneWrongFalsely : Prop := fnSnapshotNoneRow.holds Tryz.pinned (OpenSpec.ofChange fnSnapshotNoneWrong)

/-- 'laws.FnWorldStates': WHATEVER THE INPUT: true; the input reads as it did. -/
def fnWorldStatesSpec : ChangeSpec := { name := "fnWorldStates", fn := fun _ => fun
  | [d] => { results := [.lit (.bool true)], args := [d] }
  | _ => none }
def fnWorldStatesRow : OpenClaim := { program := "ytknoanpgadecbaagreat", sum := "84e36a8a22688450a12b83263028fe78bc06c81ac9b917576d3926787fb526cb", func := "loop.example/atomicpush/laws.FnWorldStates", spec := "fnWorldStates", unfollowed := true, recurses := true, apart := false }
def FnWorldStatesSaid : Prop := fnWorldStatesRow.holds Tryz.pinned (OpenSpec.ofChange fnWorldStatesSpec)

/-- ITS FALSE NEIGHBOUR: 'it returns false'. Refute it at one input. -/
def fnWorldStatesWrong : ChangeSpec := { name := "fnWorldStates", fn := fun _ => fun
  | [d] => { results := [.lit (.bool false)], args := [d] }
  | _ => none }
def FnWorldStatesWrongFalsely : Prop := fnWorldStatesRow.holds Tryz.pinned (OpenSpec.ofChange fnWorldStatesWrong)

/- THE SECOND FORM. 'bulk': how many values and letters a reading holds, each counted each time it is reached (what is shared counts as often as it is met; a slice's spare places count too). A statement '..UptoSaid' is the law's where the arguments, and the package variables that the reading takes, are together of bulk at most 1048576: NARROWER than '..Said'. Prove '..Said' where nothing that the law and all that it calls make is longer than what came in: it says more and counts as full. Else prove '..UptoSaid'. A law counts once. -/
mutual
def uptoBulk {H : Type} : DataW H → Nat
  | .lit (.string bytes) => bytes.length + 1
  | .lit _ => 1
  | .nil => 1
  | .ptr d => uptoBulk d + 1
  | .slice elems spare => uptoBulkAll elems + uptoBulkAll spare + 1
  | .agg parts => uptoBulkAll parts + 1
  | .iface _ d => uptoBulk d + 1
  | .map entries => uptoBulkEntries entries + 1
  | .held _ => 1
def uptoBulkAll {H : Type} : List (DataW H) → Nat
  | [] => 0
  | d :: r => uptoBulk d + uptoBulkAll r
def uptoBulkEntries {H : Type} : List (Lit × DataW H) → Nat
  | [] => 0
  | x :: r => uptoBulkEntry x + uptoBulkEntries r
def uptoBulkEntry {H : Type} : Lit × DataW H → Nat
  | (.string bytes, d) => bytes.length + uptoBulk d + 1
  | (_, d) => uptoBulk d + 1
 end
def uptoSmall : (H : Type) → List (DataW H) → Bool := fun _ ds => decide (uptoBulkAll ds ≤ 1048576)
def OpenSpec.upto (s : _root_.Go.ChangeSpec) : _root_.Go.OpenSpec := { _root_.Go.OpenSpec.ofChange s with cond := some uptoSmall }

/-- 'laws.FnReady', WHERE WHAT IT READS IS OF BULK AT MOST 1048576: true; the input reads as it did. -/
def fnReadyUptoRow : OpenClaim := { program := "ytknoanpgadecbaagreat", sum := "84e36a8a22688450a12b83263028fe78bc06c81ac9b917576d3926787fb526cb", func := "loop.example/atomicpush/laws.FnReady", spec := "fnReady", unfollowed := true, recurses := true, apart := false, narrowed := true }
def FnReadyUptoSaid : Prop := fnReadyUptoRow.holds Tryz.pinned (OpenSpec.upto fnReadySpec)

/-- 'laws.FnReadyMost', WHERE WHAT IT READS IS OF BULK AT MOST 1048576: true; the input reads as it did. -/
def fnReadyMostUptoRow : OpenClaim := { program := "ytknoanpgadecbaagreat", sum := "84e36a8a22688450a12b83263028fe78bc06c81ac9b917576d3926787fb526cb", func := "loop.example/atomicpush/laws.FnReadyMost", spec := "fnReadyMost", unfollowed := true, recurses := true, apart := false, narrowed := true }
def FnReadyMostUptoSaid : Prop := fnReadyMostUptoRow.holds Tryz.pinned (OpenSpec.upto fnReadyMostSpec)

/-- 'laws.FnSnapshot', WHERE WHAT IT READS IS OF BULK AT MOST 1048576: true; the input reads as it did. -/
def fnSnapshotUptoRow : OpenClaim := { program := "ytknoanpgadecbaagreat", sum := "84e36a8a22688450a12b83263028fe78bc06c81ac9b917576d3926787fb526cb", func := "loop.example/atomicpush/laws.FnSnapshot", spec := "fnSnapshot", unfollowed := true, recurses := true, apart := false, narrowed := true }
def FnSnapshotUptoSaid : Prop := fnSnapshotUptoRow.holds Tryz.pinned (OpenSpec.upto fnSnapshotSpec)

/-- 'laws.FnSnapshotLess', WHERE WHAT IT READS IS OF BULK AT MOST 1048576: true; the input reads as it did. -/
def fnSnapshotLessUptoRow : OpenClaim := { program := "ytknoanpgadecbaagreat", sum := "84e36a8a22688450a12b83263028fe78bc06c81ac9b917576d3926787fb526cb", func := "loop.example/atomicpush/laws.FnSnapshotLess", spec := "fnSnapshotLess", unfollowed := true, recurses := true, apart := false, narrowed := true }
def FnSnapshotLessUptoSaid : Prop := fnSnapshotLessUptoRow.holds Tryz.pinned (OpenSpec.upto fnSnapshotLessSpec)

/-- 'laws.FnSnapshotNone', WHERE WHAT IT READS IS OF BULK AT MOST 1048576: true; the input reads as it did. -/
def fnSnapshotNoneUptoRow : OpenClaim := { program := "ytknoanpgadecbaagreat", sum := "84e36a8a22688450a12b83263028fe78bc06c81ac9b917576d3926787fb526cb", func := "loop.example/atomicpush/laws.FnSnapshotNone", spec := "fnSnapshotNone", unfollowed := true, recurses := true, apart := false, narrowed := true }
def FnSnapshotNoneUptoSaid : Prop := fnSnapshotNoneUptoRow.holds Tryz.pinned (OpenSpec.upto fnSnapshotNoneSpec)

/-- 'laws.FnWorldStates', WHERE WHAT IT READS IS OF BULK AT MOST 1048576: true; the input reads as it did. -/
def fnWorldStatesUptoRow : OpenClaim := { program := "ytknoanpgadecbaagreat", sum := "84e36a8a22688450a12b83263028fe78bc06c81ac9b917576d3926787fb526cb", func := "loop.example/atomicpush/laws.FnWorldStates", spec := "fnWorldStates", unfollowed := true, recurses := true, apart := false, narrowed := true }
def FnWorldStatesUptoSaid : Prop := fnWorldStatesUptoRow.holds Tryz.pinned (OpenSpec.upto fnWorldStatesSpec)

end Rows
end Go.Proofs.YtknoanpgadecbaaGreat
