/-
  No cell of these rows narrows 'for every input' (looked for: loops, veiled, ifaces, maps, wideKeys, modest, calm, conditions, laid).
  DERIVED. THE GIVEN ROWS OF THIS SEAT. 5 by the template 'for every input the law returns true; each argument reads behind the call as it read before'; 0 by the template 'total and deterministic' (their statements: YtkcpecihgldflaaTotals.lean).
  GIVEN WITH THE SEED: the statements are not yours to turn. If you find one false, say at which input.
  Laid BY PROGRAM, IN A SANDBOX (cutbox-rows.mjs): the forced cells as the released guide's own fill.sh prints them over the translation 014fd02c4b01c868… (all of the seat's roots in one cut). By AI agents, Wed Nov 11 2026. No macro, syntax, notation, axiom, sorry.
-/
import Derived.Test.YtkcpecihgldflaaChecked
import GoSem.Claim
import GoSem.ClaimJoined
import GoSem.ClaimMapViews
import Derived.JoinedTies
import Derived.KernelRfl
namespace Go.Proofs.Ytkcpecihgldflaa
/- THE CELL 'sum', in the pinned program and in every row, IS THE sha256 OF THE DUMP (.gsa) THAT YtkcpecihgldflaaProg.lean LOADS. Nothing in Lean hashes anything: it is a label: what it is worth is what the hold of that sum in a sandbox is worth. -/
noncomputable def Try.pinned : Pinned := { name := "ytkcpecihgldflaa", sum := "014fd02c4b01c8680f4c40403deeedfbcb997f800173b77de0a9568ed84c9880", checked := Try.checked }
namespace Rows
def none {H : Type} : Left H := { results := [], args := [] }

/-- 'laws.FnPrepare': WHATEVER THE INPUT: true; the input reads as it did. -/
def fnPrepareSpec : ChangeSpec := { name := "fnPrepare", fn := fun _ => fun
  | [d] => { results := [.lit (.bool true)], args := [d] }
  | _ => none }
def fnPrepareRow : OpenClaim := { program := "ytkcpecihgldflaa", sum := "014fd02c4b01c8680f4c40403deeedfbcb997f800173b77de0a9568ed84c9880", func := "loop.example/atomicpush/laws.FnPrepare", spec := "fnPrepare", unfollowed := true, recurses := true, apart := false }
def FnPrepareSaid : Prop := fnPrepareRow.holds Try.pinned (OpenSpec.ofChange fnPrepareSpec)

/-- ITS FALSE NEIGHBOUR: 'it returns false'. Refute it at one input. -/
def fnPrepareWrong : ChangeSpec := { name := "fnPrepare", fn := fun _ => fun
  | [d] => { results := [.lit (.bool false)], args := [d] }
  | _ => none }
def FnPrepareWrongFalsely : Prop := fnPrepareRow.holds Try.pinned (OpenSpec.ofChange fnPrepareWrong)

/-- 'laws.FnPrepareNo': WHATEVER THE INPUT: true; the input reads as it did. -/
def fnPrepareNoSpec : ChangeSpec := { name := "fnPrepareNo", fn := fun _ => fun
  | [d] => { results := [.lit (.bool true)], args := [d] }
  | _ => none }
def fnPrepareNoRow : OpenClaim := { program := "ytkcpecihgldflaa", sum := "014fd02c4b01c8680f4c40403deeedfbcb997f800173b77de0a9568ed84c9880", func := "loop.example/atomicpush/laws.FnPrepareNo", spec := "fnPrepareNo", unfollowed := true, recurses := true, apart := false }
def FnPrepareNoSaid : Prop := fnPrepareNoRow.holds Try.pinned (OpenSpec.ofChange fnPrepareNoSpec)

/-- ITS FALSE NEIGHBOUR: 'it returns false'. Refute it at one input. -/
def fnPrepareNoWrong : ChangeSpec := { name := "fnPrepareNo", fn := fun _ => fun
  | [d] => { results := [.lit (.bool false)], args := [d] }
  | _ => none }
def FnPrepareNoWrongFalsely : Prop := fnPrepareNoRow.holds Try.pinned (OpenSpec.ofChange fnPrepareNoWrong)

/-- 'laws.FnExactShardDecide': WHATEVER THE INPUT: true; the input reads as it did. -/
def fnExactShardDecideSpec : ChangeSpec := { name := "fnExactShardDecide", fn := fun _ => fun
  | [d1, d2, d3] => { results := [.lit (.bool true)], args := [d1, d2, d3] }
  | _ => none }
def fnExactShardDecideRow : OpenClaim := { program := "ytkcpecihgldflaa", sum := "014fd02c4b01c8680f4c40403deeedfbcb997f800173b77de0a9568ed84c9880", func := "loop.example/atomicpush/laws.FnExactShardDecide", spec := "fnExactShardDecide", unfollowed := true, recurses := true, apart := false }
def FnExactShardDecideSaid : Prop := fnExactShardDecideRow.holds Try.pinned (OpenSpec.ofChange fnExactShardDecideSpec)

/-- ITS FALSE NEIGHBOUR: 'it returns false'. Refute it at one input. -/
def fnExactShardDecideWrong : ChangeSpec := { name := "fnExactShardDecide", fn := fun _ => fun
  | [d1, d2, d3] => { results := [.lit (.bool false)], args := [d1, d2, d3] }
  | _ => none }
def FnExactShardDecideWrongFalsely : Prop := fnExactShardDecideRow.holds Try.pinned (OpenSpec.ofChange fnExactShardDecideWrong)

/-- 'laws.FnExactShardPrepare': WHATEVER THE INPUT: true; the input reads as it did. -/
def fnExactShardPrepareSpec : ChangeSpec := { name := "fnExactShardPrepare", fn := fun _ => fun
  | [d1, d2, d3] => { results := [.lit (.bool true)], args := [d1, d2, d3] }
  | _ => none }
def fnExactShardPrepareRow : OpenClaim := { program := "ytkcpecihgldflaa", sum := "014fd02c4b01c8680f4c40403deeedfbcb997f800173b77de0a9568ed84c9880", func := "loop.example/atomicpush/laws.FnExactShardPrepare", spec := "fnExactShardPrepare", unfollowed := true, recurses := true, apart := false }
def FnExactShardPrepareSaid : Prop := fnExactShardPrepareRow.holds Try.pinned (OpenSpec.ofChange fnExactShardPrepareSpec)

/-- ITS FALSE NEIGHBOUR: 'it returns false'. Refute it at one input. -/
def fnExactShardPrepareWrong : ChangeSpec := { name := "fnExactShardPrepare", fn := fun _ => fun
  | [d1, d2, d3] => { results := [.lit (.bool false)], args := [d1, d2, d3] }
  | _ => none }
def FnExactShardPrepareWrongFalsely : Prop := fnExactShardPrepareRow.holds Try.pinned (OpenSpec.ofChange fnExactShardPrepareWrong)

/-- 'laws.FnDecideAbort': WHATEVER THE INPUT: true; the input reads as it did. -/
def fnDecideAbortSpec : ChangeSpec := { name := "fnDecideAbort", fn := fun _ => fun
  | [d] => { results := [.lit (.bool true)], args := [d] }
  | _ => none }
def fnDecideAbortRow : OpenClaim := { program := "ytkcpecihgldflaa", sum := "014fd02c4b01c8680f4c40403deeedfbcb997f800173b77de0a9568ed84c9880", func := "loop.example/atomicpush/laws.FnDecideAbort", spec := "fnDecideAbort", unfollowed := true, recurses := true, apart := false }
def FnDecideAbortSaid : Prop := fnDecideAbortRow.holds Try.pinned (OpenSpec.ofChange fnDecideAbortSpec)

/-- ITS FALSE NEIGHBOUR: 'it returns false'. Refute it at one input. -/
def fnDecideAbortWrong : ChangeSpec := { name := "fnDecideAbort", fn := fun _ => fun
  | [d] => { results := [.lit (.bool false)], args := [d] }
  | _ => none }
def FnDecideAbortWrongFalsely : Prop := fnDecideAbortRow.holds Try.pinned (OpenSpec.ofChange fnDecideAbortWrong)

/- THE SECOND FORM. 'bulk': how many values and letters a reading holds, each counted each time it is reached (what is shared counts as often as it is met; a slice's spare places count too). A statement '..UptoSaid' is the law's where the arguments, and the package variables that the reading takes, are together of bulk at most 1048576: NARROWER than '..Said'. Prove '..Said' where nothing that the law and all that it calls make is longer than what came in: it says more and counts as full. Else prove '..UptoSaid'. A law counts once. -/
mutual
def uptoBulk {H : Type} : DataW H → Nat
  | .lit (.string bytes) => bytes.length + 1
  | .lit _ => 1
  | .nil => 1
  | .ptr d => uptoBulk d + 1
  | .slice elems spare => uptoBulkAll elems + uptoBulkAll spare + 1
  | .agg parts => uptoBulkAll parts + 1
  | .iface _ d => uptoBulk d + 1
  | .map entries => uptoBulkEntries entries + 1
  | .held _ => 1
def uptoBulkAll {H : Type} : List (DataW H) → Nat
  | [] => 0
  | d :: r => uptoBulk d + uptoBulkAll r
def uptoBulkEntries {H : Type} : List (Lit × DataW H) → Nat
  | [] => 0
  | x :: r => uptoBulkEntry x + uptoBulkEntries r
def uptoBulkEntry {H : Type} : Lit × DataW H → Nat
  | (.string bytes, d) => bytes.length + uptoBulk d + 1
  | (_, d) => uptoBulk d + 1
 end
def uptoSmall : (H : Type) → List (DataW H) → Bool := fun _ ds => decide (uptoBulkAll ds ≤ 1048576)
def OpenSpec.upto (s : _root_.Go.ChangeSpec) : _root_.Go.OpenSpec := { _root_.Go.OpenSpec.ofChange s with cond := some uptoSmall }

/-- 'laws.FnPrepare', WHERE WHAT IT READS IS OF BULK AT MOST 1048576: true; the input reads as it did. -/
def fnPrepareUptoRow : OpenClaim := { program := "ytkcpecihgldflaa", sum := "014fd02c4b01c8680f4c40403deeedfbcb997f800173b77de0a9568ed84c9880", func := "loop.example/atomicpush/laws.FnPrepare", spec := "fnPrepare", unfollowed := true, recurses := true, apart := false, narrowed := true }
def FnPrepareUptoSaid : Prop := fnPrepareUptoRow.holds Try.pinned (OpenSpec.upto fnPrepareSpec)

/-- 'laws.FnPrepareNo', WHERE WHAT IT READS IS OF BULK AT MOST 1048576: true; the input reads as it did. -/
def fnPrepareNoUptoRow : OpenClaim := { program := "ytkcpecihgldflaa", sum := "014fd02c4b01c8680f4c40403deeedfbcb997f800173b77de0a9568ed84c9880", func := "loop.example/atomicpush/laws.FnPrepareNo", spec := "fnPrepareNo", unfollowed := true, recurses := true, apart := false, narrowed := true }
def FnPrepareNoUptoSaid : Prop := fnPrepareNoUptoRow.holds Try.pinned (OpenSpec.upto fnPrepareNoSpec)

/-- 'laws.FnExactShardDecide', WHERE WHAT IT READS IS OF BULK AT MOST 1048576: true; the input reads as it did. -/
def fnExactShardDecideUptoRow : OpenClaim := { program := "ytkcpecihgldflaa", sum := "014fd02c4b01c8680f4c40403deeedfbcb997f800173b77de0a9568ed84c9880", func := "loop.example/atomicpush/laws.FnExactShardDecide", spec := "fnExactShardDecide", unfollowed := true, recurses := true, apart := false, narrowed := true }
def FnExactShardDecideUptoSaid : Prop := fnExactShardDecideUptoRow.holds Try.pinned (OpenSpec.upto fnExactShardDecideSpec)

/-- 'laws.FnExactShardPrepare', WHERE WHAT IT READS IS OF BULK AT MOST 1048576: true; the input reads as it did. -/
def fnExactShardPrepareUptoRow : OpenClaim := { program := "ytkcpecihgldflaa", sum := "014fd02c4b01c8680f4c40403deeedfbcb997f800173b77de0a9568ed84c9880", func := "loop.example/atomicpush/laws.FnExactShardPrepare", spec := "fnExactShardPrepare", unfollowed := true, recurses := true, apart := false, narrowed := true }
def FnExactShardPrepareUptoSaid : Prop := fnExactShardPrepareUptoRow.holds Try.pinned (OpenSpec.upto fnExactShardPrepareSpec)

/-- 'laws.FnDecideAbort', WHERE WHAT IT READS IS OF BULK AT MOST 1048576: true; the input reads as it did. -/
def fnDecideAbortUptoRow : OpenClaim := { program := "ytkcpecihgldflaa", sum := "014fd02c4b01c8680f4c40403deeedfbcb997f800173b77de0a9568ed84c9880", func := "loop.example/atomicpush/laws.FnDecideAbort", spec := "fnDecideAbort", unfollowed := true, recurses := true, apart := false, narrowed := true }
def FnDecideAbortUptoSaid : Prop := fnDecideAbortUptoRow.holds Try.pinned (OpenSpec.upto fnDecideAbortSpec)

end Rows
end Go.Proofs.Ytkcpecihgldflaa
