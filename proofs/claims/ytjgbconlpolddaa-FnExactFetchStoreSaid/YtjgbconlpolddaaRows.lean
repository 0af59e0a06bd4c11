/-
  No cell of these rows narrows 'for every input' (looked for: loops, veiled, ifaces, maps, wideKeys, modest, calm, conditions, laid).
  DERIVED. THE GIVEN ROWS OF THIS SEAT. 6 by the template 'for every input the law returns true; each argument reads behind the call as it read before'; 0 by the template 'total and deterministic' (their statements: YtjgbconlpolddaaTotals.lean).
  GIVEN WITH THE SEED: the statements are not yours to turn. If you find one false, say at which input.
  Laid BY PROGRAM, IN A SANDBOX (cutbox-rows.mjs): the forced cells as the released guide's own fill.sh prints them over the translation 06518ee15f4bb789… (all of the seat's roots in one cut). By AI agents, Wed Nov 11 2026. No macro, syntax, notation, axiom, sorry.
-/
import Derived.Test.YtjgbconlpolddaaChecked
import GoSem.Claim
import GoSem.ClaimJoined
import GoSem.ClaimMapViews
import Derived.JoinedTies
import Derived.KernelRfl
namespace Go.Proofs.Ytjgbconlpolddaa
/- THE CELL 'sum', in the pinned program and in every row, IS THE sha256 OF THE DUMP (.gsa) THAT YtjgbconlpolddaaProg.lean LOADS. Nothing in Lean hashes anything: it is a label: what it is worth is what the hold of that sum in a sandbox is worth. -/
noncomputable def Try.pinned : Pinned := { name := "ytjgbconlpolddaa", sum := "06518ee15f4bb789354432f035ebe96cdd6105eecb1e1b2be36e944a95cc2616", checked := Try.checked }
namespace Rows
def none {H : Type} : Left H := { results := [], args := [] }

/-- 'laws.FnPackBase': WHATEVER THE INPUT: true; the input reads as it did. -/
def fnPackBaseSpec : ChangeSpec := { name := "fnPackBase", fn := fun _ => fun
  | [d1, d2] => { results := [.lit (.bool true)], args := [d1, d2] }
  | _ => none }
def fnPackBaseRow : OpenClaim := { program := "ytjgbconlpolddaa", sum := "06518ee15f4bb789354432f035ebe96cdd6105eecb1e1b2be36e944a95cc2616", func := "loop.example/atomicpush/laws.FnPackBase", spec := "fnPackBase", inPlace := ["internal/bytealg.IndexByteString", "internal/bytealg.IndexString"], unfollowed := true, recurses := true, named := ["internal/bytealg.MaxLen"], apart := false }
def FnPackBaseSaid : Prop := fnPackBaseRow.holds Try.pinned (OpenSpec.ofChange fnPackBaseSpec)

/-- ITS FALSE NEIGHBOUR: 'it returns false'. Refute it at one input. -/
def fnPackBaseWrong : ChangeSpec := { name := "fnPackBase", fn := fun _ => fun
  | [d1, d2] => { results := [.lit (.bool false)], args := [d1, d2] }
  | _ => none }
def FnPackBaseWrongFalsely : Prop := fnPackBaseRow.holds Try.pinned (OpenSpec.ofChange fnPackBaseWrong)

/-- 'laws.FnPack': WHATEVER THE INPUT: true; the input reads as it did. -/
def fnPackSpec : ChangeSpec := { name := "fnPack", fn := fun _ => fun
  | [d] => { results := [.lit (.bool true)], args := [d] }
  | _ => none }
def fnPackRow : OpenClaim := { program := "ytjgbconlpolddaa", sum := "06518ee15f4bb789354432f035ebe96cdd6105eecb1e1b2be36e944a95cc2616", func := "loop.example/atomicpush/laws.FnPack", spec := "fnPack", inPlace := ["internal/bytealg.IndexByteString", "internal/bytealg.IndexString"], unfollowed := true, recurses := true, named := ["internal/bytealg.MaxLen"], apart := false }
def FnPackSaid : Prop := fnPackRow.holds Try.pinned (OpenSpec.ofChange fnPackSpec)

/-- ITS FALSE NEIGHBOUR: 'it returns false'. Refute it at one input. -/
def fnPackWrong : ChangeSpec := { name := "fnPack", fn := fun _ => fun
  | [d] => { results := [.lit (.bool false)], args := [d] }
  | _ => none }
def FnPackWrongFalsely : Prop := fnPackRow.holds Try.pinned (OpenSpec.ofChange fnPackWrong)

/-- 'laws.FnPackSumText': WHATEVER THE INPUT: true; the input reads as it did. -/
def fnPackSumTextSpec : ChangeSpec := { name := "fnPackSumText", fn := fun _ => fun
  | [d1, d2] => { results := [.lit (.bool true)], args := [d1, d2] }
  | _ => none }
def fnPackSumTextRow : OpenClaim := { program := "ytjgbconlpolddaa", sum := "06518ee15f4bb789354432f035ebe96cdd6105eecb1e1b2be36e944a95cc2616", func := "loop.example/atomicpush/laws.FnPackSumText", spec := "fnPackSumText", inPlace := ["internal/bytealg.IndexByteString", "internal/bytealg.IndexString"], unfollowed := true, recurses := true, named := ["internal/bytealg.MaxLen"], apart := false }
def FnPackSumTextSaid : Prop := fnPackSumTextRow.holds Try.pinned (OpenSpec.ofChange fnPackSumTextSpec)

/-- ITS FALSE NEIGHBOUR: 'it returns false'. Refute it at one input. -/
def fnPackSumTextWrong : ChangeSpec := { name := "fnPackSumText", fn := fun _ => fun
  | [d1, d2] => { results := [.lit (.bool false)], args := [d1, d2] }
  | _ => none }
def FnPackSumTextWrongFalsely : Prop := fnPackSumTextRow.holds Try.pinned (OpenSpec.ofChange fnPackSumTextWrong)

/-- 'laws.FnFetchEmpty': WHATEVER THE INPUT: true; the input reads as it did. -/
def fnFetchEmptySpec : ChangeSpec := { name := "fnFetchEmpty", fn := fun _ => fun
  | [d] => { results := [.lit (.bool true)], args := [d] }
  | _ => none }
def fnFetchEmptyRow : OpenClaim := { program := "ytjgbconlpolddaa", sum := "06518ee15f4bb789354432f035ebe96cdd6105eecb1e1b2be36e944a95cc2616", func := "loop.example/atomicpush/laws.FnFetchEmpty", spec := "fnFetchEmpty", inPlace := ["slices.overlaps[loop.example/atomicpush/impl.Object]"], unfollowed := true, recurses := true, apart := false }
def FnFetchEmptySaid : Prop := fnFetchEmptyRow.holds Try.pinned (OpenSpec.ofChange fnFetchEmptySpec)

/-- ITS FALSE NEIGHBOUR: 'it returns false'. Refute it at one input. -/
def fnFetchEmptyWrong : ChangeSpec := { name := "fnFetchEmpty", fn := fun _ => fun
  | [d] => { results := [.lit (.bool false)], args := [d] }
  | _ => none }
def FnFetchEmptyWrongFalsely : Prop := fnFetchEmptyRow.holds Try.pinned (OpenSpec.ofChange fnFetchEmptyWrong)

/-- 'laws.FnFetchStore': WHATEVER THE INPUT: true; the input reads as it did. -/
def fnFetchStoreSpec : ChangeSpec := { name := "fnFetchStore", fn := fun _ => fun
  | [d] => { results := [.lit (.bool true)], args := [d] }
  | _ => none }
def fnFetchStoreRow : OpenClaim := { program := "ytjgbconlpolddaa", sum := "06518ee15f4bb789354432f035ebe96cdd6105eecb1e1b2be36e944a95cc2616", func := "loop.example/atomicpush/laws.FnFetchStore", spec := "fnFetchStore", inPlace := ["slices.overlaps[loop.example/atomicpush/impl.Object]"], unfollowed := true, recurses := true, apart := false }
def FnFetchStoreSaid : Prop := fnFetchStoreRow.holds Try.pinned (OpenSpec.ofChange fnFetchStoreSpec)

/-- ITS FALSE NEIGHBOUR: 'it returns false'. Refute it at one input. -/
def fnFetchStoreWrong : ChangeSpec := { name := "fnFetchStore", fn := fun _ => fun
  | [d] => { results := [.lit (.bool false)], args := [d] }
  | _ => none }
def FnFetchStoreWrongFalsely : Prop := fnFetchStoreRow.holds Try.pinned (OpenSpec.ofChange fnFetchStoreWrong)

/-- 'laws.FnExactFetchStore': WHATEVER THE INPUT: true; the input reads as it did. -/
def fnExactFetchStoreSpec : ChangeSpec := { name := "fnExactFetchStore", fn := fun _ => fun
  | [d1, d2] => { results := [.lit (.bool true)], args := [d1, d2] }
  | _ => none }
def fnExactFetchStoreRow : OpenClaim := { program := "ytjgbconlpolddaa", sum := "06518ee15f4bb789354432f035ebe96cdd6105eecb1e1b2be36e944a95cc2616", func := "loop.example/atomicpush/laws.FnExactFetchStore", spec := "fnExactFetchStore", inPlace := ["slices.overlaps[loop.example/atomicpush/impl.Object]"], unfollowed := true, recurses := true, apart := false }
def FnExactFetchStoreSaid : Prop := fnExactFetchStoreRow.holds Try.pinned (OpenSpec.ofChange fnExactFetchStoreSpec)

/-- ITS FALSE NEIGHBOUR: 'it returns false'. Refute it at one input. -/
def fnExactFetchStoreWrong : ChangeSpec := { name := "fnExactFetchStore", fn := fun _ => fun
  | [d1, d2] => { results := [.lit (.bool false)], args := [d1, d2] }
  | _ => none }
def FnExactFetchStoreWrongFalsely : Prop := fnExactFetchStoreRow.holds Try.pinned (OpenSpec.ofChange fnExactFetchStoreWrong)

/- THE SECOND FORM. 'bulk': how many values and letters a reading holds, each counted each time it is reached (what is shared counts as often as it is met; a slice's spare places count too). A statement '..UptoSaid' is the law's where the arguments, and the package variables that the reading takes, are together of bulk at most 1048576: NARROWER than '..Said'. Prove '..Said' where nothing that the law and all that it calls make is longer than what came in: it says more and counts as full. Else prove '..UptoSaid'. A law counts once. -/
mutual
def uptoBulk {H : Type} : DataW H → Nat
  | .lit (.string bytes) => bytes.length + 1
  | .lit _ => 1
  | .nil => 1
  | .ptr d => uptoBulk d + 1
  | .slice elems spare => uptoBulkAll elems + uptoBulkAll spare + 1
  | .agg parts => uptoBulkAll parts + 1
  | .iface _ d => uptoBulk d + 1
  | .map entries => uptoBulkEntries entries + 1
  | .held _ => 1
def uptoBulkAll {H : Type} : List (DataW H) → Nat
  | [] => 0
  | d :: r => uptoBulk d + uptoBulkAll r
def uptoBulkEntries {H : Type} : List (Lit × DataW H) → Nat
  | [] => 0
  | x :: r => uptoBulkEntry x + uptoBulkEntries r
def uptoBulkEntry {H : Type} : Lit × DataW H → Nat
  | (.string bytes, d) => bytes.length + uptoBulk d + 1
  | (_, d) => uptoBulk d + 1
 end
def uptoSmall : (H : Type) → List (DataW H) → Bool := fun _ ds => decide (uptoBulkAll ds ≤ 1048576)
def OpenSpec.upto (s : _root_.Go.ChangeSpec) : _root_.Go.OpenSpec := { _root_.Go.OpenSpec.ofChange s with cond := some uptoSmall }

/-- 'laws.FnPackBase', WHERE WHAT IT READS IS OF BULK AT MOST 1048576: true; the input reads as it did. -/
def fnPackBaseUptoRow : OpenClaim := { program := "ytjgbconlpolddaa", sum := "06518ee15f4bb789354432f035ebe96cdd6105eecb1e1b2be36e944a95cc2616", func := "loop.example/atomicpush/laws.FnPackBase", spec := "fnPackBase", inPlace := ["internal/bytealg.IndexByteString", "internal/bytealg.IndexString"], unfollowed := true, recurses := true, named := ["internal/bytealg.MaxLen"], apart := false, narrowed := true }
def FnPackBaseUptoSaid : Prop := fnPackBaseUptoRow.holds Try.pinned (OpenSpec.upto fnPackBaseSpec)

/-- 'laws.FnPack', WHERE WHAT IT READS IS OF BULK AT MOST 1048576: true; the input reads as it did. -/
def fnPackUptoRow : OpenClaim := { program := "ytjgbconlpolddaa", sum := "06518ee15f4bb789354432f035ebe96cdd6105eecb1e1b2be36e944a95cc2616", func := "loop.example/atomicpush/laws.FnPack", spec := "fnPack", inPlace := ["internal/bytealg.IndexByteString", "internal/bytealg.IndexString"], unfollowed := true, recurses := true, named := ["internal/bytealg.MaxLen"], apart := false, narrowed := true }
def FnPackUptoSaid : Prop := fnPackUptoRow.holds Try.pinned (OpenSpec.upto fnPackSpec)

/-- 'laws.FnPackSumText', WHERE WHAT IT READS IS OF BULK AT MOST 1048576: true; the input reads as it did. -/
def fnPackSumTextUptoRow : OpenClaim := { program := "ytjgbconlpolddaa", sum := "06518ee15f4bb789354432f035ebe96cdd6105eecb1e1b2be36e944a95cc2616", func := "loop.example/atomicpush/laws.FnPackSumText", spec := "fnPackSumText", inPlace := ["internal/bytealg.IndexByteString", "internal/bytealg.IndexString"], unfollowed := true, recurses := true, named := ["internal/bytealg.MaxLen"], apart := false, narrowed := true }
def FnPackSumTextUptoSaid : Prop := fnPackSumTextUptoRow.holds Try.pinned (OpenSpec.upto fnPackSumTextSpec)

/-- 'laws.FnFetchEmpty', WHERE WHAT IT READS IS OF BULK AT MOST 1048576: true; the input reads as it did. -/
def fnFetchEmptyUptoRow : OpenClaim := { program := "ytjgbconlpolddaa", sum := "06518ee15f4bb789354432f035ebe96cdd6105eecb1e1b2be36e944a95cc2616", func := "loop.example/atomicpush/laws.FnFetchEmpty", spec := "fnFetchEmpty", inPlace := ["slices.overlaps[loop.example/atomicpush/impl.Object]"], unfollowed := true, recurses := true, apart := false, narrowed := true }
def FnFetchEmptyUptoSaid : Prop := fnFetchEmptyUptoRow.holds Try.pinned (OpenSpec.upto fnFetchEmptySpec)

/-- 'laws.FnFetchStore', WHERE WHAT IT READS IS OF BULK AT MOST 1048576: true; the input reads as it did. -/
def fnFetchStoreUptoRow : OpenClaim := { program := "ytjgbconlpolddaa", sum := "06518ee15f4bb789354432f035ebe96cdd6105eecb1e1b2be36e944a95cc2616", func := "loop.example/atomicpush/laws.FnFetchStore", spec := "fnFetchStore", inPlace := ["slices.overlaps[loop.example/atomicpush/impl.Object]"], unfollowed := true, recurses := true, apart := false, narrowed := true }
def FnFetchStoreUptoSaid : Prop := fnFetchStoreUptoRow.holds Try.pinned (OpenSpec.upto fnFetchStoreSpec)

/-- 'laws.FnExactFetchStore', WHERE WHAT IT READS IS OF BULK AT MOST 1048576: true; the input reads as it did. -/
def fnExactFetchStoreUptoRow : OpenClaim := { program := "ytjgbconlpolddaa", sum := "06518ee15f4bb789354432f035ebe96cdd6105eecb1e1b2be36e944a95cc2616", func := "loop.example/atomicpush/laws.FnExactFetchStore", spec := "fnExactFetchStore", inPlace := ["slices.overlaps[loop.example/atomicpush/impl.Object]"], unfollowed := true, recurses := true, apart := false, narrowed := true }
def FnExactFetchStoreUptoSaid : Prop := fnExactFetchStoreUptoRow.holds Try.pinned (OpenSpec.upto fnExactFetchStoreSpec)

end Rows
end Go.Proofs.Ytjgbconlpolddaa
