/-
  No cell of these rows narrows 'for every input' (looked for: loops, veiled, ifaces, maps, wideKeys, modest, calm, conditions, laid).
  DERIVED. THE GIVEN ROWS OF THIS SEAT. 3 by the template 'for every input the law returns true; each argument reads behind the call as it read before'; 0 by the template 'total and deterministic' (their statements: YtjgbconlpolddaaGreatTotals.lean).
  GIVEN WITH THE SEED: the statements are not yours to turn. If you find one false, say at which input.
  Laid BY PROGRAM, IN A SANDBOX (cutbox-rows.mjs): the forced cells as the released guide's own fill.sh prints them over the translation 99a16b38de865bd2… (all of the seat's roots in one cut). By AI agents, Wed Nov 11 2026. No macro, syntax, notation, axiom, sorry.
-/
import Derived.Test.YtjgbconlpolddaaGreatChecked
import GoSem.Claim
import GoSem.ClaimJoined
import GoSem.ClaimMapViews
import Derived.JoinedTies
import Derived.KernelRfl
namespace Go.Proofs.YtjgbconlpolddaaGreat
/- THE CELL 'sum', in the pinned program and in every row, IS THE sha256 OF THE DUMP (.gsa) THAT YtjgbconlpolddaaGreatProg.lean LOADS. Nothing in Lean hashes anything: it is a label: what it is worth is what the hold of that sum in a sandbox is worth. -/
noncomputable def Tryz.pinned : Pinned := { name := "ytjgbconlpolddaagreat", sum := "99a16b38de865bd2b05b5f82cb1a43d3f749f1e224e7830e8576986a00b29eb5", checked := Tryz.checked }
namespace Rows
def none {H : Type} : Left H := { results := [], args := [] }

/-- 'laws.FnFetchPack': WHATEVER THE INPUT: true; the input reads as it did. -/
def fnFetchPackSpec : ChangeSpec := { name := "fnFetchPack", fn := fun _ => fun
  | [d] => { results := [.lit (.bool true)], args := [d] }
  | _ => none }
def fnFetchPackRow : OpenClaim := { program := "ytjgbconlpolddaagreat", sum := "99a16b38de865bd2b05b5f82cb1a43d3f749f1e224e7830e8576986a00b29eb5", func := "loop.example/atomicpush/laws.FnFetchPack", spec := "fnFetchPack", inPlace := ["internal/bytealg.IndexByteString", "internal/bytealg.IndexString"], unfollowed := true, recurses := true, named := ["internal/bytealg.MaxLen"], apart := false }
def FnFetchPackSaid : Prop := fnFetchPackRow.holds Tryz.pinned (OpenSpec.ofChange fnFetchPackSpec)

/-- ITS FALSE NEIGHBOUR: 'it returns false'. Refute it at one input. -/
def fnFetchPackWrong : ChangeSpec := { name := "fnFetchPack", fn := fun _ => fun
  | [d] => { results := [.lit (.bool false)], args := [d] }
  | _ => none }
def FnFetchPackWrongFalsely : Prop := fnFetchPackRow.holds Tryz.pinned (OpenSpec.ofChange fnFetchPackWrong)

/-- 'laws.FnFetchMore': WHATEVER THE INPUT: true; the input reads as it did. -/
def fnFetchMoreSpec : ChangeSpec := { name := "fnFetchMore", fn := fun _ => fun
  | [d] => { results := [.lit (.bool true)], args := [d] }
  | _ => none }
def fnFetchMoreRow : OpenClaim := { program := "ytjgbconlpolddaagreat", sum := "99a16b38de865bd2b05b5f82cb1a43d3f749f1e224e7830e8576986a00b29eb5", func := "loop.example/atomicpush/laws.FnFetchMore", spec := "fnFetchMore", inPlace := ["internal/bytealg.IndexByteString", "internal/bytealg.IndexString", "slices.overlaps[loop.example/atomicpush/impl.Object]"], unfollowed := true, recurses := true, named := ["internal/bytealg.MaxLen"], apart := false }
def FnFetchMoreSaid : Prop := fnFetchMoreRow.holds Tryz.pinned (OpenSpec.ofChange fnFetchMoreSpec)

/-- ITS FALSE NEIGHBOUR: 'it returns false'. Refute it at one input. -/
def fnFetchMoreWrong : ChangeSpec := { name := "fnFetchMore", fn := fun _ => fun
  | [d] => { results := [.lit (.bool false)], args := [d] }
  | _ => none }
def FnFetchMoreWrongFalsely : Prop := fnFetchMoreRow.holds Tryz.pinned (OpenSpec.ofChange fnFetchMoreWrong)

/-- 'laws.FnFetchWhole': WHATEVER THE INPUT: true; the input reads as it did. -/
def fnFetchWholeSpec : ChangeSpec := { name := "fnFetchWhole", fn := fun _ => fun
  | [d] => { results := [.lit (.bool true)], args := [d] }
  | _ => none }
def fnFetchWholeRow : OpenClaim := { program := "ytjgbconlpolddaagreat", sum := "99a16b38de865bd2b05b5f82cb1a43d3f749f1e224e7830e8576986a00b29eb5", func := "loop.example/atomicpush/laws.FnFetchWhole", spec := "fnFetchWhole", inPlace := ["internal/bytealg.IndexByteString", "internal/bytealg.IndexString", "slices.overlaps[loop.example/atomicpush/impl.Object]"], unfollowed := true, recurses := true, named := ["internal/bytealg.MaxLen"], apart := false }
def FnFetchWholeSaid : Prop := fnFetchWholeRow.holds Tryz.pinned (OpenSpec.ofChange fnFetchWholeSpec)

/-- ITS FALSE NEIGHBOUR: 'it returns false'. Refute it at one input. -/
def fnFetchWholeWrong : ChangeSpec := { name := "fnFetchWhole", fn := fun _ => fun
  | [d] => { results := [.lit (.bool false)], args := [d] }
  | _ => none }
def FnFetchWholeWrongFalsely : Prop := fnFetchWholeRow.holds Tryz.pinned (OpenSpec.ofChange fnFetchWholeWrong)

/- THE SECOND FORM. 'bulk': how many values and letters a reading holds, each counted each time it is reached (what is shared counts as often as it is met; a slice's spare places count too). A statement '..UptoSaid' is the law's where the arguments, and the package variables that the reading takes, are together of bulk at most 1048576: NARROWER than '..Said'. Prove '..Said' where nothing that the law and all that it calls make is longer than what came in: it says more and counts as full. Else prove '..UptoSaid'. A law counts once. -/
mutual
def uptoBulk {H : Type} : DataW H → Nat
  | .lit (.string bytes) => bytes.length + 1
  | .lit _ => 1
  | .nil => 1
  | .ptr d => uptoBulk d + 1
  | .slice elems spare => uptoBulkAll elems + uptoBulkAll spare + 1
  | .agg parts => uptoBulkAll parts + 1
  | .iface _ d => uptoBulk d + 1
  | .map entries => uptoBulkEntries entries + 1
  | .held _ => 1
def uptoBulkAll {H : Type} : List (DataW H) → Nat
  | [] => 0
  | d :: r => uptoBulk d + uptoBulkAll r
def uptoBulkEntries {H : Type} : List (Lit × DataW H) → Nat
  | [] => 0
  | x :: r => uptoBulkEntry x + uptoBulkEntries r
def uptoBulkEntry {H : Type} : Lit × DataW H → Nat
  | (.string bytes, d) => bytes.length + uptoBulk d + 1
  | (_, d) => uptoBulk d + 1
 end
def uptoSmall : (H : Type) → List (DataW H) → Bool := fun _ ds => decide (uptoBulkAll ds ≤ 1048576)
def OpenSpec.upto (s : _root_.Go.ChangeSpec) : _root_.Go.OpenSpec := { _root_.Go.OpenSpec.ofChange s with cond := some uptoSmall }

/-- 'laws.FnFetchPack', WHERE WHAT IT READS IS OF BULK AT MOST 1048576: true; the input reads as it did. -/
def fnFetchPackUptoRow : OpenClaim := { program := "ytjgbconlpolddaagreat", sum := "99a16b38de865bd2b05b5f82cb1a43d3f749f1e224e7830e8576986a00b29eb5", func := "loop.example/atomicpush/laws.FnFetchPack", spec := "fnFetchPack", inPlace := ["internal/bytealg.IndexByteString", "internal/bytealg.IndexString"], unfollowed := true, recurses := true, named := ["internal/bytealg.MaxLen"], apart := false, narrowed := true }
def FnFetchPackUptoSaid : Prop := fnFetchPackUptoRow.holds Tryz.pinned (OpenSpec.upto fnFetchPackSpec)

/-- 'laws.FnFetchMore', WHERE WHAT IT READS IS OF BULK AT MOST 1048576: true; the input reads as it did. -/
def fnFetchMoreUptoRow : OpenClaim := { program := "ytjgbconlpolddaagreat", sum := "99a16b38de865bd2b05b5f82cb1a43d3f749f1e224e7830e8576986a00b29eb5", func := "loop.example/atomicpush/laws.FnFetchMore", spec := "fnFetchMore", inPlace := ["internal/bytealg.IndexByteString", "internal/bytealg.IndexString", "slices.overlaps[loop.example/atomicpush/impl.Object]"], unfollowed := true, recurses := true, named := ["internal/bytealg.MaxLen"], apart := false, narrowed := true }
def FnFetchMoreUptoSaid : Prop := fnFetchMoreUptoRow.holds Tryz.pinned (OpenSpec.upto fnFetchMoreSpec)

/-- 'laws.FnFetchWhole', WHERE WHAT IT READS IS OF BULK AT MOST 1048576: true; the input reads as it did. -/
def fnFetchWholeUptoRow : OpenClaim := { program := "ytjgbconlpolddaagreat", sum := "99a16b38de865bd2b05b5f82cb1a43d3f749f1e224e7830e8576986a00b29eb5", func := "loop.example/atomicpush/laws.FnFetchWhole", spec := "fnFetchWhole", inPlace := ["internal/bytealg.IndexByteString", "internal/bytealg.IndexString", "slices.overlaps[loop.example/atomicpush/impl.Object]"], unfollowed := true, recurses := true, named := ["internal/bytealg.MaxLen"], apart := false, narrowed := true }
def FnFetchWholeUptoSaid : Prop := fnFetchWholeUptoRow.holds Tryz.pinned (OpenSpec.upto fnFetchWholeSpec)

end Rows
end Go.Proofs.YtjgbconlpolddaaGreat
