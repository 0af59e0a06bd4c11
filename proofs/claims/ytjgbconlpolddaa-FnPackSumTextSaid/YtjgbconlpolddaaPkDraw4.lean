/- DrawPackMake. -/
import Derived.Test.YtjgbconlpolddaaPkDraw3
namespace Go.Proofs.Ytjgbconlpolddaa
open Go.RowKit
set_option linter.unusedVariables false

set_option maxRecDepth 20000 in
set_option maxHeartbeats 1000000 in
theorem drawPackMake_any {w : World} {a : Option Addr} {n cap : Nat} (hb : Bytes w.heap.size w a n cap) (hm : cap ≤ maxLen) :
    Calls Try.prog 9 #[.slice a n cap] w fun e w' => ∃ v os, e = .returned v ∧ ObsOwn w.heap.size w' v os ∧ os.length ≤ 17 ∧ Few os ∧ Fr w.heap.size [] w w' := by
  have HB := hid hb
  clear hb
  go_enter Try.func9, Try.ntmps9
  go_wp2_with (first
    | (go_at_call 34; go_must (refine (l6Open_any HB.out hm).mono ?_; rintro e w1 ⟨rfl, hR1, fr1⟩))
    | (go_at_call 33; go_must (refine (l91List_any hR1 (by omega)).mono ?_; rintro e w2 ⟨v2, os, rfl, own2, hl2, hf2, fr2⟩)))
  go_ret
  exact ⟨v2, os, rfl, own2.lower fr1.size, hl2, hf2, fr1.after fr2⟩

end Go.Proofs.Ytjgbconlpolddaa
