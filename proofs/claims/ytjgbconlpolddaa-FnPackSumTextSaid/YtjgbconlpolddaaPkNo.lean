/- A pack with a base that does not come earlier. -/
import Derived.Test.YtjgbconlpolddaaPkLink
namespace Go.Proofs.Ytjgbconlpolddaa
open Go.RowKit
set_option linter.unusedVariables false

theorem linkPack_no (K : Nat → Bool → Prop) (v : Value) (es : List En) (w : World) (hv : EnsR K w v es) (hl : es.length ≤ 1000) (hKi : Safe K w.heap.size [67] 3) (hKo : Safe K w.heap.size [67] 109) (hno : linkOk es = false) :
    Calls Try.prog 47 #[v] w fun e w' => Fr w.heap.size [] w w' ∧ e = .returned (.tuple #[.slice none 0 0, .bool false]) := by
  refine (linkPack_any K v es w hv hl hKi hKo).mono ?_
  rintro e w1 ⟨fr1, ⟨-, rfl⟩ | ⟨h, -⟩⟩
  · exact ⟨fr1, rfl⟩
  · rw [hno] at h; cases h

set_option maxRecDepth 20000 in
set_option maxHeartbeats 2000000 in
theorem packObjects_no (K : Nat → Bool → Prop) (v : Value) (es : List En) (w : World) (hv : EnsR K w v es) (hl : es.length ≤ 16) (hKi : Safe K w.heap.size [67] 3) (hKo : Safe K w.heap.size [67] 109) (hno : linkOk es = false) :
    Calls Try.prog 13 #[v] w fun e w' => Fr w.heap.size [] w w' ∧ e = .returned (.tuple #[.slice none 0 0, .bool false]) := by
  obtain ⟨a, cap, rfl, hcap, -⟩ := hv.shape
  have HV := hid hv
  have NO := hid hno
  have i16 : ¬ (16 : Int) < (es.length : Int) := by omega
  have i17 : (es.length : Int) ≤ 16 := by omega
  clear hv hno
  go_enter Try.func13, Try.ntmps13
  go_wp2_with (go_at_call 47; go_must (refine (linkPack_no K _ es _ HV.out (by omega) hKi hKo NO.out).mono ?_; rintro e w1 ⟨fr1, rfl⟩))
  go_ret2
  exact ⟨fr1, rfl⟩

set_option maxRecDepth 20000 in
set_option maxHeartbeats 2000000 in
theorem packDepth_no (K : Nat → Bool → Prop) (v : Value) (es : List En) (k : Int) (w : World) (hv : EnsR K w v es) (hl : es.length ≤ 16) (hKi : Safe K w.heap.size [67] 3) (hKo : Safe K w.heap.size [67] 109) (hno : linkOk es = false) :
    Calls Try.prog 14 #[v, .int .i64 k] w fun e w' => Fr w.heap.size [] w w' ∧ e = .returned (.int .i64 (-1)) := by
  obtain ⟨a, cap, rfl, hcap, -⟩ := hv.shape
  have HV := hid hv
  have NO := hid hno
  clear hv hno
  go_enter Try.func14, Try.ntmps14
  go_wp2_with (go_at_call 47; go_must (refine (linkPack_no K _ es _ HV.out (by omega) hKi hKo NO.out).mono ?_; rintro e w1 ⟨fr1, rfl⟩))
  go_ret
  exact ⟨fr1, rfl⟩

end Go.Proofs.Ytjgbconlpolddaa
