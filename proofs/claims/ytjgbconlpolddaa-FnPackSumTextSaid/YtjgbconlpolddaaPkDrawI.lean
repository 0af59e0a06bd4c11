/- Draws of ids. -/
import Derived.Test.YtjgbconlpolddaaPkDraw1
namespace Go.Proofs.Ytjgbconlpolddaa
open Go.RowKit
set_option linter.unusedVariables false

/-- A drawn number. -/
def DrawI (B r p c : Nat) (w : World) (e : Ending) (w' : World) : Prop :=
  ∃ (n : Int) (q : Nat), e = .returned (.int .i64 n) ∧ Rdr B w' r q ∧ q ≤ p + c ∧ Fr B [102] w w' ∧ -1000 ≤ n ∧ n ≤ 1000

set_option maxRecDepth 20000 in
set_option maxHeartbeats 1000000 in
theorem l91Id_any {B r p : Nat} {w : World} (hR : Rdr B w r p) (hp : p ≤ 999999990) :
    Calls Try.prog 101 #[.pointer (some ⟨r, 0, none⟩)] w (DrawI B r p 3 w) := by
  have hB : B ≤ w.heap.size := Nat.le_trans hR.1 (Nat.le_of_lt hR.lt)
  go_enter Try.func101, Try.ntmps101
  go_wp2_with (first
    | (go_at_call 71; (with_reducible refine (pick_at (n := 30) hR (by omega)).mono ?_); go_must (rintro e w1 ⟨k, rfl, hk, hR1, hf1⟩))
    | (go_at_call 71; (with_reducible refine (pick_at (n := 99) hR1 (by omega)).mono ?_); go_must (rintro e w2 ⟨j, rfl, hj, hR2, hf2⟩))
    | (go_at_call 71; (with_reducible refine (pick_at (n := 10) hR2 (by omega)).mono ?_); go_must (rintro e w3 ⟨i, rfl, hi, hR3, hf3⟩))
    | (go_at_call 71; go_must (refine (pick_at (n := 3) (hR1.alloc _) (by omega)).mono ?_; rintro e w2 ⟨j, rfl, hj, hR2, hf2⟩; have hj3 : j < 3 := (by omega); have hcb := hf2.keep _ _ (heap_alloc_new w1 (.cells #[.int .i64 (-1), .int .i64 990, .int .i64 991] 3)) (.inr (by simp [otag])); obtain ⟨m, hm, hmm⟩ := cell3 hcb hj3; have hj3' : (j : Int) < 3 := (by omega); have HM := hid hmm; clear hmm)))
  · go_ret
    have hmm := HM.out
    exact ⟨m, _, rfl, hR2, by omega, (hf1.alloc _).trans hf2, by omega, by omega⟩
  · go_ret
    exact ⟨_, _, rfl, hR3, by omega, (hf1.trans hf2).trans hf3, by omega, by omega⟩

end Go.Proofs.Ytjgbconlpolddaa
