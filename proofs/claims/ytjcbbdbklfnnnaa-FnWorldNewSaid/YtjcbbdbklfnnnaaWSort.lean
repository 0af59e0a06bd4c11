import Derived.Test.YtjcbbdbklfnnnaaWSame
namespace Go.Proofs.Ytjcbbdbklfnnnaa
open Go.RowKit
set_option linter.unusedVariables false

set_option maxRecDepth 20000 in
set_option maxHeartbeats 1000000 in
theorem clone_nil (w : World) :
    Calls Try.prog 19 #[.slice none 0 0] w fun e w' => e = .returned (.slice none 0 0) ∧ Fr w.heap.size [] w w' := by
  have hb : ∀ w : World, (binOp .eql 24 (.slice none 0 0) (.slice none 0 0)).run Try.prog w = .ok (.bool true) w := fun _ => by kernel_rfl
  go_enter Try.func19, Try.ntmps19
  go_wp2
  go_ret
  exact ⟨rfl, Fr.refl _ _ _⟩

set_option maxRecDepth 20000 in
set_option maxHeartbeats 1000000 in
theorem equal_nil (w : World) :
    Calls Try.prog 21 #[.slice none 0 0, .slice none 0 0] w fun e w' => e = .returned (.bool true) ∧ Fr w.heap.size [] w w' := by
  go_enter Try.func21, Try.ntmps21
  go_wp2
  refine wp_loop_rounds 1 ?_
  rw [rounds_succ]
  go_wp2
  go_ret
  exact ⟨rfl, Fr.refl _ _ _⟩

set_option maxRecDepth 20000 in
set_option maxHeartbeats 1000000 in
theorem len64_zero (w : World) :
    Calls Try.prog 47 #[.int .u64 0] w fun e w' => e = .returned (.int .i64 0) ∧ Fr w.heap.size [] w w' := by
  go_enter Try.func47, Try.ntmps47
  go_wp2
  go_ret
  exact ⟨by kernel_rfl, Fr.refl _ _ _⟩

set_option maxRecDepth 20000 in
set_option maxHeartbeats 1000000 in
theorem len_zero (w : World) :
    Calls Try.prog 31 #[.int .u64 0] w fun e w' => e = .returned (.int .i64 0) ∧ Fr w.heap.size [] w w' := by
  go_enter Try.func31, Try.ntmps31
  go_wp2_with (go_at_call 47; go_must (refine (len64_zero _).mono ?_; rintro e w1 ⟨rfl, fr1⟩))
  go_ret
  exact ⟨rfl, fr1⟩

set_option maxRecDepth 20000 in
set_option maxHeartbeats 1000000 in
theorem insertion_nil (w : World) :
    Calls Try.prog 37 #[.slice none 0 0, .int .i64 0, .int .i64 0] w fun e w' => e = .returned (.tuple #[]) ∧ Fr w.heap.size [] w w' := by
  go_enter Try.func37, Try.ntmps37
  go_wp2
  refine wp_loop_rounds 1 ?_
  rw [rounds_succ]
  go_wp2
  exact bodyPost_end (v := .tuple #[]) (by simp [results, Try.results37, go_sem]) rfl ⟨rfl, Fr.refl _ _ _⟩

set_option maxRecDepth 20000 in
set_option maxHeartbeats 1000000 in
theorem pdq_nil (w : World) :
    Calls Try.prog 30 #[.slice none 0 0, .int .i64 0, .int .i64 0, .int .i64 0] w fun e w' => (∃ v, e = .returned v) ∧ Fr w.heap.size [] w w' := by
  go_enter Try.func30, Try.ntmps30
  go_wp2
  refine wp_loop_rounds 1 ?_
  rw [rounds_succ]
  go_wp2_with (go_at_call 37; go_must (refine (insertion_nil _).mono ?_; rintro e w1 ⟨rfl, fr1⟩))
  exact bodyPost_ret (v := .tuple #[]) (by simp [results, Try.results30, go_sem]) rfl ⟨⟨_, rfl⟩, fr1⟩

set_option maxRecDepth 20000 in
set_option maxHeartbeats 1000000 in
theorem sort_nil (w : World) :
    Calls Try.prog 20 #[.slice none 0 0] w fun e w' => (∃ v, e = .returned v) ∧ Fr w.heap.size [] w w' := by
  go_enter Try.func20, Try.ntmps20
  go_wp2_with (first
    | (go_at_call 31; go_must (refine (len_zero _).mono ?_; rintro e w1 ⟨rfl, fr1⟩))
    | (go_at_call 30; go_must (refine (pdq_nil _).mono ?_; rintro e w2 ⟨⟨v, rfl⟩, fr2⟩)))
  exact bodyPost_end (v := .tuple #[]) (by simp [results, Try.results20, go_sem]) rfl ⟨⟨_, rfl⟩, fr1.trans fr2.nil⟩

set_option maxRecDepth 20000 in
set_option maxHeartbeats 1000000 in
theorem coordValid_nil (w : World) :
    Calls Try.prog 10 #[.agg #[.slice none 0 0, .slice none 0 0]] w fun e w' => e = .returned (.bool true) ∧ Fr w.heap.size [] w w' := by
  go_enter Try.func10, Try.ntmps10
  go_wp2
  refine wp_loop_rounds 1 ?_
  rw [rounds_succ]
  go_wp2_with (first
    | (go_at_call 19; go_must (refine (clone_nil _).mono ?_; rintro e w1 ⟨rfl, fr1⟩; have B1 := hid (fr1.keep _ _ (heap_alloc_new w (.cells #[.slice none 0 0, .slice none 0 0] 26)) (.inr (by simp)))))
    | (go_at_call 20; go_must (refine (sort_nil _).mono ?_; rintro e w2 ⟨⟨v, rfl⟩, fr2⟩; have b2 := fr2.keep _ _ B1.out (.inr (by simp)); have c20 := cell_of (o := 0) b2 rfl; have c21 := cell_of (o := 1) b2 rfl; clear b2))
    | (go_at_call 21; go_must (refine (equal_nil _).mono ?_; rintro e w3 ⟨rfl, fr3⟩)))
  go_ret
  exact ⟨rfl, ((((Fr.refl _ _ _).alloc _).trans fr1.nil).trans fr2.nil).trans fr3.nil⟩

end Go.Proofs.Ytjcbbdbklfnnnaa
