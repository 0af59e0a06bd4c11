import Derived.Test.YtjcbbdbklfnnnaaWSort
namespace Go.Proofs.Ytjcbbdbklfnnnaa
open Go.RowKit
set_option linter.unusedVariables false

set_option maxRecDepth 20000 in
set_option maxHeartbeats 1000000 in
theorem recordsOk_nil (w : World) (b k : Nat) (hk : k < 3) (hb : w.heap[b]? = some (.cells #[.slice none 0 0, .slice none 0 0, .slice none 0 0] 41 (0, 0))) :
    Calls Try.prog 12 #[.agg #[.slice none 0 0, .slice none 0 0, .slice (some ⟨b, 0, none⟩) 3 3, .slice none 0 0], .int .i64 k] w fun e w' => e = .returned (.bool true) ∧ Fr w.heap.size [] w w' := by
  have HB := hid hb
  have c0 : w.cell? ⟨b, k, none⟩ = some (.slice none 0 0) := by
    match k, hk with
    | 0, _ => exact cell_of (o := 0) hb rfl
    | 1, _ => exact cell_of (o := 1) hb rfl
    | 2, _ => exact cell_of (o := 2) hb rfl
  have c1 := fun o => cell_alloc (o := o) c0
  clear hb c0
  go_enter Try.func12, Try.ntmps12
  go_wp2
  refine wp_loop_rounds 1 ?_
  rw [rounds_succ]
  go_wp2
  go_ret
  exact ⟨rfl, (Fr.refl _ _ _).alloc _⟩

set_option maxRecDepth 20000 in
set_option maxHeartbeats 1000000 in
theorem worldValid_new (w : World) (b : Nat) (hb : w.heap[b]? = some (.cells #[.slice none 0 0, .slice none 0 0, .slice none 0 0] 41 (0, 0))) :
    Calls Try.prog 7 #[.agg #[.slice none 0 0, .slice none 0 0, .slice (some ⟨b, 0, none⟩) 3 3, .slice none 0 0]] w fun e w' => e = .returned (.bool true) ∧ Fr w.heap.size [] w w' := by
  have HB := hid hb
  clear hb
  go_enter Try.func7, Try.ntmps7
  go_wp2_with (first
    | (go_at_call 10; go_must (refine (coordValid_nil _).mono ?_; rintro e w1 ⟨rfl, fr1⟩; have B1 := hid (fr1.keep _ _ (heap_alloc_new w (.cells #[.slice none 0 0, .slice none 0 0, .slice (some ⟨b, 0, none⟩) 3 3, .slice none 0 0] 30)) (.inr (by simp))); have D1 := hid (fr1.keep _ _ (heap_up HB.out _) (.inr (by simp))); have k0 := cell_of (o := 0) B1.out rfl; have k1 := cell_of (o := 1) B1.out rfl; have k2 := cell_of (o := 2) B1.out rfl; have k3 := cell_of (o := 3) B1.out rfl))
    | (go_at_call 11; go_must (refine (shardsOk_nil _ _ D1.out).mono ?_; rintro e w2 ⟨rfl, fr2⟩; clear k0 k1 k2 k3; have B2 := hid (fr2.keep _ _ B1.out (.inr (by simp))); have D2 := hid (fr2.keep _ _ D1.out (.inr (by simp))); have k0 := cell_of (o := 0) B2.out rfl; have k1 := cell_of (o := 1) B2.out rfl; have k2 := cell_of (o := 2) B2.out rfl; have k3 := cell_of (o := 3) B2.out rfl)))
  refine wp_loop_rounds 4 ?_
  rw [rounds_succ]
  go_wp2_with (go_at_call 12; go_must (refine (recordsOk_nil _ b 0 (by decide) D2.out).mono ?_; rintro e w3 ⟨rfl, fr3⟩; clear k0 k1 k2 k3; have B3 := hid (fr3.keep _ _ B2.out (.inr (by simp))); have D3 := hid (fr3.keep _ _ D2.out (.inr (by simp))); have k0 := cell_of (o := 0) B3.out rfl; have k1 := cell_of (o := 1) B3.out rfl; have k2 := cell_of (o := 2) B3.out rfl; have k3 := cell_of (o := 3) B3.out rfl))
  rw [rounds_succ]
  go_wp2_with (go_at_call 12; go_must (refine (recordsOk_nil _ b 1 (by decide) D3.out).mono ?_; rintro e w4 ⟨rfl, fr4⟩; clear k0 k1 k2 k3; have B4 := hid (fr4.keep _ _ B3.out (.inr (by simp))); have D4 := hid (fr4.keep _ _ D3.out (.inr (by simp))); have k0 := cell_of (o := 0) B4.out rfl; have k1 := cell_of (o := 1) B4.out rfl; have k2 := cell_of (o := 2) B4.out rfl; have k3 := cell_of (o := 3) B4.out rfl))
  rw [rounds_succ]
  go_wp2_with (go_at_call 12; go_must (refine (recordsOk_nil _ b 2 (by decide) D4.out).mono ?_; rintro e w5 ⟨rfl, fr5⟩; clear k0 k1 k2 k3; have B5 := hid (fr5.keep _ _ B4.out (.inr (by simp))); have D5 := hid (fr5.keep _ _ D4.out (.inr (by simp))); have k0 := cell_of (o := 0) B5.out rfl; have k1 := cell_of (o := 1) B5.out rfl; have k2 := cell_of (o := 2) B5.out rfl; have k3 := cell_of (o := 3) B5.out rfl))
  rw [rounds_succ]
  go_wp2
  refine wp_loop_rounds 1 ?_
  rw [rounds_succ]
  go_wp2
  go_ret
  exact ⟨rfl, (((((((Fr.refl _ _ _).alloc _).trans fr1.nil).trans fr2.nil).trans fr3.nil).trans fr4.nil).trans fr5.nil)⟩

end Go.Proofs.Ytjcbbdbklfnnnaa
