/- Draws of numbers. -/
import Derived.Test.YtkcpecihgldflaaPick
import Derived.Test.YtkcpecihgldflaaDec
namespace Go.Proofs.Ytkcpecihgldflaa
open Go.RowKit
set_option linter.unusedVariables false

theorem pick_at {B r p : Nat} {n : Int} {w : World} (hR : Rdr B w r p) (hp : p ≤ 1000000000) :
    Calls Try.prog 35 #[.pointer (some ⟨r, 0, none⟩), .int .i64 n] w (PickPost B r p n w) := pick_any B r p n w hp hR

/-- A drawn number. -/
def DrawI (B r p c : Nat) (w : World) (e : Ending) (w' : World) : Prop :=
  ∃ (n : Int) (q : Nat), e = .returned (.int .i64 n) ∧ Rdr B w' r q ∧ q ≤ p + c ∧ Fr B [95] w w' ∧ -1000 ≤ n ∧ n ≤ 1000

theorem Rdr.alloc {B r p : Nat} {w : World} (h : Rdr B w r p) (o : Obj) : Rdr B (w.alloc o) r p := h.keep ((Fr.refl B [] w).alloc o) (by simp)

theorem cell3 {w : World} {b t : Nat} {x y z : Int} {f : Nat × Nat} (h : w.heap[b]? = some (.cells #[.int .i64 x, .int .i64 y, .int .i64 z] t f)) {k : Nat} (hk : k < 3) :
    ∃ n, w.cell? ⟨b, k, none⟩ = some (.int .i64 n) ∧ (n = x ∨ n = y ∨ n = z) := by
  match k, hk with
  | 0, _ => exact ⟨x, cell_of h rfl, .inl rfl⟩
  | 1, _ => exact ⟨y, cell_of h rfl, .inr (.inl rfl)⟩
  | 2, _ => exact ⟨z, cell_of h rfl, .inr (.inr rfl)⟩

set_option maxRecDepth 20000 in
set_option maxHeartbeats 1000000 in
theorem l92Txn_any {B r p : Nat} {w : World} (hR : Rdr B w r p) (hp : p ≤ 999999990) :
    Calls Try.prog 34 #[.pointer (some ⟨r, 0, none⟩)] w (DrawI B r p 2 w) := by
  have hB : B ≤ w.heap.size := Nat.le_trans hR.1 (Nat.le_of_lt hR.lt)
  go_enter Try.func34, Try.ntmps34
  go_wp2_with (first
    | (go_at_call 35; (with_reducible refine (pick_at hR (by omega)).mono ?_); go_must (rintro e w1 ⟨k, rfl, hk, hR1, hf1⟩))
    | (go_at_call 35; (with_reducible refine (pick_at hR1 (by omega)).mono ?_); go_must (rintro e w2 ⟨j, rfl, hj, hR2, hf2⟩))
    | (go_at_call 35; go_must (refine (pick_at (hR1.alloc _) (by omega)).mono ?_; rintro e w2 ⟨j, rfl, hj, hR2, hf2⟩; have hj3 : j < 3 := (by omega); have hcb := hf2.keep _ _ (heap_alloc_new w1 (.cells #[.int .i64 (-1), .int .i64 11, .int .i64 12] 3)) (.inr (by simp [otag])); obtain ⟨m, hm, hmm⟩ := cell3 hcb hj3; have hj3' : (j : Int) < 3 := (by omega); have HM := hid hmm; clear hmm)))
  · go_ret
    have hmm := HM.out
    exact ⟨m, _, rfl, hR2, by omega, (hf1.alloc _).trans hf2, by omega, by omega⟩
  · go_ret
    exact ⟨_, _, rfl, hR2, by omega, hf1.trans hf2, by omega, by omega⟩

set_option maxRecDepth 20000 in
set_option maxHeartbeats 1000000 in
theorem l92Value_any {B r p : Nat} {w : World} (hR : Rdr B w r p) (hp : p ≤ 999999990) :
    Calls Try.prog 62 #[.pointer (some ⟨r, 0, none⟩)] w (DrawI B r p 2 w) := by
  go_enter Try.func62, Try.ntmps62
  go_wp2_with (first
    | (go_at_call 35; (with_reducible refine (pick_at hR (by omega)).mono ?_); go_must (rintro e w1 ⟨k, rfl, hk, hR1, hf1⟩))
    | (go_at_call 35; (with_reducible refine (pick_at hR1 (by omega)).mono ?_); go_must (rintro e w2 ⟨j, rfl, hj, hR2, hf2⟩; have hj6 : (j : Int) < 6 := by omega))
    | (go_at_call 35; go_must (refine (pick_at (hR1.alloc _) (by omega)).mono ?_; rintro e w2 ⟨j, rfl, hj, hR2, hf2⟩; have hj3 : j < 3 := (by omega); have hcb := hf2.keep _ _ (heap_alloc_new w1 (.cells #[.int .i64 (-2), .int .i64 990, .int .i64 991] 3)) (.inr (by simp [otag])); obtain ⟨m, hm, hmm⟩ := cell3 hcb hj3; have hj3' : (j : Int) < 3 := (by omega); have HM := hid hmm; clear hmm)))
  · go_ret
    have hmm := HM.out
    exact ⟨m, _, rfl, hR2, by omega, (hf1.alloc _).trans hf2, by omega, by omega⟩
  · go_ret
    exact ⟨_, _, rfl, hR2, by omega, hf1.trans hf2, by omega, by omega⟩

end Go.Proofs.Ytkcpecihgldflaa
