/- newHistory. -/
import Derived.Test.YtkcpecihgldflaaHist
namespace Go.Proofs.Ytkcpecihgldflaa
open Go.RowKit
set_option linter.unusedVariables false

/-- A history without records, in memory of the call's own. -/
def HistNew (lo : Nat) (w : World) (h l m : Nat) : Prop :=
  lo ≤ h ∧ lo ≤ l ∧ lo ≤ m ∧ w.heap[h]? = some (.cells #[.int .i64 (-1), .int .i64 (-1), .int .i64 (-1), .int .i64 (-1), .slice (some ⟨l, 0, none⟩) 4 4, .map (some m)] 77 (0, 0)) ∧
    w.heap[m]? = some (.map #[] 0) ∧ w.ownsRow lo 3 1 (.slice (some ⟨l, 0, none⟩) 4 4) 4 [.int .i64 (-1), .int .i64 (-1), .int .i64 (-1), .int .i64 (-1)]

set_option maxRecDepth 20000 in
set_option maxHeartbeats 1000000 in
theorem newHistory_any (w : World) :
    Calls Try.prog 63 #[] w fun e w' => ∃ h l m, e = .returned (.pointer (some ⟨h, 0, none⟩)) ∧ HistNew w.heap.size w' h l m ∧ Fr w.heap.size [] w w' := by
  have hmm := @run_makeMap Try.prog
  go_enter Try.func63, Try.ntmps63
  go_wp2_with (first
   | (go_at_call 81; go_must (refine (noRefs_any _).mono ?_; rintro e w1 ⟨rfl, fr1⟩))
   | (go_at_call 82; go_must (refine (repeat_any _ _ (heap_alloc_eq _ _ (by simp))).mono ?_; rintro e w2 ⟨own2, rfl, fr2⟩; have sz1 := fr1.size; have m1 := hid (fr2.keep _ _ (heap_up (heap_up (heap_alloc_new w1 (.map #[] 0)) _) _) (.inr (by simp))); have b1 := (fr2.keep _ _ (heap_up (heap_alloc_eq (n := w1.heap.size + 1) (w1.alloc (.map #[] 0)) (.cells #[.int .i64 (-1), .int .i64 (-1), .int .i64 (-1), .int .i64 (-1), .slice none 0 0, .map (some w1.heap.size)] 77) (by simp)) _) (.inr (by simp))); have B1 := hid b1; have c4 := cell_of (o := 4) b1 rfl; have f4 := free_of (o := 4) b1; clear b1)))
  have FE := (Fr.refl 0 [77] w2).setOld (p := ⟨w1.heap.size + 1, 4, none⟩) B1.out (Nat.zero_le _) (by simp [otag]) (.slice (some ⟨w1.heap.size + 1 + 1 + 1, 0, none⟩) 4 4)
  have F2 : Fr w.heap.size [] w w2 := (((fr1.alloc _).alloc _).alloc _).trans fr2.nil
  have FN := F2.setNew (p := ⟨w1.heap.size + 1, 4, none⟩) (by dsimp only; omega) (.slice (some ⟨w1.heap.size + 1 + 1 + 1, 0, none⟩) 4 4)
  have o2 : w2.ownsRow w.heap.size 3 1 (.slice (some ⟨w1.heap.size + 1 + 1 + 1, 0, none⟩) 4 4) 4 [.int .i64 (-1), .int .i64 (-1), .int .i64 (-1), .int .i64 (-1)] := by
    have h := ownsRow_lo own2 (lo' := w.heap.size) (by simp; omega)
    simpa using h
  exact bodyPost_ret (v := .pointer (some ⟨w1.heap.size + 1, 0, none⟩)) (by simp [results, Try.results63, go_sem]) rfl ⟨_, w1.heap.size + 1 + 1 + 1, w1.heap.size, rfl, ⟨by omega, by omega, by omega, block_set B1.out 4 _, block_setne m1.out (by dsimp only; omega), ownsRow_keep o2 FE (by simp)⟩, FN⟩

end Go.Proofs.Ytkcpecihgldflaa
