import Derived.Test.YtjcbbdbklfnnnaaWNew
namespace Go.Proofs.Ytjcbbdbklfnnnaa
open Go.RowKit
set_option linter.unusedVariables false

/-- A history without records, in memory of the call's own. -/
def HistNew (lo : Nat) (w : World) (h l m : Nat) : Prop :=
  lo ≤ h ∧ lo ≤ l ∧ lo ≤ m ∧ w.heap[h]? = some (.cells #[.int .i64 (-1), .int .i64 (-1), .int .i64 (-1), .int .i64 (-1), .slice (some ⟨l, 0, none⟩) 4 4, .map (some m)] 108 (0, 0)) ∧
    w.heap[m]? = some (.map #[] 0) ∧ w.ownsRow lo 3 1 (.slice (some ⟨l, 0, none⟩) 4 4) 4 [.int .i64 (-1), .int .i64 (-1), .int .i64 (-1), .int .i64 (-1)]

set_option maxRecDepth 20000 in
set_option maxHeartbeats 1000000 in
theorem newHistory_any (w : World) :
    Calls Try.prog 48 #[] w fun e w' => ∃ h l m, e = .returned (.pointer (some ⟨h, 0, none⟩)) ∧ HistNew w.heap.size w' h l m ∧ Fr w.heap.size [] w w' := by
  have hmm := @run_makeMap Try.prog
  go_enter Try.func48, Try.ntmps48
  go_wp2_with (first
   | (go_at_call 57; go_must (refine (noRefs_any _).mono ?_; rintro e w1 ⟨rfl, fr1⟩))
   | (go_at_call 58; go_must (refine (repeat_any _ _ (heap_alloc_eq _ _ (by simp))).mono ?_; rintro e w2 ⟨own2, rfl, fr2⟩; have sz1 := fr1.size; have m1 := hid (fr2.keep _ _ (heap_up (heap_up (heap_alloc_new w1 (.map #[] 0)) _) _) (.inr (by simp))); have b1 := (fr2.keep _ _ (heap_up (heap_alloc_eq (n := w1.heap.size + 1) (w1.alloc (.map #[] 0)) (.cells #[.int .i64 (-1), .int .i64 (-1), .int .i64 (-1), .int .i64 (-1), .slice none 0 0, .map (some w1.heap.size)] 108) (by simp)) _) (.inr (by simp))); have B1 := hid b1; have c4 := cell_of (o := 4) b1 rfl; have f4 := free_of (o := 4) b1; clear b1)))
  have FE := (Fr.refl 0 [108] w2).setOld (p := ⟨w1.heap.size + 1, 4, none⟩) B1.out (Nat.zero_le _) (by simp [otag]) (.slice (some ⟨w1.heap.size + 1 + 1 + 1, 0, none⟩) 4 4)
  have F2 : Fr w.heap.size [] w w2 := (((fr1.alloc _).alloc _).alloc _).trans fr2.nil
  have FN := F2.setNew (p := ⟨w1.heap.size + 1, 4, none⟩) (by dsimp only; omega) (.slice (some ⟨w1.heap.size + 1 + 1 + 1, 0, none⟩) 4 4)
  have o2 : w2.ownsRow w.heap.size 3 1 (.slice (some ⟨w1.heap.size + 1 + 1 + 1, 0, none⟩) 4 4) 4 [.int .i64 (-1), .int .i64 (-1), .int .i64 (-1), .int .i64 (-1)] := by
    have h := ownsRow_lo own2 (lo' := w.heap.size) (by simp; omega)
    simpa using h
  exact bodyPost_ret (v := .pointer (some ⟨w1.heap.size + 1, 0, none⟩)) (by simp [results, Try.results48, go_sem]) rfl ⟨_, w1.heap.size + 1 + 1 + 1, w1.heap.size, rfl, ⟨by omega, by omega, by omega, block_set B1.out 4 _, block_setne m1.out (by dsimp only; omega), ownsRow_keep o2 FE (by simp)⟩, FN⟩

set_option maxRecDepth 20000 in
set_option maxHeartbeats 1000000 in
theorem sameInts_nil (w : World) (a b : Option Addr) (c d : Nat) :
    Calls Try.prog 15 #[.slice a 0 c, .slice b 0 d] w fun e w' => e = .returned (.bool true) ∧ Fr w.heap.size [] w w' := by
  go_enter Try.func15, Try.ntmps15
  go_wp2
  refine wp_loop_rounds 1 ?_
  rw [rounds_succ]
  go_wp2
  go_ret
  exact ⟨rfl, Fr.refl _ _ _⟩

set_option maxRecDepth 20000 in
set_option maxHeartbeats 1000000 in
theorem sameShard_nil (w : World) (a b : Option Addr) (c d : Nat) :
    Calls Try.prog 17 #[.agg #[.slice a 0 c], .agg #[.slice b 0 d]] w fun e w' => e = .returned (.bool true) ∧ Fr w.heap.size [] w w' := by
  go_enter Try.func17, Try.ntmps17
  go_wp2
  refine wp_loop_rounds 1 ?_
  rw [rounds_succ]
  go_wp2
  go_ret
  exact ⟨rfl, ((Fr.refl _ _ _).alloc _).alloc _⟩

set_option maxRecDepth 20000 in
set_option maxHeartbeats 1000000 in
theorem read_nil (w : World) (a : Option Addr) (c : Nat) :
    Calls Try.prog 33 #[.agg #[.slice a 0 c]] w fun e w' => ∃ h l m, e = .returned (.tuple #[.pointer (some ⟨h, 0, none⟩), .bool true]) ∧ HistNew w.heap.size w' h l m ∧ Fr w.heap.size [] w w' := by
  go_enter Try.func33, Try.ntmps33
  go_wp2_with (go_at_call 48; go_must (refine (newHistory_any _).mono ?_; rintro e w1 ⟨h, l, m, rfl, hn, fr1⟩; have b1 := fr1.keep _ _ (heap_alloc_new w (.cells #[.slice a 0 c] 41)) (.inr (by simp)); have c0 := cell_of (o := 0) b1 rfl; have HN := hid hn; clear hn))
  refine wp_loop_rounds 1 ?_
  rw [rounds_succ]
  go_wp2
  go_region
  all_goals go_wp2
  obtain ⟨p1, p2, p3, p4, p5, p6⟩ := HN.out
  have sw := fr1.size
  have p6' := ownsRow_keep (ownsRow_lo p6 (lo' := w.heap.size) (by simp)) ((Fr.refl 0 [] w1).drew) (by simp)
  exact bodyPost_ret (v := .tuple #[.pointer (some ⟨h, 0, none⟩), .bool true]) (by simp [results, Try.results33, go_sem]) rfl ⟨_, l, m, rfl, ⟨by simp at p1; omega, by simp at p2; omega, by simp at p3; omega, p4, p5, p6'⟩, (((Fr.refl _ _ _).alloc _).trans fr1.nil).drew⟩

set_option maxRecDepth 20000 in
set_option maxHeartbeats 1000000 in
theorem shardValid_nil (w : World) (a : Option Addr) (c : Nat) :
    Calls Try.prog 24 #[.agg #[.slice a 0 c]] w fun e w' => e = .returned (.bool true) ∧ Fr w.heap.size [] w w' := by
  go_enter Try.func24, Try.ntmps24
  go_wp2_with (go_at_call 33; go_must (refine (read_nil _ _ _).mono ?_; rintro e w1 ⟨h, l, m, rfl, hn, fr1⟩))
  go_ret
  exact ⟨rfl, ((Fr.refl _ _ _).alloc _).trans fr1.nil⟩

set_option maxRecDepth 20000 in
set_option maxHeartbeats 1000000 in
theorem notValid_nil (w : World) (a : Option Addr) (c : Nat) :
    Calls Try.prog 23 #[.agg #[.slice a 0 c]] w fun e w' => e = .returned (.bool false) ∧ Fr w.heap.size [] w w' := by
  go_enter Try.func23, Try.ntmps23
  go_wp2_with (go_at_call 24; go_must (refine (shardValid_nil _ _ _).mono ?_; rintro e w1 ⟨rfl, fr1⟩))
  go_ret
  exact ⟨rfl, ((Fr.refl _ _ _).alloc _).trans fr1.nil⟩

set_option maxRecDepth 20000 in
set_option maxHeartbeats 1000000 in
theorem indexFunc_nil (w : World) (b : Nat) (hb : w.heap[b]? = some (.cells #[.slice none 0 0, .slice none 0 0, .slice none 0 0] 41 (0, 0))) (f : Value) (hf : f = .func (.func 23) #[] #[]) :
    Calls Try.prog 32 #[.slice (some ⟨b, 0, none⟩) 3 3, f] w fun e w' => e = .returned (.int .i64 (-1)) ∧ Fr w.heap.size [] w w' := by
  have c0 := cell_of (o := 0) hb rfl
  have c1 := cell_of (o := 1) hb rfl
  have c2 := cell_of (o := 2) hb rfl
  subst hf
  have HB := hid hb
  clear hb
  go_enter Try.func32, Try.ntmps32
  go_wp2
  refine wp_loop_rounds 4 ?_
  rw [rounds_succ]
  go_wp2_with (go_at_call 23; go_must (refine (notValid_nil _ _ _).mono ?_; rintro e w1 ⟨rfl, fr1⟩; have b1 := fr1.keep _ _ HB.out (.inr (by simp)); have HB1 := hid b1; have c1' := cell_of (o := 1) b1 rfl; clear b1 c0 c1 c2))
  rw [rounds_succ]
  go_wp2_with (go_at_call 23; go_must (refine (notValid_nil _ _ _).mono ?_; rintro e w2 ⟨rfl, fr2⟩; have b2 := fr2.keep _ _ HB1.out (.inr (by simp)); have HB2 := hid b2; have c2' := cell_of (o := 2) b2 rfl; clear b2 c1'))
  rw [rounds_succ]
  go_wp2_with (go_at_call 23; go_must (refine (notValid_nil _ _ _).mono ?_; rintro e w3 ⟨rfl, fr3⟩; clear c2'))
  rw [rounds_succ]
  go_wp2
  go_ret
  exact ⟨rfl, (fr1.trans fr2.nil).trans fr3.nil⟩

set_option maxRecDepth 20000 in
set_option maxHeartbeats 1000000 in
theorem containsFunc_nil (w : World) (b : Nat) (hb : w.heap[b]? = some (.cells #[.slice none 0 0, .slice none 0 0, .slice none 0 0] 41 (0, 0))) (f : Value) (hf : f = .func (.func 23) #[] #[]) :
    Calls Try.prog 22 #[.slice (some ⟨b, 0, none⟩) 3 3, f] w fun e w' => e = .returned (.bool false) ∧ Fr w.heap.size [] w w' := by
  subst hf
  have HB := hid hb
  clear hb
  go_enter Try.func22, Try.ntmps22
  go_wp2_with (go_at_call 32; go_must (refine (indexFunc_nil _ _ HB.out _ rfl).mono ?_; rintro e w1 ⟨rfl, fr1⟩))
  go_ret
  exact ⟨rfl, fr1⟩

set_option maxRecDepth 20000 in
set_option maxHeartbeats 1000000 in
theorem shardsOk_nil (w : World) (b : Nat) (hb : w.heap[b]? = some (.cells #[.slice none 0 0, .slice none 0 0, .slice none 0 0] 41 (0, 0))) :
    Calls Try.prog 11 #[.slice (some ⟨b, 0, none⟩) 3 3] w fun e w' => e = .returned (.bool true) ∧ Fr w.heap.size [] w w' := by
  have HB := hid hb
  clear hb
  go_enter Try.func11, Try.ntmps11
  go_wp2_with (go_at_call 22; go_must (refine (containsFunc_nil _ _ HB.out _ rfl).mono ?_; rintro e w1 ⟨rfl, fr1⟩))
  go_ret
  exact ⟨rfl, fr1⟩

end Go.Proofs.Ytjcbbdbklfnnnaa
