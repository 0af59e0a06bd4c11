/- newHistory: what a shard without records is. -/
import Derived.Test.YtkcpecihgldflaaProg
import Derived.Test.YtkcpecihgldflaaBase
import Derived.Deep.WholeRow
import Derived.RegionTactic
import Derived.BigRegion
import Derived.Deep.DeepMust
namespace Go.Proofs.Ytkcpecihgldflaa
open Go.RowKit
set_option linter.unusedVariables false

set_option maxRecDepth 20000 in
set_option maxHeartbeats 1000000 in
theorem noRefs_any (w : World) :
    Calls Try.prog 81 #[] w fun e w' => e = .returned (.agg #[.int .i64 (-1), .int .i64 (-1), .int .i64 (-1), .int .i64 (-1)]) ∧ Fr w.heap.size [] w w' := by
  go_enter Try.func81, Try.ntmps81
  go_wp2
  refine wp_loop_rounds 5 ?_
  rw [rounds_succ]
  go_wp2
  rw [rounds_succ]
  go_wp2
  rw [rounds_succ]
  go_wp2
  rw [rounds_succ]
  go_wp2
  rw [rounds_succ]
  go_wp2
  exact bodyPost_ret (v := .agg #[.int .i64 (-1), .int .i64 (-1), .int .i64 (-1), .int .i64 (-1)]) (by simp [results, Try.results81, go_sem]) rfl ⟨rfl, ((Fr.refl _ _ _).alloc _).alloc _⟩

set_option maxRecDepth 20000 in
set_option maxHeartbeats 1000000 in
theorem bitsMul_1_4 (w : World) :
    Calls Try.prog 84 #[.int .u64 1, .int .u64 4] w fun e w' => e = .returned (.tuple #[.int .u64 0, .int .u64 4]) ∧ w = w' := by
  go_enter Try.func84, Try.ntmps84
  go_wp2
  go_ret2
  exact ⟨by kernel_rfl, rfl⟩

theorem cell_new_at (w : World) (c : Array Value) (o : Nat) (u : Value) (h : c[o]? = some u) : (w.alloc (.cells c 3)).cell? ⟨w.heap.size, o, none⟩ = some u := by
  have := heap_alloc_new w (.cells c 3)
  unfold World.cell?
  rw [this]
  exact h

/-- A copy into a row that has just been made. -/
theorem copy_made (w : World) (o dLen dCap : Nat) (a : Addr) (sLen sCap : Nat) (cur : Array Value) (cs : List Value) (n : Nat) (hn' : n = w.heap.size) (hn : cs.length = Nat.min sLen dLen)
    (hsrc : ∀ j v, cs[j]? = some v → (w.alloc (.cells cur 3)).cell? (a.add j) = some v) (hfit : o + cs.length ≤ cur.size) (h1 : ∀ v ∈ cs, v.oneCell' = true) :
    (Builtin.copy_ #[33, 33] 3 #[.slice (some ⟨n, o, none⟩) dLen dCap, .slice (some a) sLen sCap]).run Try.prog (w.alloc (.cells cur 3)) =
      .ok (goInt cs.length) (w.alloc (.cells (cur.toList.take o ++ cs ++ cur.toList.drop (o + cs.length)).toArray 3)) := by
  subst hn'
  rw [run_copy_row (P := Try.prog) (w.alloc (.cells cur 3)) 33 33 3 3 w.heap.size o dLen dCap a sLen sCap cur 3 cs Try.underlying33 (by kernel_rfl) (heap_alloc_new w _) hn hsrc hfit h1, World.setRow_alloc_new]

set_option maxRecDepth 20000 in
set_option maxHeartbeats 1000000 in
theorem repeat_any (w : World) (b : Nat) (hb : w.heap[b]? = some (.cells #[.int .i64 (-1)] 3 (0, 0))) :
    Calls Try.prog 82 #[.slice (some ⟨b, 0, none⟩) 1 1, .int .i64 4] w fun e w' => w'.ownsRow w.heap.size 3 1 (.slice (some ⟨w.heap.size, 0, none⟩) 4 4) 4 [.int .i64 (-1), .int .i64 (-1), .int .i64 (-1), .int .i64 (-1)] ∧
      e = .returned (.slice (some ⟨w.heap.size, 0, none⟩) 4 4) ∧ Fr w.heap.size [] w w' := by
  have hbl := lt_of_get hb
  have c0 : ∀ o, (w.alloc o).cell? ⟨b, 0, none⟩ = some (.int .i64 (-1)) := fun o => by rw [World.cell?_alloc_past _ _ _ hbl]; simp [World.cell?, hb]
  have hmk : ∀ w : World, (Instr.makeSlice 33 (.int .i64 4) (.int .i64 4)).run Try.prog w = .ok (.slice (some ⟨w.heap.size, 0, none⟩) 4 4) (w.alloc (.cells #[.int .i64 0, .int .i64 0, .int .i64 0, .int .i64 0] 3)) := fun _ => by kernel_rfl
  have hc1 := copy_made w 0 4 4 ⟨b, 0, none⟩ 1 1 #[.int .i64 0, .int .i64 0, .int .i64 0, .int .i64 0] [.int .i64 (-1)] w.heap.size rfl rfl (fun j v hj => by
    match j, hj with
    | 0, hj => simp at hj; subst hj; exact c0 _) (by simp) (by simp [Value.oneCell'])
  have hc2 := copy_made w.drew 1 3 3 ⟨w.heap.size, 0, none⟩ 1 4 #[.int .i64 (-1), .int .i64 0, .int .i64 0, .int .i64 0] [.int .i64 (-1)] w.heap.size rfl rfl (fun j v hj => by
    match j, hj with
    | 0, hj => simp at hj; subst hj; exact cell_new_at w.drew _ 0 _ rfl) (by simp) (by simp [Value.oneCell'])
  have hc3 := copy_made w.drew.drew 2 2 2 ⟨w.heap.size, 0, none⟩ 2 4 #[.int .i64 (-1), .int .i64 (-1), .int .i64 0, .int .i64 0] [.int .i64 (-1), .int .i64 (-1)] w.heap.size rfl rfl (fun j v hj => by
    match j, hj with
    | 0, hj => simp at hj; subst hj; exact cell_new_at w.drew.drew _ 0 _ rfl
    | 1, hj => simp at hj; subst hj; exact cell_new_at w.drew.drew _ 1 _ rfl) (by simp) (by simp [Value.oneCell'])
  simp only [List.take_zero, List.nil_append, List.length_cons, List.length_nil, goInt] at hc1 hc2 hc3
  have hd2 : (Builtin.copy_ #[33, 33] 3 #[.slice (some ⟨w.heap.size, 1, none⟩) 3 3, .slice (some ⟨w.heap.size, 0, none⟩) 1 4]).run Try.prog (w.alloc (.cells #[.int .i64 (-1), .int .i64 0, .int .i64 0, .int .i64 0] 3)).drew = .ok (.int .i64 1) (w.alloc (.cells #[.int .i64 (-1), .int .i64 (-1), .int .i64 0, .int .i64 0] 3)).drew := hc2
  have hd3 : (Builtin.copy_ #[33, 33] 3 #[.slice (some ⟨w.heap.size, 2, none⟩) 2 2, .slice (some ⟨w.heap.size, 0, none⟩) 2 4]).run Try.prog (w.alloc (.cells #[.int .i64 (-1), .int .i64 (-1), .int .i64 0, .int .i64 0] 3)).drew.drew = .ok (.int .i64 2) (w.alloc (.cells #[.int .i64 (-1), .int .i64 (-1), .int .i64 (-1), .int .i64 (-1)] 3)).drew.drew := hc3
  clear hb c0 hc2 hc3
  go_enter Try.func82, Try.ntmps82
  go_wp2_with (go_at_call 84; go_must (refine (bitsMul_1_4 _).mono ?_; rintro e w' ⟨rfl, rfl⟩))
  refine wp_loop_rounds 3 ?_
  rw [rounds_succ]
  go_wp2
  go_region
  all_goals go_wp2
  all_goals rw [rounds_succ]
  all_goals go_wp2
  all_goals go_region
  all_goals go_wp2
  all_goals rw [rounds_succ]
  all_goals go_wp2
  all_goals
    refine bodyPost_ret (v := .slice (some ⟨w.heap.size, 0, none⟩) 4 4) (by simp [results, go_sem]) rfl ⟨?_, rfl, (((Fr.refl _ _ _).alloc _).drew).drew⟩
  all_goals exact ownsRow_keep (World.ownsRow_lit (e := 3) (size := 1) w #[.int .i64 (-1), .int .i64 (-1), .int .i64 (-1), .int .i64 (-1)] 4 (Nat.le_refl _) (by decide) rfl) (((Fr.refl 0 [] _).drew).drew) (by simp)

end Go.Proofs.Ytkcpecihgldflaa
