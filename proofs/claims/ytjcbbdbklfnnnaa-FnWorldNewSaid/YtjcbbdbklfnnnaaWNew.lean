import Derived.Test.YtjcbbdbklfnnnaaHist
namespace Go.Proofs.Ytjcbbdbklfnnnaa
open Go.RowKit
set_option linter.unusedVariables false

set_option maxRecDepth 20000 in
set_option maxHeartbeats 1000000 in
theorem implNew_any (w : World) :
    Calls Try.prog 4 #[] w fun e w' => ∃ b, e = .returned (.agg #[.slice none 0 0, .slice none 0 0, .slice (some ⟨b, 0, none⟩) 3 3, .slice none 0 0]) ∧ w'.heap[b]? = some (.cells #[.slice none 0 0, .slice none 0 0, .slice none 0 0] 41 (0, 0)) ∧ w.heap.size ≤ b ∧ Fr w.heap.size [] w w' := by
  have hmk : ∀ w : World, (Instr.makeSlice 27 (.int .i64 3) (.int .i64 3)).run Try.prog w = .ok (.slice (some ⟨w.heap.size, 0, none⟩) 3 3) (w.alloc (.cells #[.slice none 0 0, .slice none 0 0, .slice none 0 0] 41)) := fun _ => by kernel_rfl
  go_enter Try.func4, Try.ntmps4
  go_wp2
  refine bodyPost_ret (v := .agg #[.slice none 0 0, .slice none 0 0, .slice (some ⟨w.heap.size + 1, 0, none⟩) 3 3, .slice none 0 0]) (by simp [results, go_sem]) rfl ⟨_, rfl, ?_, ?_, ?_⟩
  · have := heap_alloc_new (w.alloc (.cells #[.slice none 0 0, .slice none 0 0, .slice (some ⟨w.heap.size + 1, 0, none⟩) 3 3, .slice none 0 0] 30)) (.cells #[.slice none 0 0, .slice none 0 0, .slice none 0 0] 41)
    simpa using this
  · omega
  · exact (((Fr.refl _ _ _).alloc _)).alloc _

theorem infoS : (Try.prog.info? 41).map (fun i => (i.zero, i.size, i.bytes)) = some (some (.agg #[.slice none 0 0]), 1, 24) := by kernel_rfl

set_option maxRecDepth 20000 in
set_option maxHeartbeats 1000000 in
theorem specNew_any (w : World) :
    Calls Try.prog 6 #[] w fun e w' => ∃ t o u n xs, e = .returned (.agg #[.slice t 0 0, .slice o 0 0, u, .slice n 0 0]) ∧ w'.ownsRow w.heap.size 41 1 u 3 xs ∧ (∀ x ∈ xs, ∃ a, x = .slice a 0 0) ∧ Fr w.heap.size [] w w' := by
  obtain ⟨is, his, hsz0, hsz1, hsz2⟩ := info_parts infoS
  go_enter Try.func6, Try.ntmps6
  go_wp2
  go_loopw [2] (fun i wr => ∃ (k : Nat) (u : Value) (xs : List Value), k ≤ 3 ∧ i = .int .i64 k ∧ wr.heap[w.heap.size]? = some (.cells #[.slice none 0 0, .slice none 0 0, .slice none 0 0, .slice none 0 0] 30 (0, 0)) ∧ wr.heap[w.heap.size + 1 + 1 + 1 + 1]? = some (.cells #[.slice (some ⟨w.heap.size + 1, 0, none⟩) 0 0, .slice (some ⟨w.heap.size + 1 + 1, 0, none⟩) 0 0, u, .slice (some ⟨w.heap.size + 1 + 1 + 1, 0, none⟩) 0 0] 30 (0, 0)) ∧
      wr.ownsRow w.heap.size 41 1 u k xs ∧ (∀ x ∈ xs, ∃ a, x = .slice a 0 0) ∧ Fr w.heap.size [] w wr) (fun i _ => 3 - (intOf i).toNat)
  case atStart => exact ⟨0, .slice none 0 0, [], by omega, rfl, heap_up (heap_up (heap_up (heap_up (heap_alloc_new w _) _) _) _) _, heap_alloc_eq _ _ (by simp), World.ownsRow_nil _ _ _ _, by simp, (((((Fr.refl _ _ _).alloc _).alloc _).alloc _).alloc _).alloc _⟩
  case round =>
    obtain ⟨k, u, xs, hk, rfl, b0, b2, hown, hxs, hfr⟩ := hrel
    obtain ⟨ua, ucap, rfl⟩ := own_any hown
    have B0 := hid b0
    have B2 := hid b2
    have d0 := cell_of (o := 0) b0 rfl
    have d1 := cell_of (o := 1) b0 rfl
    have d2 := cell_of (o := 2) b0 rfl
    have d3 := cell_of (o := 3) b0 rfl
    have e0 := fun o => free_of (o := o) b0
    have e1 := fun o => free_of (o := o) b2
    have OWN := hid hown
    have XS := hid hxs
    have c0 := cell_of (o := 0) b2 rfl
    have c1 := cell_of (o := 1) b2 rfl
    have c2 := cell_of (o := 2) b2 rfl
    have c3 := cell_of (o := 3) b2 rfl
    have f2 := free_of (o := 2) b2
    have hsz := hfr.size
    have hlt2 := lt_of_get b2
    clear b0 b2 hown hxs
    by_cases hlt : k < 3
    · go_wp2_with ((at_builtin; go_must (refine wpList_push rfl (.tmp 13) (.tmp 16) 27 rfl w.heap.size 41 is (.agg #[.slice none 0 0]) 1 24 Try.underlying27 his hsz0 hsz1 hsz2 rfl (by decide) _ _ _ (ownsRow_grow OWN.out ((Fr.refl 0 _ _).alloc _)) rfl (by simp [Value.oneCell']) (by unfold maxLen; omega) (by omega) (by simp; omega) (by rfl) _ (by rfl) (by simp [World.setCell]) ?_; intro v4 w4 own4 fr4 _)); go_must (obtain ⟨g4, cap4, rfl, _, _, _⟩ := own_shape own4 (by omega); have OWN4 := hid own4; have E2 := hid (fr4.keep _ _ (heap_up B2.out _) (.inr (by simp [otag]))); have r2 := cell_of (o := 2) E2.out rfl; have r3 := free_of (o := 2) E2.out; clear own4 c0 c1 c2 c3 f2 d0 d1 d2 d3 e0 e1))
      go_roundw
      case rel =>
        have FE := ((Fr.refl 0 [30] w4).setOld (p := ⟨w.heap.size + 1 + 1 + 1 + 1, 2, none⟩) E2.out (Nat.zero_le _) (by simp [otag]) (.slice (some ⟨g4, 0, none⟩) (k + 1) cap4))
        refine ⟨k + 1, _, _, by omega, by go_num, block_setne (fr4.keep _ _ (heap_up B0.out _) (.inr (by simp [otag]))) (by dsimp only; omega), block_set E2.out 2 _, ownsRow_keep OWN4.out FE (by simp), ?_, ((hfr.alloc _).after fr4).setNew (by dsimp only; omega) _⟩
        intro x hx
        rcases List.mem_append.1 hx with hx | hx
        · exact XS.out x hx
        · simp at hx; exact ⟨_, hx⟩
      case measure => simp [intOf]; omega
    · obtain rfl : k = 3 := by omega
      go_wp2
      have h1 := block_set B0.out 0 (.slice (some ⟨w.heap.size + 1, 0, none⟩) 0 0)
      have h2 := block_set h1 1 (.slice (some ⟨w.heap.size + 1 + 1, 0, none⟩) 0 0)
      have h3 := block_set h2 2 (.slice ua 3 ucap)
      have h4 := block_set h3 3 (.slice (some ⟨w.heap.size + 1 + 1 + 1, 0, none⟩) 0 0)
      have g1 := cell_of (o := 0) h1 rfl
      have g2 := cell_of (o := 1) h2 rfl
      have g3 := cell_of (o := 2) h3 rfl
      have g4 := cell_of (o := 3) h4 rfl
      refine bodyPost_ret (v := .agg #[.slice (some ⟨w.heap.size + 1, 0, none⟩) 0 0, .slice (some ⟨w.heap.size + 1 + 1, 0, none⟩) 0 0, .slice ua 3 ucap, .slice (some ⟨w.heap.size + 1 + 1 + 1, 0, none⟩) 0 0]) (by simp [results, Try.results6, go_sem, g1, g2, g3, g4]) rfl ⟨_, _, _, _, _, rfl, ?_, XS.out, ?_⟩
      · have f : Fr 0 [30] wr _ := ((((Fr.refl 0 [30] wr).setOld (p := ⟨w.heap.size, 0, none⟩) B0.out (Nat.zero_le _) (by simp [otag]) _).trans ((Fr.refl _ _ _).setOld (p := ⟨w.heap.size, 1, none⟩) h1 (Nat.zero_le _) (by simp [otag]) _)).trans ((Fr.refl _ _ _).setOld (p := ⟨w.heap.size, 2, none⟩) h2 (Nat.zero_le _) (by simp [otag]) _)).trans ((Fr.refl _ _ _).setOld (p := ⟨w.heap.size, 3, none⟩) h3 (Nat.zero_le _) (by simp [otag]) (.slice (some ⟨w.heap.size + 1 + 1 + 1, 0, none⟩) 0 0))
        exact ownsRow_keep OWN.out f (by simp)
      · exact (((hfr.setNew (Nat.le_refl _) _).setNew (Nat.le_refl _) _).setNew (Nat.le_refl _) _).setNew (Nat.le_refl _) _

end Go.Proofs.Ytjcbbdbklfnnnaa
