/- The reference's l21Begin. -/
import Derived.Test.YtkcpecihgldflaaShard1
import Derived.Deep.DeepMust
namespace Go.Proofs.Ytkcpecihgldflaa
open Go.RowKit
set_option linter.unusedVariables false

theorem TwoOwn.keep {lo B : Nat} {T : List Nat} {w w' : World} {v1 v2 : Value} {l1 l2 : List Int} (h : TwoOwn lo w v1 v2 l1 l2) (hf : Fr B T w w') (hT : 3 ∉ T) : TwoOwn lo w' v1 v2 l1 l2 :=
  ⟨ownsRow_keep h.1 hf hT, ownsRow_keep h.2.1 hf hT, h.2.2⟩




set_option maxHeartbeats 1000000 in
set_option maxRecDepth 20000 in
theorem l21Begin_any (w : World) :
    Calls Try.prog 60 #[] w fun e w' => ∃ v1 v2, e = .returned (.agg #[v1, v2]) ∧ TwoOwn w.heap.size w' v1 v2 St.begin.refs St.begin.locks ∧ Fr w.heap.size [] w w' := by
  obtain ⟨i0, hi, hz0, hz1, hz2⟩ := info_parts infoI
  go_enter Try.func60, Try.ntmps60
  go_wp2
  go_loopw [2] (fun i wr => ∃ (k : Nat) (v1 v2 : Value), k ≤ 4 ∧ i = .int .i64 k ∧ wr.heap[w.heap.size]? = some (.cells #[.slice none 0 0, .slice none 0 0] 35 (0, 0)) ∧
      wr.heap[w.heap.size + 1]? = some (.cells #[v1, v2] 35 (0, 0)) ∧ TwoOwn w.heap.size wr v1 v2 (List.replicate k (-1)) (List.replicate k (-1)) ∧ Fr w.heap.size [] w wr) (fun i _ => 4 - (intOf i).toNat)
  case atStart => exact ⟨0, _, _, by omega, rfl, (Below.heap_alloc _ _ _ (by simp)).trans (heap_alloc_new w _), by have := heap_alloc_new (w.alloc (.cells #[.slice none 0 0, .slice none 0 0] 35)) (.cells #[.slice none 0 0, .slice none 0 0] 35); simpa using this, ⟨World.ownsRow_nil _ _ _ _, World.ownsRow_nil _ _ _ _, fun k hk => by cases hk⟩, ((Fr.refl _ _ _).alloc _).alloc _⟩
  case round =>
    obtain ⟨k, v1, v2, hk, rfl, hb0, hb, htw, hfr⟩ := hrel
    have c1 := cell_of (o := 0) hb rfl
    have c2 := cell_of (o := 1) hb rfl
    have f1 := free_of (o := 0) hb
    have f2 := free_of (o := 1) hb
    have HTW := hid htw
    have HB := hid hb
    have HB0 := hid hb0
    have hsz := hfr.size
    clear htw hb hb0
    by_cases hlt : k < 4
    · have HL := hid (show (List.replicate k (-1 : Int)).length = k by simp)
      go_wp2_with (first
        | ((at_builtin; refine wpList_push rfl (.tmp 9) (.tmp 10) 33 rfl w.heap.size 3 i0 (.int .i64 0) 1 8 Try.underlying33 hi hz0 hz1 hz2 rfl (by decide) _ _ _ HTW.out.1 rfl (oneCell_int _) (by rw [HL.out]; unfold maxLen; omega) (by rw [HL.out]; omega) (by omega) (by rfl) _ (by rfl) (by simp [World.setCell]) ?_; intro u1 w2 hown2 hfr2 hg2); go_must (obtain ⟨g1, cap1, rfl, hg1, hgl1, _⟩ := own_shape hown2 (by omega); have HT2 := hid (HTW.out.first hown2 hg2.1 hg2.2); have HB2 := hid (hfr2.keep _ _ HB.out (.inr (by simp [otag]))); have HB02 := hid (hfr2.keep _ _ HB0.out (.inr (by simp [otag]))); have d1 := cell_of (o := 0) HB2.out rfl; have d2 := cell_of (o := 1) HB2.out rfl; have e1 := free_of (o := 0) HB2.out; have e2 := free_of (o := 1) HB2.out; have hsz2 := hfr2.size; clear hown2 hg2 c1 c2 f1 f2))
        | ((at_builtin; go_must (refine wpList_push rfl (.tmp 14) (.tmp 15) 33 rfl w.heap.size 3 i0 (.int .i64 0) 1 8 Try.underlying33 hi hz0 hz1 hz2 rfl (by decide) _ _ _ (HT2.out.keep ((Fr.refl 0 [35] w2).setOld (p := ⟨w.heap.size + 1, 0, none⟩) HB2.out (Nat.zero_le _) (by simp [otag]) _) (by simp)).2.1 rfl (oneCell_int _) (by rw [HL.out]; unfold maxLen; omega) (by rw [HL.out]; omega) (by simp [World.setCell]; omega) (by rfl) _ (by rfl) (by simp [World.setCell]) ?_; intro u3 w4 hown4 hfr4 hg4)); go_must (obtain ⟨g3, cap3, rfl, hg3, hgl3, _⟩ := own_shape hown4 (by omega); have HB4 := hid (hfr4.keep _ _ (block_set HB2.out 0 _) (.inr (by simp [otag]))); have d4 := cell_of (o := 1) HB4.out rfl; have e4 := free_of (o := 1) HB4.out; have HB04 := hid (hfr4.keep _ _ (block_setne HB02.out (by simp)) (.inr (by simp [otag]))); have HT4 := hid ((HT2.out.keep ((Fr.refl 0 [35] w2).setOld (p := ⟨w.heap.size + 1, 0, none⟩) HB2.out (Nat.zero_le _) (by simp [otag]) _) (by simp)).second hown4 hg4.1 hg4.2); clear hown4 hg4 d1 d2 e1 e2)))
      go_roundw
      case rel =>
        have HT5 := HT4.out.keep ((Fr.refl 0 [35] w4).setOld (p := ⟨w.heap.size + 1, 1, none⟩) HB4.out (Nat.zero_le _) (by simp [otag]) (.slice (some ⟨g3, 0, none⟩) (k + 1) cap3)) (by simp)
        rw [← List.replicate_succ', List.length_replicate] at HT5
        exact ⟨k + 1, _, _, by omega, by go_num, block_setne HB04.out (by simp), block_set HB4.out 1 _, HT5, (((hfr.after hfr2).setNew (by simp) _).after hfr4).setNew (by simp) _⟩
      case measure => simp [intOf]; omega
    · obtain rfl : k = 4 := by omega
      have c01 := cell_of (o := 0) HB0.out rfl
      have c02 := cell_of (o := 1) HB0.out rfl
      have f01 := free_of (o := 0) HB0.out
      have f02 := free_of (o := 1) HB0.out
      obtain ⟨g1, cap1, rfl, hg1, hgl1, _⟩ := own_shape HTW.out.1 (by simp)
      obtain ⟨g3, cap3, rfl, hg3, hgl3, _⟩ := own_shape HTW.out.2.1 (by simp)
      go_wp2
      exact bodyPost_ret (v := .agg #[.slice (some ⟨g1, 0, none⟩) 4 cap1, .slice (some ⟨g3, 0, none⟩) 4 cap3]) (by simp [results, Try.results60, go_sem, c01, c02]) rfl
        ⟨_, _, rfl, (HTW.out.keep ((Fr.refl 0 [35] wr).setOld (p := ⟨w.heap.size, 0, none⟩) HB0.out (Nat.zero_le _) (by simp [otag]) _) (by simp)).keep ((Fr.refl 0 [35] _).setOld (p := ⟨w.heap.size, 1, none⟩) (block_set HB0.out 0 _) (Nat.zero_le _) (by simp [otag]) _) (by simp), (hfr.setNew (Nat.le_refl _) _).setNew (Nat.le_refl _) _⟩

end Go.Proofs.Ytkcpecihgldflaa
