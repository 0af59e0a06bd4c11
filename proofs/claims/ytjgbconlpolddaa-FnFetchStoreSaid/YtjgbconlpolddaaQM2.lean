/- The longest part of a base with which a text begins: plain laws; the program's walk, the reference's walk. -/
import Derived.Test.YtjgbconlpolddaaQPkSmall
import Derived.Test.YtjgbconlpolddaaQShelf
import Derived.Lib.IndexMore
set_option linter.unusedVariables false
set_option linter.unusedSimpArgs false
namespace Go.Proofs.Ytjgbconlpolddaa
open Go.RowKit
set_option linter.unusedVariables false

theorem pre_le_left : ∀ (a t : Tx), pre a t ≤ a.length
  | [], _ => by simp [pre]
  | _ :: _, [] => by simp [pre]
  | x :: a, y :: t => by
    unfold pre
    split
    · have := pre_le_left a t; simp; omega
    · simp

theorem pre_le_right : ∀ (a t : Tx), pre a t ≤ t.length
  | [], _ => by simp [pre]
  | _ :: _, [] => by simp [pre]
  | x :: a, y :: t => by
    unfold pre
    split
    · have := pre_le_right a t; simp; omega
    · simp

/-- n bytes of t begin a just where n is at most how many do. -/
theorem pre_iff : ∀ (n : Nat) (a t : Tx), n ≤ t.length → ((t.take n).isPrefixOf a = true ↔ n ≤ pre a t)
  | 0, a, t, _ => by simp
  | n + 1, a, [], h => by simp at h
  | n + 1, [], y :: t, h => by simp [pre]
  | n + 1, x :: a, y :: t, h => by
    have ih := pre_iff n a t (by simpa using h)
    rw [List.take_succ_cons]
    unfold pre
    by_cases e : x = y
    · subst e
      simp only [List.isPrefixOf_cons_cons, beq_self_eq_true, Bool.true_and, if_true]
      rw [ih]
      omega
    · have e' : (y == x) = false := by simp [Ne.symm e]
      simp [List.isPrefixOf_cons_cons, e, e']

/-- What the longest part is: none, or its place is the first of the greatest size. -/
theorem bestTo_spec (b t : Tx) : ∀ k, (∀ i, i < k → pre (b.drop i) t ≤ (bestTo b t k).2) ∧
    ((bestTo b t k = (0, 0)) ∨ (0 < (bestTo b t k).2 ∧ (bestTo b t k).1 < k ∧ pre (b.drop (bestTo b t k).1) t = (bestTo b t k).2 ∧ ∀ j, j < (bestTo b t k).1 → pre (b.drop j) t < (bestTo b t k).2)) := by
  intro k
  induction k with
  | zero => exact ⟨fun i hi => absurd hi (Nat.not_lt_zero _), .inl rfl⟩
  | succ k ih =>
    obtain ⟨h1, h2⟩ := ih
    unfold bestTo
    split
    · rename_i hlt
      refine ⟨fun i hi => ?_, .inr ⟨by dsimp only; omega, by dsimp only; omega, rfl, fun j hj => ?_⟩⟩
      · by_cases e : i = k
        · subst e; exact Nat.le_refl _
        · exact Nat.le_trans (h1 i (by omega)) (by dsimp only; omega)
      · have := h1 j hj
        dsimp only; omega
    · rename_i hge
      refine ⟨fun i hi => ?_, ?_⟩
      · by_cases e : i = k
        · subst e; omega
        · exact h1 i (by omega)
      · rcases h2 with h2 | ⟨g1, g2, g3, g4⟩
        · exact .inl h2
        · exact .inr ⟨g1, by omega, g3, g4⟩

theorem best_none {b t : Tx} (h : ∀ i, i < b.length → pre (b.drop i) t ≤ 0) : best b t = (0, 0) := by
  rcases (bestTo_spec b t b.length).2 with h2 | ⟨g1, g2, g3, g4⟩
  · exact h2
  · have := h _ g2
    omega

theorem best_at {b t : Tx} {i s : Nat} (hi : i < b.length) (hs : 0 < s) (hle : ∀ j, j < b.length → pre (b.drop j) t ≤ s) (heq : s ≤ pre (b.drop i) t) (hlt : ∀ j, j < i → pre (b.drop j) t < s) : best b t = (i, s) := by
  obtain ⟨h1, h2⟩ := bestTo_spec b t b.length
  have e1 : pre (b.drop i) t ≤ (best b t).2 := h1 i hi
  rcases h2 with h2 | ⟨g1, g2, g3, g4⟩
  · have : (best b t).2 = 0 := by unfold best; rw [h2]
    omega
  · have e2 : (best b t).2 ≤ s := by
      show (bestTo b t b.length).2 ≤ s
      rw [← g3]; exact hle _ g2
    have e3 : (best b t).2 = s := by omega
    have e4 : (best b t).1 = i := by
      rcases Nat.lt_trichotomy (best b t).1 i with h | h | h
      · have h5 := hlt _ h
        have h6 : pre (b.drop (best b t).1) t = (best b t).2 := g3
        omega
      · exact h
      · have := g4 i h
        have h7 : pre (b.drop i) t < (best b t).2 := this
        omega
    exact Prod.ext e4 e3

end Go.Proofs.Ytjgbconlpolddaa

/- Whether an object is valid; its id. -/
namespace Go.Proofs.Ytjgbconlpolddaa
open Go.RowKit
set_option linter.unusedVariables false

theorem tx_list (t : Tx) : (tx t).toList = t := by rw [Lib.toList_data, tx_data]

set_option maxRecDepth 20000 in
set_option maxHeartbeats 2000000 in
theorem ok_any (K : Nat → Bool → Prop) (v : Value) (o : Ob) (w : World) (hv : IntsR K w v o.links) (hb : o.links.length ≤ 1000000000) :
    Calls Try.prog 37 #[.agg #[.int .i64 o.kind, v, .string (tx o.text)]] w fun e w' => e = .returned (.bool (obOk o)) ∧ Fr w.heap.size [] w w' := by
  obtain ⟨a, cap, rfl, hcap, -⟩ := hv.shape
  have HV := hid hv
  have hsz := tx_size o.text
  clear hv
  have F0 := hid ((Fr.refl w.heap.size [] w).alloc (.cells #[.int .i64 o.kind, .slice a o.links.length cap, .string (tx o.text)] 40))
  have B0 := hid (heap_alloc_new w (.cells #[.int .i64 o.kind, .slice a o.links.length cap, .string (tx o.text)] 40))
  cases gi : (asc o.links && decide (o.links.length ≤ 4))
  all_goals have GI := hid gi
  all_goals clear gi
  all_goals
   go_enter Try.func37, Try.ntmps37
   go_wp2_with (go_at_call 74; go_must (refine (idsOk_any K _ _ _ (HV.out.grow F0.out) hb).mono ?_; rintro e w1 ⟨rfl, fr1⟩; rw [GI.out]; have B1 := hid (fr1.keep _ _ B0.out (.inr (by simp))); have F1 := hid (F0.out.trans fr1.nil); have c0 := cell_of (o := 0) B1.out rfl; have c1 := cell_of (o := 1) B1.out rfl; have c2 := cell_of (o := 2) B1.out rfl; clear fr1))
  all_goals go_ret
  all_goals refine ⟨ret_bool ?_, F1.out⟩
  all_goals clear F0 B0 B1 F1 c0 c1 c2 HV hcap
  all_goals rw [Bool.eq_iff_iff]
  all_goals have gi := GI.out
  all_goals clear GI
  all_goals unfold obOk kindOk
  all_goals simp_all [tx_list, bne]
  all_goals try omega
  all_goals (intro h1 h2; exact absurd (gi h1) (by omega))

set_option maxRecDepth 20000 in
set_option maxHeartbeats 2000000 in
theorem objectValid_any (K : Nat → Bool → Prop) (v : Value) (o : Ob) (w : World) (hv : IntsR K w v o.links) (hb : o.links.length ≤ 1000000000) :
    Calls Try.prog 42 #[.agg #[.int .i64 o.kind, v, .string (tx o.text)]] w fun e w' => e = .returned (.bool (obOk o)) ∧ Fr w.heap.size [] w w' := by
  obtain ⟨a, cap, rfl, hcap, -⟩ := hv.shape
  have HV := hid hv
  have hsz := tx_size o.text
  clear hv
  have F0 := hid ((Fr.refl w.heap.size [] w).alloc (.cells #[.int .i64 o.kind, .slice a o.links.length cap, .string (tx o.text)] 40))
  have B0 := hid (heap_alloc_new w (.cells #[.int .i64 o.kind, .slice a o.links.length cap, .string (tx o.text)] 40))
  cases gi : asc o.links
  all_goals have GI := hid gi
  all_goals clear gi
  all_goals
   go_enter Try.func42, Try.ntmps42
   go_wp2_with (go_at_call 77; go_must (refine (l1Ids_any K _ _ _ (HV.out.grow F0.out) hb).mono ?_; rintro e w1 ⟨rfl, fr1⟩; rw [GI.out]; have B1 := hid (fr1.keep _ _ B0.out (.inr (by simp))); have F1 := hid (F0.out.trans fr1.nil); have c0 := cell_of (o := 0) B1.out rfl; have c1 := cell_of (o := 1) B1.out rfl; have c2 := cell_of (o := 2) B1.out rfl; clear fr1))
  all_goals go_ret
  all_goals refine ⟨ret_bool ?_, F1.out⟩
  all_goals clear F0 B0 B1 F1 c0 c1 c2 HV hcap
  all_goals rw [Bool.eq_iff_iff]
  all_goals have gi := GI.out
  all_goals clear GI
  all_goals unfold obOk kindOk
  all_goals simp_all [tx_list, bne]
  all_goals try omega

end Go.Proofs.Ytjgbconlpolddaa
