/- Deltas: plain laws of the steps. -/
import Derived.Test.YtjgbconlpolddaaQPkLong2
import Derived.Test.YtjgbconlpolddaaQPkList
set_option linter.unusedVariables false
set_option linter.unusedSimpArgs false
namespace Go.Proofs.Ytjgbconlpolddaa
open Go.RowKit
set_option linter.unusedVariables false

theorem best_le (b t : Tx) : (best b t).2 ≤ t.length := bestTo_le b t _

theorem best_lt (b t : Tx) (h : 0 < (best b t).2) : (best b t).1 < b.length := by
  rcases (bestTo_spec b t b.length).2 with h1 | ⟨_, h1, _⟩
  · unfold best at h; rw [h1] at h; cases h
  · exact h1

theorem dstep_one {b t : Tx} {ops : List Opn} (h : 2 ≤ (best b t).2) : dstep b t ops = (ops ++ [⟨(best b t).1, (best b t).2, []⟩], t.drop (best b t).2) := by
  unfold dstep; rw [if_pos h]

theorem dstep_two {b t : Tx} {init : List Opn} {o : Opn} (h : ¬ 2 ≤ (best b t).2) (h0 : o.size = 0) : dstep b t (init ++ [o]) = (init ++ [⟨o.pos, 0, o.text ++ t.take 1⟩], t.drop 1) := by
  unfold dstep; rw [if_neg h]; simp [h0]

theorem dstep_three {b t : Tx} {ops : List Opn} (h : ¬ 2 ≤ (best b t).2) (h0 : ∀ init o, ops = init ++ [o] → o.size ≠ 0) : dstep b t ops = (ops ++ [⟨0, 0, t.take 1⟩], t.drop 1) := by
  unfold dstep; rw [if_neg h]
  rcases List.eq_nil_or_concat ops with rfl | ⟨init, o, rfl⟩
  · rfl
  · have := h0 init o (by simp)
    simp [this]

theorem dstep_len {b t : Tx} {ops : List Opn} (ht : t ≠ []) : (dstep b t ops).2.length < t.length ∧ (dstep b t ops).1.length + (dstep b t ops).2.length ≤ ops.length + t.length := by
  have hl : 0 < t.length := List.length_pos_iff.2 ht
  by_cases h : 2 ≤ (best b t).2
  · rw [dstep_one h]
    have := best_le b t
    simp
    omega
  · rcases List.eq_nil_or_concat ops with rfl | ⟨init, o, rfl⟩
    · rw [dstep_three h (fun init o e => by simp at e)]
      simp; omega
    · rw [List.concat_eq_append]
      by_cases h0 : o.size = 0
      · rw [dstep_two h h0]; simp; omega
      · rw [dstep_three h (fun i x e => by
          have := List.append_inj' e rfl
          simp at this
          rw [← this.2]; exact h0)]
        simp; omega

theorem dmake_ge (b : Tx) : ∀ (n : Nat) (t : Tx) (ops : List Opn), t.length ≤ n → dmake b n t ops = dmake b t.length t ops := by
  intro n
  induction n using Nat.strongRecOn with
  | ind n ih =>
    intro t ops h
    cases n with
    | zero =>
      have : t = [] := List.length_eq_zero_iff.1 (by omega)
      subst this; rfl
    | succ n =>
      by_cases ht : t = []
      · subst ht; simp [dmake]
      · obtain ⟨m, hm⟩ : ∃ m, t.length = m + 1 := ⟨t.length - 1, by have := List.length_pos_iff.2 ht; omega⟩
        have hl := (dstep_len (b := b) (ops := ops) ht).1
        rw [hm]
        simp only [dmake, if_neg ht]
        rw [ih n (by omega) _ _ (by omega)]
        by_cases e : m = n
        · subst e; rw [ih m (by omega) _ _ (by omega)]
        · rw [ih m (by omega) _ _ (by omega)]

theorem dmake_step {b t : Tx} {ops : List Opn} (ht : t ≠ []) : dmake b t.length t ops = dmake b (dstep b t ops).2.length (dstep b t ops).2 (dstep b t ops).1 := by
  obtain ⟨m, hm⟩ : ∃ m, t.length = m + 1 := ⟨t.length - 1, by have := List.length_pos_iff.2 ht; omega⟩
  have hl := (dstep_len (b := b) (ops := ops) ht).1
  rw [hm]
  simp only [dmake, if_neg ht]
  exact dmake_ge b m _ _ (by omega)

/-- What holds between the rounds: the operations so far, the text that is left. -/
def DRel (b t : Tx) (ops : List Opn) (l : Tx) : Prop :=
  dmake b l.length l ops = delta b t ∧ ops.length + l.length ≤ t.length ∧ ∀ o ∈ ops, o.text.length + l.length ≤ t.length

theorem DRel.start {b t : Tx} (hb : b.length ≤ 8) (ht : t.length ≤ 8) : DRel b t [] t :=
  ⟨by unfold delta; rw [if_pos ⟨hb, ht⟩], by simp, fun o ho => by cases ho⟩

theorem DRel.done {b t : Tx} {ops : List Opn} (h : DRel b t ops []) : ops = delta b t := by
  rw [← h.1]; rfl

theorem DRel.one {b t l : Tx} {ops : List Opn} (h : DRel b t ops l) (hl : l ≠ []) (h2 : 2 ≤ (best b l).2) : DRel b t (ops ++ [⟨(best b l).1, (best b l).2, []⟩]) (l.drop (best b l).2) := by
  have := dmake_step (b := b) (ops := ops) hl
  have hd := dstep_one (b := b) (t := l) (ops := ops) h2
  have hle := best_le b l
  rw [hd] at this
  refine ⟨by rw [← this]; exact h.1, by have := h.2.1; simp; omega, fun o ho => ?_⟩
  rcases List.mem_append.1 ho with ho | ho
  · have := h.2.2 o ho; rw [List.length_drop]; omega
  · simp at ho; subst ho; have := h.2.1; simp; omega

theorem DRel.two {b t l : Tx} {init : List Opn} {o : Opn} (h : DRel b t (init ++ [o]) l) (hl : l ≠ []) (h2 : ¬ 2 ≤ (best b l).2) (h0 : o.size = 0) : DRel b t (init ++ [⟨o.pos, 0, o.text ++ l.take 1⟩]) (l.drop 1) := by
  have := dmake_step (b := b) (ops := init ++ [o]) hl
  have hd := dstep_two (b := b) (t := l) (init := init) h2 h0
  have hp : 0 < l.length := List.length_pos_iff.2 hl
  rw [hd] at this
  refine ⟨by rw [← this]; exact h.1, by have := h.2.1; simp at this ⊢; omega, fun x hx => ?_⟩
  rcases List.mem_append.1 hx with hx | hx
  · have := h.2.2 x (List.mem_append_left _ hx); rw [List.length_drop]; omega
  · simp at hx; subst hx
    have := h.2.2 o (by simp)
    simp; omega

theorem DRel.three {b t l : Tx} {ops : List Opn} (h : DRel b t ops l) (hl : l ≠ []) (h2 : ¬ 2 ≤ (best b l).2) (h0 : ∀ init o, ops = init ++ [o] → o.size ≠ 0) : DRel b t (ops ++ [⟨0, 0, l.take 1⟩]) (l.drop 1) := by
  have := dmake_step (b := b) (ops := ops) hl
  have hd := dstep_three (b := b) (t := l) (ops := ops) h2 h0
  have hp : 0 < l.length := List.length_pos_iff.2 hl
  rw [hd] at this
  refine ⟨by rw [← this]; exact h.1, by have := h.2.1; simp; omega, fun x hx => ?_⟩
  rcases List.mem_append.1 hx with hx | hx
  · have := h.2.2 x hx; rw [List.length_drop]; omega
  · simp at hx; subst hx
    have := h.2.1; simp; omega

end Go.Proofs.Ytjgbconlpolddaa
