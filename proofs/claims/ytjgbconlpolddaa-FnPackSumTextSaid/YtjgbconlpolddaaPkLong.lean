/- The longest part of a base with which a text begins: plain laws; the program's walk, the reference's walk. -/
import Derived.Test.YtjgbconlpolddaaPkSmall
import Derived.Test.YtjgbconlpolddaaShelf
import Derived.Lib.IndexMore
namespace Go.Proofs.Ytjgbconlpolddaa
open Go.RowKit
set_option linter.unusedVariables false

theorem pre_le_left : ∀ (a t : Tx), pre a t ≤ a.length
  | [], _ => by simp [pre]
  | _ :: _, [] => by simp [pre]
  | x :: a, y :: t => by
    unfold pre
    split
    · have := pre_le_left a t; simp; omega
    · simp

theorem pre_le_right : ∀ (a t : Tx), pre a t ≤ t.length
  | [], _ => by simp [pre]
  | _ :: _, [] => by simp [pre]
  | x :: a, y :: t => by
    unfold pre
    split
    · have := pre_le_right a t; simp; omega
    · simp

/-- n bytes of t begin a just where n is at most how many do. -/
theorem pre_iff : ∀ (n : Nat) (a t : Tx), n ≤ t.length → ((t.take n).isPrefixOf a = true ↔ n ≤ pre a t)
  | 0, a, t, _ => by simp
  | n + 1, a, [], h => by simp at h
  | n + 1, [], y :: t, h => by simp [pre]
  | n + 1, x :: a, y :: t, h => by
    have ih := pre_iff n a t (by simpa using h)
    rw [List.take_succ_cons]
    unfold pre
    by_cases e : x = y
    · subst e
      simp only [List.isPrefixOf_cons_cons, beq_self_eq_true, Bool.true_and, if_true]
      rw [ih]
      omega
    · have e' : (y == x) = false := by simp [Ne.symm e]
      simp [List.isPrefixOf_cons_cons, e, e']

/-- What the longest part is: none, or its place is the first of the greatest size. -/
theorem bestTo_spec (b t : Tx) : ∀ k, (∀ i, i < k → pre (b.drop i) t ≤ (bestTo b t k).2) ∧
    ((bestTo b t k = (0, 0)) ∨ (0 < (bestTo b t k).2 ∧ (bestTo b t k).1 < k ∧ pre (b.drop (bestTo b t k).1) t = (bestTo b t k).2 ∧ ∀ j, j < (bestTo b t k).1 → pre (b.drop j) t < (bestTo b t k).2)) := by
  intro k
  induction k with
  | zero => exact ⟨fun i hi => absurd hi (Nat.not_lt_zero _), .inl rfl⟩
  | succ k ih =>
    obtain ⟨h1, h2⟩ := ih
    unfold bestTo
    split
    · rename_i hlt
      refine ⟨fun i hi => ?_, .inr ⟨by dsimp only; omega, by dsimp only; omega, rfl, fun j hj => ?_⟩⟩
      · by_cases e : i = k
        · subst e; exact Nat.le_refl _
        · exact Nat.le_trans (h1 i (by omega)) (by dsimp only; omega)
      · have := h1 j hj
        dsimp only; omega
    · rename_i hge
      refine ⟨fun i hi => ?_, ?_⟩
      · by_cases e : i = k
        · subst e; omega
        · exact h1 i (by omega)
      · rcases h2 with h2 | ⟨g1, g2, g3, g4⟩
        · exact .inl h2
        · exact .inr ⟨g1, by omega, g3, g4⟩

theorem best_none {b t : Tx} (h : ∀ i, i < b.length → pre (b.drop i) t ≤ 0) : best b t = (0, 0) := by
  rcases (bestTo_spec b t b.length).2 with h2 | ⟨g1, g2, g3, g4⟩
  · exact h2
  · have := h _ g2
    omega

theorem best_at {b t : Tx} {i s : Nat} (hi : i < b.length) (hs : 0 < s) (hle : ∀ j, j < b.length → pre (b.drop j) t ≤ s) (heq : s ≤ pre (b.drop i) t) (hlt : ∀ j, j < i → pre (b.drop j) t < s) : best b t = (i, s) := by
  obtain ⟨h1, h2⟩ := bestTo_spec b t b.length
  have e1 : pre (b.drop i) t ≤ (best b t).2 := h1 i hi
  rcases h2 with h2 | ⟨g1, g2, g3, g4⟩
  · have : (best b t).2 = 0 := by unfold best; rw [h2]
    omega
  · have e2 : (best b t).2 ≤ s := by
      show (bestTo b t b.length).2 ≤ s
      rw [← g3]; exact hle _ g2
    have e3 : (best b t).2 = s := by omega
    have e4 : (best b t).1 = i := by
      rcases Nat.lt_trichotomy (best b t).1 i with h | h | h
      · have h5 := hlt _ h
        have h6 : pre (b.drop (best b t).1) t = (best b t).2 := g3
        omega
      · exact h
      · have := g4 i h
        have h7 : pre (b.drop i) t < (best b t).2 := this
        omega
    exact Prod.ext e4 e3

end Go.Proofs.Ytjgbconlpolddaa
