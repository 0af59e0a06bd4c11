/- The reference's DeltaApply. -/
import Derived.Test.YtjgbconlpolddaaQM4
set_option linter.unusedVariables false
set_option linter.unusedSimpArgs false
namespace Go.Proofs.Ytjgbconlpolddaa
open Go.RowKit
set_option linter.unusedVariables false

theorem dappTo_some {b : Tx} {ops : List Opn} : ∀ {k : Nat} {t : Tx}, k ≤ ops.length → dappTo b ops k = some t → t = (ops.take k).flatMap (opPart b) ∧ (∀ o ∈ ops.take k, opOk b o = true) ∧ t.length ≤ 8 := by
  intro k
  induction k with
  | zero =>
    intro t _ h
    simp [dappTo] at h
    subst h
    exact ⟨by simp, fun o ho => by simp at ho, by simp⟩
  | succ k ih =>
    intro t hk h
    cases hp : dappTo b ops k with
    | none => rw [dappTo_none hp (k + 1) (by omega)] at h; cases h
    | some s =>
      obtain ⟨i1, i2, i3⟩ := ih (by omega) hp
      have hk' : k < ops.length := by omega
      rw [dappTo_succ hk' hp] at h
      split at h
      · rename_i hc
        simp at h
        subst h
        have e1 : ops.take (k + 1) = ops.take k ++ [ops[k]] := by rw [List.take_add_one, List.getElem?_eq_getElem hk']; rfl
        refine ⟨by rw [e1, List.flatMap_append, List.flatMap_singleton, ← i1], fun o ho => ?_, by rw [List.length_append]; exact hc.2⟩
        rw [e1] at ho
        rcases List.mem_append.1 ho with ho | ho
        · exact i2 o ho
        · simp at ho; subst ho; exact hc.1
      · cases h

theorem dapp_bad {b : Tx} {ops : List Opn} {k : Nat} (hk : k < ops.length) (h : opOk b ops[k] = false) : dapp b ops = none := by
  unfold dapp
  split
  · cases hp : dappTo b ops ops.length with
    | none => rfl
    | some t =>
      have := (dappTo_some (Nat.le_refl _) hp).2.1 ops[k] (by rw [List.take_length]; exact List.getElem_mem hk)
      rw [h] at this; cases this
  · rfl

theorem dapp_long {b : Tx} {ops : List Opn} (h : 8 < (ops.flatMap (opPart b)).length) : dapp b ops = none := by
  unfold dapp
  split
  · cases hp : dappTo b ops ops.length with
    | none => rfl
    | some t =>
      obtain ⟨h1, _, h3⟩ := dappTo_some (Nat.le_refl _) hp
      rw [List.take_length] at h1
      rw [h1] at h3
      omega
  · rfl

theorem dapp_all {b : Tx} {ops : List Opn} (hb : b.length ≤ 8) (hl : ops.length ≤ 8) (hok : ∀ j (hj : j < ops.length), opOk b ops[j] = true) (h : (ops.flatMap (opPart b)).length ≤ 8) : dapp b ops = some (ops.flatMap (opPart b)) := by
  unfold dapp
  rw [if_pos ⟨hb, hl⟩, dappTo_all (fun o ho => by obtain ⟨j, hj, rfl⟩ := List.mem_iff_getElem.1 ho; exact hok j hj) h _ (Nat.le_refl _), List.take_length]

theorem opPart_cat {b : Tx} {o : Opn} (h : opOk b o = true) : opPart b o = o.text ++ (b.drop o.pos.toNat).take o.size.toNat ∧ 0 ≤ o.pos ∧ 0 ≤ o.size ∧ o.pos + o.size ≤ b.length := by
  unfold opOk at h
  unfold opPart
  split at h
  · rename_i h0
    rw [if_pos h0, h0]
    simp at h
    obtain ⟨h1, _⟩ := h
    rw [h1]
    exact ⟨by simp, by omega, by omega, by omega⟩
  · rename_i h0
    rw [if_neg h0]
    simp [inR] at h
    obtain ⟨⟨h1, h2⟩, h3⟩ := h
    rw [h1]
    exact ⟨by simp, by omega, by omega, by omega⟩

set_option maxRecDepth 20000 in
set_option maxHeartbeats 4000000 in
theorem l2Op_any (o : Opn) (b : Tx) (w : World) (hb : b.length ≤ 8) :
    Calls Try.prog 119 #[.string (tx b), .agg #[.int .i64 o.pos, .int .i64 o.size, .string (tx o.text)]] w fun e w' => e = .returned (.bool (opOk b o)) ∧ Fr w.heap.size [] w w' := by
  have hsz := tx_size o.text
  have hsb := tx_size b
  by_cases h0 : o.size = 0
  · have hz : (o.size == 0) = true := by simp [h0]
    have R := hid (show opOk b o = (decide (o.pos = 0) && inR o.text.length 1 8) by unfold opOk; rw [if_pos h0])
    cases hp : (o.pos == 0)
    all_goals have HP := hid hp
    all_goals
      go_enter Try.func119, Try.ntmps119
      go_wp2_with (go_at_call 107; go_must (refine (l6In_any _ _ _ _).mono ?_; rintro e w1 ⟨rfl, rfl⟩))
      go_ret
      refine ⟨ret_bool ?_, (Fr.refl w.heap.size [] w).alloc _⟩
      rw [R.out]
      have := HP.out
      simp_all
  · have hz : (o.size == 0) = false := by simp [h0]
    by_cases ht : o.text = []
    · have hte : (tx o.text).toList = [] := by rw [tx_list]; exact ht
      by_cases h3 : 0 ≤ o.pos
      · by_cases h4 : o.pos ≤ (b.length : Int) - 1
        · have R := hid (show opOk b o = inR o.size 1 ((b.length : Int) - o.pos) by
            rw [Bool.eq_iff_iff]; unfold opOk; rw [if_neg h0]; simp [ht, inR]; omega)
          have g4 : inR o.pos 0 ((b.length : Int) - 1) = true := inR_iff.2 ⟨h3, h4⟩
          clear ht
          go_enter Try.func119, Try.ntmps119
          go_wp2_with (go_at_call 107; go_must (refine (l6In_any _ _ _ _).mono ?_; rintro e w1 ⟨rfl, rfl⟩; try rw [g4]))
          go_ret
          exact ⟨ret_bool (by rw [R.out]), (Fr.refl _ _ _).alloc _⟩
        · have R := hid (show opOk b o = false by unfold opOk; rw [if_neg h0]; simp [ht, inR]; omega)
          have g4 : inR o.pos 0 ((b.length : Int) - 1) = false := by simp [inR]; omega
          clear ht
          go_enter Try.func119, Try.ntmps119
          go_wp2_with (go_at_call 107; go_must (refine (l6In_any _ _ _ _).mono ?_; rintro e w1 ⟨rfl, rfl⟩; rw [g4]))
          go_ret
          exact ⟨ret_bool (by rw [R.out]), (Fr.refl _ _ _).alloc _⟩
      · have R := hid (show opOk b o = false by unfold opOk; rw [if_neg h0]; simp [ht, inR]; omega)
        have g4 : inR o.pos 0 ((b.length : Int) - 1) = false := by simp [inR]; omega
        clear ht
        go_enter Try.func119, Try.ntmps119
        go_wp2_with (go_at_call 107; go_must (refine (l6In_any _ _ _ _).mono ?_; rintro e w1 ⟨rfl, rfl⟩; rw [g4]))
        go_ret
        exact ⟨ret_bool (by rw [R.out]), (Fr.refl _ _ _).alloc _⟩
    · have hte : ¬ (tx o.text).toList = [] := by rw [tx_list]; exact ht
      have R := hid (show opOk b o = false by unfold opOk; rw [if_neg h0]; simp [ht])
      clear ht
      go_enter Try.func119, Try.ntmps119
      go_wp2
      go_ret
      exact ⟨ret_bool (by rw [R.out]), (Fr.refl _ _ _).alloc _⟩

end Go.Proofs.Ytjgbconlpolddaa
