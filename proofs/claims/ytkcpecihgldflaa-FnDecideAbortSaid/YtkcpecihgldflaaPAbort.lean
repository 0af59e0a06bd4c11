/- What a decision to abort leaves, in plain Lean: no ref is changed, no lock of the transaction is left, its state is 'aborted'. -/
import Derived.Test.YtkcpecihgldflaaIDec
namespace Go.Proofs.Ytkcpecihgldflaa
open Go.RowKit

theorem takeTo_get {l : List Int} {t : Int} {us : List Upd} (n i : Nat) {x : Int} (h : (takeTo l t us n)[i]? = some x) : x = t ∨ l[i]? = some x := by
  induction n generalizing x with
  | zero => exact .inr h
  | succ n ih =>
    simp only [takeTo] at h
    cases hu : us[n]? with
    | none => rw [hu] at h; exact ih h
    | some u =>
      rw [hu] at h
      simp only [List.getElem?_set] at h
      split at h
      · split at h
        · cases h; exact .inl rfl
        · cases h
      · exact ih h

theorem freed_get {l : List Int} {t : Int} {i : Nat} {x : Int} (h : (freed l t)[i]? = some x) : x = -1 ∨ (l[i]? = some x ∧ x ≠ t) := by
  unfold freed at h
  rw [List.getElem?_map] at h
  cases hl : l[i]? with
  | none => rw [hl] at h; cases h
  | some y =>
    rw [hl] at h
    simp only [Option.map_some, Option.some.injEq] at h
    split at h
    · exact .inl h.symm
    · subst h; exact .inr ⟨rfl, by assumption⟩

/-- Who holds a lock has voted and is not decided. -/
theorem locks_ask {rs : List Rc} {k : Nat} {s : St} (hs : recTo rs k = some s) (hk : k ≤ rs.length) :
    ∀ (i : Nat) (x : Int), s.locks[i]? = some x → x = -1 ∨ (askTo rs x k = 1 ∧ inR x 0 11 = true) := by
  induction k generalizing s with
  | zero =>
    intro i x hx
    cases hs
    left
    have : x ∈ St.begin.locks := List.mem_of_getElem? hx
    simpa [St.begin] using this
  | succ k ih =>
    have hlt : k < rs.length := by omega
    cases hp : recTo rs k with
    | none => rw [recTo_none hp (k + 1) (by omega)] at hs; cases hs
    | some s0 =>
      have i0 := ih hp (by omega)
      rw [recTo_succ hp hlt] at hs
      split at hs
      · rename_i hin
        intro i x hx
        rw [askTo_succ hlt]
        have hfree : ∀ s1 : St, s1.locks = freed s0.locks rs[k].txn → s1.locks[i]? = some x → x = -1 ∨ ((if rs[k].txn = x then rs[k].kind else askTo rs x k) = 1 ∧ inR x 0 11 = true) := by
          intro s1 e hx
          rw [e] at hx
          rcases freed_get hx with h | ⟨h, hne⟩
          · exact .inl h
          · rw [if_neg (fun e => hne e.symm)]
            exact i0 i x h
        unfold step at hs
        split at hs
        · rename_i k1
          split at hs
          · cases hs
          · cases hs
            rcases takeTo_get _ _ hx with rfl | h
            · right; rw [if_pos rfl]; exact ⟨k1, hin⟩
            · rcases i0 i x h with h | ⟨h1, h2⟩
              · exact .inl h
              · right
                refine ⟨?_, h2⟩
                split
                · exact k1
                · exact h1
        · split at hs
          · split at hs
            · cases hs
            · cases hs
              exact hfree _ rfl hx
          · split at hs
            · split at hs
              · cases hs
              · cases hs
                exact hfree _ rfl hx
            · cases hs
      · cases hs

theorem abort_plain {rs rs' : List Rc} {t : Int} (h : dec rs t false = (rs', true)) :
    ∃ s s', recover rs = some s ∧ recover rs' = some s' ∧ s'.refs = s.refs ∧ (∀ (i : Nat) (x : Int), s'.locks[i]? = some x → (x = -1 ∨ inR x 0 11 = true) ∧ x ≠ t) ∧ ask rs' t = 3 ∧ valid rs' = true ∧ valid rs = true ∧ inR t 0 11 = true := by
  rw [dec_eq] at h
  cases g : valid rs && inR t 0 11
  · rw [g] at h; cases h
  · rw [g] at h
    have hg : valid rs = true ∧ inR t 0 11 = true := by simpa using g
    obtain ⟨s, hs⟩ := valid_rec hg.1
    have ht : t ≠ -1 := by have := inR_iff.1 hg.2; omega
    simp only [Bool.not_true, Bool.false_eq_true, if_false] at h
    split at h
    · rename_i ha
      cases h
      have ha3 : ask rs t = 3 := by simpa [decRc] using ha
      refine ⟨s, s, hs, hs, rfl, fun i x hx => ?_, ha3, hg.1, hg.1, hg.2⟩
      rcases locks_ask (k := rs.length) hs (Nat.le_refl _) i x hx with h | ⟨h1, h2⟩
      · exact ⟨.inl h, fun e => ht (e ▸ h)⟩
      · refine ⟨.inr h2, fun e => ?_⟩
        subst e
        rw [show askTo rs x rs.length = 3 from ha3] at h1
        cases h1
    · split at h
      · rename_i hv
        cases h
        have h1 : recTo (rs ++ [decRc t false]) rs.length = some s := by rw [recTo_append rs _ _ (Nat.le_refl _)]; exact hs
        have h2 : rs.length < (rs ++ [decRc t false]).length := by simp
        obtain ⟨s', hs'⟩ := valid_rec hv
        have h3 := recTo_succ h1 h2
        have hget : (rs ++ [decRc t false])[rs.length] = decRc t false := List.getElem_concat_length rfl ..
        have hlen : (rs ++ [decRc t false]).length = rs.length + 1 := by simp
        have hs2 : recTo (rs ++ [decRc t false]) (rs.length + 1) = some s' := by rw [← hlen]; exact hs'
        rw [h3, hget] at hs2
        have hask : ask (rs ++ [decRc t false]) t = 3 := by
          unfold ask
          rw [hlen, askTo_succ h2, hget, if_pos (show (decRc t false).txn = t from rfl)]
          rfl
        split at hs2
        · unfold step at hs2
          rw [if_neg (show ¬ (decRc t false).kind = 1 by show ¬ (3 : Int) = 1; decide), if_neg (show ¬ (decRc t false).kind = 2 by show ¬ (3 : Int) = 2; decide), if_pos (show (decRc t false).kind = 3 from rfl)] at hs2
          split at hs2
          · cases hs2
          · cases hs2
            refine ⟨s, _, hs, hs', rfl, fun i x hx => ?_, hask, hv, hg.1, hg.2⟩
            rcases freed_get hx with h | ⟨h, hne⟩
            · exact ⟨.inl h, fun e => ht (e ▸ h)⟩
            · refine ⟨?_, hne⟩
              rcases locks_ask (k := rs.length) hs (Nat.le_refl _) i x h with h | ⟨_, h⟩
              · exact .inl h
              · exact .inr h
        · cases hs2
      · cases h

end Go.Proofs.Ytkcpecihgldflaa
