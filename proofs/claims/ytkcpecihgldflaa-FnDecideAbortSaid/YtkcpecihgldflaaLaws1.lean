/- Plain laws of the shard's state. -/
import Derived.Test.YtkcpecihgldflaaRefs
import Derived.Test.YtkcpecihgldflaaValid
namespace Go.Proofs.Ytkcpecihgldflaa
open Go.RowKit

theorem setTo_len4 {refs : List Int} {us : List Upd} (h : refs.length = 4) : (setAll refs us).length = 4 := by simp [setAll, setTo_length, h]

theorem takeAll_len4 {l : List Int} {t : Int} {us : List Upd} (h : l.length = 4) : (takeAll l t us).length = 4 := by simp [takeAll, takeTo_length, h]

theorem step_len {rs : List Rc} {s s' : St} {r : Rc} (h : step rs s r = some s') (h1 : s.refs.length = 4) (h2 : s.locks.length = 4) : s'.refs.length = 4 ∧ s'.locks.length = 4 := by
  unfold step at h
  split at h
  · split at h
    · cases h
    · cases h; exact ⟨h1, takeAll_len4 h2⟩
  · split at h
    · split at h
      · cases h
      · cases h; exact ⟨setTo_len4 h1, by simp [freed, h2]⟩
    · split at h
      · split at h
        · cases h
        · cases h; exact ⟨h1, by simp [freed, h2]⟩
      · cases h

theorem recTo_succ {rs : List Rc} {k : Nat} {s : St} (hs : recTo rs k = some s) (hk : k < rs.length) : recTo rs (k + 1) = if inR rs[k].txn 0 11 then step (rs.take k) s rs[k] else none := by
  simp [recTo, hs, List.getElem?_eq_getElem hk]

theorem recTo_none {rs : List Rc} {k : Nat} (hs : recTo rs k = none) : ∀ n, k ≤ n → recTo rs n = none := by
  intro n
  induction n with
  | zero => intro h; obtain rfl : k = 0 := by omega
            exact hs
  | succ n ih =>
    intro h
    by_cases e : k = n + 1
    · subst e; exact hs
    · simp [recTo, ih (by omega)]

theorem recTo_len {rs : List Rc} {k : Nat} {s : St} (hs : recTo rs k = some s) : s.refs.length = 4 ∧ s.locks.length = 4 := by
  induction k generalizing s with
  | zero => cases hs; exact ⟨rfl, rfl⟩
  | succ k ih =>
    cases h : recTo rs k with
    | none => simp [recTo, h] at hs
    | some s0 =>
      by_cases hk : k < rs.length
      · rw [recTo_succ h hk] at hs
        split at hs
        · exact step_len hs (ih h).1 (ih h).2
        · cases hs
      · simp [recTo, h, List.getElem?_eq_none (Nat.le_of_not_lt hk)] at hs

theorem step_ups {rs : List Rc} {s s' : St} {r : Rc} (h : step rs s r = some s') (hk : r.kind = 1) : updsOk r.ups = true := by
  cases hu : updsOk r.ups with
  | true => rfl
  | false => simp [step, hk, hu] at h

theorem recTo_ok {rs : List Rc} {k : Nat} {s : St} (hs : recTo rs k = some s) : ∀ j (_ : j < k) (hj : j < rs.length), rs[j].kind = 1 → updsOk rs[j].ups = true := by
  induction k generalizing s with
  | zero => intro j hj; omega
  | succ k ih =>
    intro j hjk hj hkind
    cases h : recTo rs k with
    | none => simp [recTo, h] at hs
    | some s0 =>
      by_cases e : j = k
      · subst e
        rw [recTo_succ h hj] at hs
        split at hs
        · exact step_ups hs hkind
        · cases hs
      · exact ih h j (by omega) hj hkind

theorem upsOf_mem (l : List Rc) (t : Int) : upsOf l t = [] ∨ ∃ r ∈ l, r.kind = 1 ∧ r.txn = t ∧ upsOf l t = r.ups := by
  induction l with
  | nil => exact .inl rfl
  | cons r l ih =>
    simp only [upsOf]
    split
    · rename_i h; exact .inr ⟨r, List.mem_cons_self, h.2, h.1, rfl⟩
    · rcases ih with ih | ⟨r', h1, h2, h3, h4⟩
      · exact .inl ih
      · exact .inr ⟨r', List.mem_cons_of_mem _ h1, h2, h3, h4⟩

theorem upsOf_in {rs : List Rc} {k : Nat} {s : St} (hs : recTo rs k = some s) (t : Int) : ∀ i (hi : i < (upsOf (rs.take k) t).length), 0 ≤ (upsOf (rs.take k) t)[i].ref ∧ (upsOf (rs.take k) t)[i].ref ≤ 3 := by
  intro i hi
  rcases upsOf_mem (rs.take k) t with h | ⟨r, h1, h2, _, h4⟩
  · rw [h] at hi; simp at hi
  · obtain ⟨j, hj, rfl⟩ := List.mem_iff_getElem.1 h1
    simp only [List.length_take] at hj
    simp only [List.getElem_take] at h2 h4
    have := recTo_ok hs j (by omega) (by omega) h2
    simp only [h4]
    exact updsOk_ref this i (by simpa [h4] using hi)

theorem upsOf_len {rs : List Rc} (t : Int) {n k : Nat} (h : ∀ r ∈ rs, r.ups.length ≤ n) : (upsOf (rs.take k) t).length ≤ n := by
  rcases upsOf_mem (rs.take k) t with e | ⟨r, h1, _, _, h4⟩
  · rw [e]; simp
  · rw [h4]; exact h r (List.mem_of_mem_take h1)

end Go.Proofs.Ytkcpecihgldflaa
