/- Sums of packs: plain laws. -/
import Derived.Test.YtjgbconlpolddaaQM5
set_option linter.unusedVariables false
set_option linter.unusedSimpArgs false
namespace Go.Proofs.Ytjgbconlpolddaa
open Go.RowKit
set_option linter.unusedVariables false

/-- The sum behind the first k objects. -/
def sumTo (os : List Ob) : Nat → Int
  | 0 => os.length
  | k + 1 => match os[k]? with | some o => (sumTo os k * 613 + oid o + 1) % 991 | none => sumTo os k

theorem sumTo_succ {os : List Ob} {k : Nat} (h : k < os.length) : sumTo os (k + 1) = (sumTo os k * 613 + oid os[k] + 1) % 991 := by simp [sumTo, List.getElem?_eq_getElem h]

theorem oid_in {o : Ob} (h : obOk o = true) : 0 ≤ oid o ∧ oid o ≤ 990 := idT_in h _

theorem sumTo_in {os : List Ob} (hl : os.length ≤ 16) : ∀ k, 0 ≤ sumTo os k ∧ sumTo os k ≤ 990 := by
  intro k
  induction k with
  | zero => show 0 ≤ (os.length : Int) ∧ (os.length : Int) ≤ 990; omega
  | succ k ih =>
    by_cases hk : k < os.length
    · rw [sumTo_succ hk]; omega
    · have : sumTo os (k + 1) = sumTo os k := by simp [sumTo, List.getElem?_eq_none (Nat.le_of_not_lt hk)]
      rw [this]; exact ih

theorem step613 {s s' c : Int} (h1 : 0 ≤ s ∧ s ≤ 990) (h2 : 0 ≤ s' ∧ s' ≤ 990) (h : s ≠ s') : (s * 613 + c + 1) % 991 ≠ (s' * 613 + c + 1) % 991 := by omega
theorem step257 {s s' c : Int} (h1 : 0 ≤ s ∧ s ≤ 990) (h2 : 0 ≤ s' ∧ s' ≤ 990) (h : s ≠ s') : (s * 257 + c + 1) % 991 ≠ (s' * 257 + c + 1) % 991 := by omega

/-- Another object at k: another sum. -/
theorem sumTo_set {os : List Ob} {k : Nat} {o' : Ob} (hk : k < os.length) (hl : os.length ≤ 16) (h1 : obOk os[k] = true) (h2 : obOk o' = true) (hne : oid o' ≠ oid os[k]) : sumTo (os.set k o') os.length ≠ sumTo os os.length := by
  have hl' : (os.set k o').length ≤ 16 := by simpa using hl
  have e1 : ∀ j, j ≤ k → sumTo (os.set k o') j = sumTo os j := by
    intro j
    induction j with
    | zero => intro _; show ((os.set k o').length : Int) = os.length; simp
    | succ j ih =>
      intro hj
      rw [sumTo_succ (by simp; omega), sumTo_succ (by omega), ih (by omega), List.getElem_set_ne (by omega)]
  have e2 : ∀ d, k + 1 + d ≤ os.length → sumTo (os.set k o') (k + 1 + d) ≠ sumTo os (k + 1 + d) := by
    intro d
    induction d with
    | zero =>
      intro _
      rw [Nat.add_zero, sumTo_succ (by simpa using hk), sumTo_succ hk, e1 k (Nat.le_refl _), List.getElem_set_self]
      have a1 := oid_in h1
      have a2 := oid_in h2
      omega
    | succ d ih =>
      intro hd
      rw [← Nat.add_assoc, sumTo_succ (by simp; omega), sumTo_succ (by omega), List.getElem_set_ne (by omega)]
      exact step613 (sumTo_in hl' _) (sumTo_in hl _) (ih (by omega))
  have := e2 (os.length - (k + 1)) (by omega)
  rwa [show k + 1 + (os.length - (k + 1)) = os.length by omega] at this

/-- The text with another first byte. -/
theorem oid_first {o : Ob} {b b' : UInt8} {t : Tx} (ht : o.text = b :: t) (hb : b' ≠ b) (h1 : obOk o = true) (h2 : obOk ⟨o.kind, o.links, b' :: t⟩ = true) : oid ⟨o.kind, o.links, b' :: t⟩ ≠ oid o := by
  obtain ⟨kd, ls, tx⟩ := o
  dsimp only at ht
  subst ht
  have e0 : ∀ j, idL ⟨kd, ls, b' :: t⟩ j = idL ⟨kd, ls, b :: t⟩ j := by
    intro j
    induction j with
    | zero => rfl
    | succ j ih => simp [idL, ih]
  have hbn : b'.toNat ≠ b.toNat := fun e => hb (UInt8.toNat_inj.1 e)
  have l1 := b.toNat_lt
  have l2 := b'.toNat_lt
  have e1 : ∀ d, 1 + d ≤ t.length + 1 → idT ⟨kd, ls, b' :: t⟩ (1 + d) ≠ idT ⟨kd, ls, b :: t⟩ (1 + d) := by
    intro d
    induction d with
    | zero =>
      intro _
      rw [Nat.add_zero, idT_succ (by simp), idT_succ (by simp)]
      show ((idL ⟨kd, ls, b' :: t⟩ ls.length) * 257 + (b'.toNat : Int) + 1) % 991 ≠ ((idL ⟨kd, ls, b :: t⟩ ls.length) * 257 + (b.toNat : Int) + 1) % 991
      rw [e0]
      omega
    | succ d ih =>
      intro hd
      have hlt : 1 + d < t.length + 1 := by omega
      rw [← Nat.add_assoc, idT_succ (o := ⟨kd, ls, b' :: t⟩) (by simpa using hlt), idT_succ (o := ⟨kd, ls, b :: t⟩) (by simpa using hlt)]
      have e : (b' :: t)[1 + d]'(by simpa using hlt) = (b :: t)[1 + d]'(by simpa using hlt) := by
        simp only [Nat.add_comm 1 d, List.getElem_cons_succ]
      dsimp only
      rw [e]
      exact step257 (idT_in h2 _) (idT_in h1 _) (ih (by omega))
  have := e1 t.length (by omega)
  unfold oid
  simpa [Nat.add_comm] using this

theorem obOk_first {o : Ob} {b b' : UInt8} {t : Tx} (ht : o.text = b :: t) (h1 : obOk o = true) : obOk ⟨o.kind, o.links, b' :: t⟩ = true := by
  unfold obOk kindOk at h1 ⊢
  rw [ht] at h1
  simpa using h1

theorem packOk_set {os : List Ob} {k : Nat} {o' : Ob} (h : packOk os = true) (ho : obOk o' = true) : packOk (os.set k o') = true := by
  obtain ⟨h1, h2⟩ := packOk_all h
  unfold packOk
  simp
  refine ⟨h1, fun o hm => ?_⟩
  rcases List.mem_or_eq_of_mem_set hm with hm | hm
  · exact h2 o hm
  · rw [hm]; exact ho

theorem poTo_len {es : List En} : ∀ {k : Nat} {os : List Ob} {ds : List Nat}, k ≤ es.length → poTo es k = some (os, ds) → os.length = k ∧ ∀ o ∈ os, obOk o = true := by
  intro k
  induction k with
  | zero =>
    intro os ds _ h
    simp [poTo] at h
    obtain ⟨rfl, rfl⟩ := h
    exact ⟨rfl, fun o ho => by cases ho⟩
  | succ k ih =>
    intro os ds hk h
    cases hp : poTo es k with
    | none => rw [poTo_none hp (k + 1) (by omega)] at h; cases h
    | some r =>
      obtain ⟨os', ds'⟩ := r
      obtain ⟨i1, i2⟩ := ih (by omega) hp
      rw [poTo_succ (by omega) hp] at h
      split at h
      · split at h
        · rename_i hc
          simp at h
          obtain ⟨rfl, rfl⟩ := h
          refine ⟨by simp [i1], fun o ho => ?_⟩
          rcases List.mem_append.1 ho with ho | ho
          · exact i2 o ho
          · simp at ho; subst ho; exact hc.2
        · cases h
      · cases h

theorem unpack_ok {es : List En} {os : List Ob} (h : unpack es = some os) : es.length ≤ 16 ∧ os.length = es.length ∧ ∀ o ∈ os, obOk o = true := by
  unfold unpack at h
  split at h
  · rename_i hc
    cases hp : poTo es es.length with
    | none => rw [hp] at h; cases h
    | some r =>
      obtain ⟨os', ds'⟩ := r
      rw [hp] at h
      simp at h
      subst h
      obtain ⟨i1, i2⟩ := poTo_len (Nat.le_refl _) hp
      exact ⟨hc.1, i1, i2⟩
  · cases h

end Go.Proofs.Ytjgbconlpolddaa
