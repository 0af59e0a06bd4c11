/- Stores: the plain functions and laws. -/
import Derived.Test.YtjgbconlpolddaaGreatQM2
set_option linter.unusedVariables false
set_option linter.unusedSimpArgs false
namespace Go.Proofs.YtjgbconlpolddaaGreat
open Go.RowKit
set_option linter.unusedVariables false

/-- Object k is valid, and its id is greater than the one before. -/
def stAt (os : List Ob) (k : Nat) : Bool :=
  match os[k]? with
  | some o => obOk o && (match k with | 0 => true | j + 1 => match os[j]? with | some p => decide (oid p < oid o) | none => true)
  | none => true

def stTo (os : List Ob) : Nat → Bool
  | 0 => true
  | k + 1 => stTo os k && stAt os k

/-- A valid store. -/
def stOk (os : List Ob) : Bool := stTo os os.length && decide (os.length ≤ 16)

theorem stTo_false {os : List Ob} {k : Nat} (h : stAt os k = false) : ∀ n, k < n → stTo os n = false := by
  intro n
  induction n with
  | zero => omega
  | succ n ih =>
    intro hk
    by_cases e : k = n
    · subst e; simp [stTo, h]
    · simp [stTo, ih (by omega)]

theorem stTo_at {os : List Ob} {n : Nat} (h : stTo os n = true) : ∀ k, k < n → stAt os k = true := by
  intro k hk
  cases hu : stAt os k with
  | true => rfl
  | false => rw [stTo_false hu n hk] at h; exact h

theorem stTo_ok {os : List Ob} {n : Nat} (h : stTo os n = true) {k : Nat} (hk : k < n) (hl : k < os.length) : obOk os[k] = true := by
  have := stTo_at h k hk
  simp only [stAt, List.getElem?_eq_getElem hl, Bool.and_eq_true] at this
  exact this.1

theorem stTo_lt {os : List Ob} {n : Nat} (h : stTo os n = true) : ∀ {i j : Nat}, i < j → j < n → ∀ (hi : i < os.length) (hj : j < os.length), oid os[i] < oid os[j] := by
  intro i j
  induction j with
  | zero => omega
  | succ j ih =>
    intro hij hjn hi hj
    have := stTo_at h (j + 1) hjn
    simp only [stAt, List.getElem?_eq_getElem hj, List.getElem?_eq_getElem (show j < os.length by omega), Bool.and_eq_true, decide_eq_true_eq] at this
    by_cases e : i = j
    · subst e; exact this.2
    · exact Int.lt_trans (ih (by omega) (by omega) hi (by omega)) this.2

theorem stOk_iff {os : List Ob} : stOk os = true ↔ os.length ≤ 16 ∧ (∀ o ∈ os, obOk o = true) ∧ os.Pairwise (fun a b => oid a < oid b) := by
  unfold stOk
  rw [Bool.and_eq_true, decide_eq_true_eq]
  constructor
  · rintro ⟨h, hl⟩
    refine ⟨hl, fun o ho => ?_, ?_⟩
    · obtain ⟨k, hk, rfl⟩ := List.mem_iff_getElem.1 ho
      exact stTo_ok h hk hk
    · rw [List.pairwise_iff_getElem]
      exact fun i j hi hj hij => stTo_lt h hij hj hi hj
  · rintro ⟨hl, h1, h2⟩
    rw [List.pairwise_iff_getElem] at h2
    refine ⟨?_, hl⟩
    have : ∀ n, n ≤ os.length → stTo os n = true := by
      intro n
      induction n with
      | zero => intro _; rfl
      | succ n ih =>
        intro hn
        have hn' : n < os.length := by omega
        unfold stTo
        rw [ih (by omega), Bool.true_and]
        unfold stAt
        rw [List.getElem?_eq_getElem hn']
        dsimp only
        rw [h1 _ (List.getElem_mem hn'), Bool.true_and]
        cases n with
        | zero => rfl
        | succ j =>
          dsimp only
          rw [List.getElem?_eq_getElem (show j < os.length by omega)]
          exact decide_eq_true (h2 j (j + 1) (by omega) hn' (by omega))
    exact this _ (Nat.le_refl _)

/-- How many objects of a store have a smaller id. -/
def findK (os : List Ob) (id : Int) : Nat := (os.takeWhile (fun o => decide (oid o < id))).length

theorem findK_le (os : List Ob) (id : Int) : findK os id ≤ os.length := by
  unfold findK
  exact (List.takeWhile_sublist _).length_le

theorem findK_before {os : List Ob} {id : Int} : ∀ {j : Nat} (hj : j < os.length), j < findK os id → oid os[j] < id := by
  induction os with
  | nil => intro j hj; simp at hj
  | cons o os ih =>
    intro j hj h
    unfold findK at h
    rw [List.takeWhile_cons] at h
    split at h
    · rename_i ho
      cases j with
      | zero => simpa using ho
      | succ j =>
        exact ih (by simpa using hj) (by unfold findK; simpa using h)
    · simp at h

theorem findK_at {os : List Ob} {id : Int} (h : findK os id < os.length) : id ≤ oid os[findK os id] := by
  induction os with
  | nil => simp at h
  | cons o os ih =>
    by_cases ho : oid o < id
    · have e : findK (o :: os) id = findK os id + 1 := by unfold findK; rw [List.takeWhile_cons]; simp [ho]
      have hlt : findK os id < os.length := by rw [e] at h; simpa using h
      have := ih hlt
      simp only [e, List.getElem_cons_succ]
      exact this
    · have e : findK (o :: os) id = 0 := by unfold findK; rw [List.takeWhile_cons]; simp [ho]
      simp only [e, List.getElem_cons_zero]
      omega

/-- The place is the only one with these two. -/
theorem findK_eq {os : List Ob} {id : Int} {k : Nat} (hk : k ≤ os.length) (h1 : ∀ j (hj : j < os.length), j < k → oid os[j] < id) (h2 : ∀ (hj : k < os.length), id ≤ oid os[k]) : findK os id = k := by
  by_cases a : findK os id < k
  · have := h1 (findK os id) (by omega) a
    have := findK_at (os := os) (id := id) (by omega)
    omega
  · by_cases b : k < findK os id
    · have hkl : k < os.length := Nat.lt_of_lt_of_le b (findK_le os id)
      have := findK_before hkl b
      have := h2 hkl
      omega
    · omega

/-- An object put into a store: the store, and whether it is there then. -/
def put (os : List Ob) (o : Ob) : List Ob × Bool :=
  match os[findK os (oid o)]? with
  | some p => if oid p = oid o then (os, decide (p = o)) else if os.length < 16 then (os.take (findK os (oid o)) ++ o :: os.drop (findK os (oid o)), true) else (os, false)
  | none => if os.length < 16 then (os ++ [o], true) else (os, false)

def putTo (os list : List Ob) : Nat → Option (List Ob)
  | 0 => some os
  | k + 1 => match putTo os list k, list[k]? with
    | some x, some o => if (put x o).2 = true then some (put x o).1 else none
    | r, _ => r

/-- Objects put one after the other. -/
def putAll (os list : List Ob) : Option (List Ob) := putTo os list list.length

theorem putTo_succ {os list x : List Ob} {k : Nat} (hk : k < list.length) (h : putTo os list k = some x) : putTo os list (k + 1) = if (put x list[k]).2 = true then some (put x list[k]).1 else none := by
  simp [putTo, h, List.getElem?_eq_getElem hk]

theorem putTo_none {os list : List Ob} {k : Nat} (h : putTo os list k = none) : ∀ n, k ≤ n → putTo os list n = none := by
  intro n
  induction n with
  | zero =>
    intro hn
    obtain rfl : k = 0 := by omega
    exact h
  | succ n ih =>
    intro hn
    by_cases e : k = n + 1
    · subst e; exact h
    · simp [putTo, ih (by omega)]

/-- What a put keeps. -/
theorem put_ok {os : List Ob} {o : Ob} (h : stOk os = true) (ho : obOk o = true) : stOk (put os o).1 = true ∧ (∀ p ∈ os, p ∈ (put os o).1) ∧ ((put os o).2 = true → o ∈ (put os o).1) ∧ (put os o).1.length ≤ os.length + 1 := by
  obtain ⟨h1, h2, h3⟩ := stOk_iff.1 h
  have hb := findK_le os (oid o)
  unfold put
  cases hx : os[findK os (oid o)]? with
  | some p =>
    obtain ⟨hk, hp⟩ := List.getElem?_eq_some_iff.1 hx
    dsimp only
    split
    · refine ⟨h, fun q hq => hq, fun hd => ?_, Nat.le_succ _⟩
      have : p = o := by simpa using hd
      rw [← this, ← hp]
      exact List.getElem_mem hk
    · rename_i hne
      split
      · rename_i hl
        refine ⟨stOk_iff.2 ⟨by simp; omega, fun q hq => ?_, ?_⟩, fun q hq => ?_, fun _ => by simp, by simp; omega⟩
        · rcases List.mem_append.1 hq with hq | hq
          · exact h2 q (List.mem_of_mem_take hq)
          · rcases List.mem_cons.1 hq with rfl | hq
            · exact ho
            · exact h2 q (List.mem_of_mem_drop hq)
        · rw [List.pairwise_append, List.pairwise_cons]
          refine ⟨h3.sublist (List.take_sublist _ _), ⟨fun q hq => ?_, h3.sublist (List.drop_sublist _ _)⟩, fun a ha q hq => ?_⟩
          · obtain ⟨j, hj, rfl⟩ := List.mem_iff_getElem.1 hq
            rw [List.getElem_drop]
            have hat := findK_at hk
            rw [hp] at hat
            by_cases e : j = 0
            · subst e; simp only [Nat.add_zero, hp]; omega
            · have := (List.pairwise_iff_getElem.1 h3) (findK os (oid o)) (findK os (oid o) + j) hk (by simp at hj; omega) (by omega)
              rw [hp] at this
              omega
          · obtain ⟨i, hi, rfl⟩ := List.mem_iff_getElem.1 ha
            simp at hi
            rw [List.getElem_take]
            have hbi := findK_before (os := os) (id := oid o) (j := i) (by omega) (by omega)
            rcases List.mem_cons.1 hq with rfl | hq
            · exact hbi
            · obtain ⟨j, hj, rfl⟩ := List.mem_iff_getElem.1 hq
              rw [List.getElem_drop]
              exact (List.pairwise_iff_getElem.1 h3) i (findK os (oid o) + j) (by omega) (by simp at hj; omega) (by omega)
        · have : q ∈ os.take (findK os (oid o)) ++ os.drop (findK os (oid o)) := by rw [List.take_append_drop]; exact hq
          rcases List.mem_append.1 this with hm | hm
          · exact List.mem_append_left _ hm
          · exact List.mem_append_right _ (List.mem_cons_of_mem _ hm)
      · exact ⟨h, fun q hq => hq, fun hd => (by cases hd), Nat.le_succ _⟩
  | none =>
    have hk : os.length ≤ findK os (oid o) := List.getElem?_eq_none_iff.1 hx
    dsimp only
    split
    · refine ⟨stOk_iff.2 ⟨by simp; omega, fun q hq => ?_, ?_⟩, fun q hq => List.mem_append_left _ hq, fun _ => by simp, by simp⟩
      · rcases List.mem_append.1 hq with hq | hq
        · exact h2 q hq
        · simp at hq; subst hq; exact ho
      · rw [List.pairwise_append]
        refine ⟨h3, List.pairwise_singleton _ _, fun a ha q hq => ?_⟩
        simp at hq; subst hq
        obtain ⟨i, hi, rfl⟩ := List.mem_iff_getElem.1 ha
        exact findK_before hi (by omega)
    · exact ⟨h, fun q hq => hq, fun hd => (by cases hd), Nat.le_succ _⟩

theorem putTo_ok {os list : List Ob} (h : stOk os = true) (hl : ∀ o ∈ list, obOk o = true) : ∀ {k : Nat} {x : List Ob}, k ≤ list.length → putTo os list k = some x → stOk x = true ∧ (∀ p ∈ os, p ∈ x) ∧ (∀ p ∈ list.take k, p ∈ x) := by
  intro k
  induction k with
  | zero =>
    intro x _ hx
    simp [putTo] at hx
    subst hx
    exact ⟨h, fun p hp => hp, fun p hp => by simp at hp⟩
  | succ k ih =>
    intro x hk hx
    cases hp : putTo os list k with
    | none => rw [putTo_none hp (k + 1) (by omega)] at hx; cases hx
    | some y =>
      obtain ⟨i1, i2, i3⟩ := ih (by omega) hp
      have hk' : k < list.length := by omega
      rw [putTo_succ hk' hp] at hx
      split at hx
      · rename_i hc
        simp at hx
        subst hx
        obtain ⟨j1, j2, j3, _⟩ := put_ok i1 (hl _ (List.getElem_mem hk'))
        refine ⟨j1, fun p hp => j2 p (i2 p hp), fun p hp => ?_⟩
        rw [List.take_add_one, List.getElem?_eq_getElem hk'] at hp
        rcases List.mem_append.1 hp with hp | hp
        · exact j2 p (i3 p hp)
        · simp at hp; subst hp; exact j3 hc
      · cases hx

/-- The object with an id. -/
def getK (os : List Ob) (id : Int) : Option Ob :=
  match os[findK os id]? with
  | some p => if oid p = id then some p else none
  | none => none

theorem getK_mem {os : List Ob} {o : Ob} (h : stOk os = true) (ho : o ∈ os) : getK os (oid o) = some o := by
  obtain ⟨h1, h2, h3⟩ := stOk_iff.1 h
  obtain ⟨k, hk, rfl⟩ := List.mem_iff_getElem.1 ho
  have e : findK os (oid os[k]) = k := findK_eq (by omega) (fun j hj hjk => (List.pairwise_iff_getElem.1 h3) j k hj hk hjk) (fun _ => Int.le_refl _)
  unfold getK
  rw [e, List.getElem?_eq_getElem hk]
  simp

theorem stOk_false {os : List Ob} {k : Nat} (hk : k < os.length) (h : stAt os k = false) : stOk os = false := by
  unfold stOk
  rw [stTo_false h _ hk]; rfl

theorem stOk_bad {os : List Ob} {k : Nat} (hk : k < os.length) (h : obOk os[k] = false) : stOk os = false :=
  stOk_false hk (by simp [stAt, List.getElem?_eq_getElem hk, h])

theorem stOk_order {os : List Ob} {k : Nat} (hk : k + 1 < os.length) (h : ¬ oid os[k] < oid os[k + 1]) : stOk os = false :=
  stOk_false hk (by simp [stAt, List.getElem?_eq_getElem hk, List.getElem?_eq_getElem (show k < os.length by omega)]; intro _; omega)

theorem stTo_zero {os : List Ob} (hk : 0 < os.length) (h : obOk os[0] = true) : stTo os 1 = true := by
  simp [stTo, stAt, List.getElem?_eq_getElem hk, h]

theorem stTo_next {os : List Ob} {k : Nat} (hk : k + 1 < os.length) (h0 : stTo os (k + 1) = true) (h : obOk os[k + 1] = true) (h2 : oid os[k] < oid os[k + 1]) : stTo os (k + 1 + 1) = true := by
  show (stTo os (k + 1) && stAt os (k + 1)) = true
  rw [h0]
  simp [stAt, List.getElem?_eq_getElem hk, List.getElem?_eq_getElem (show k < os.length by omega), h, h2]

theorem stOk_end {os : List Ob} (h : stTo os os.length = true) : stOk os = decide (os.length ≤ 16) := by
  unfold stOk
  rw [h]; rfl

/-- Whether an id is there. -/
def hasK (os : List Ob) (id : Int) : Bool := match os[findK os id]? with | some p => decide (oid p = id) | none => false

theorem hasK_some {os : List Ob} {id : Int} (h : hasK os id = true) : ∃ hk : findK os id < os.length, oid os[findK os id] = id := by
  unfold hasK at h
  by_cases hk : findK os id < os.length
  · rw [List.getElem?_eq_getElem hk] at h
    exact ⟨hk, by simpa using h⟩
  · rw [List.getElem?_eq_none (by omega)] at h; cases h

theorem hasK_lt {os : List Ob} {id : Int} (hk : findK os id < os.length) : hasK os id = decide (oid os[findK os id] = id) := by
  unfold hasK
  rw [List.getElem?_eq_getElem hk]

theorem hasK_end {os : List Ob} {id : Int} (hk : findK os id = os.length) : hasK os id = false := by
  unfold hasK
  rw [List.getElem?_eq_none (by omega)]

theorem put_same {os : List Ob} {o : Ob} (h : hasK os (oid o) = true) (hk : findK os (oid o) < os.length) : put os o = (os, decide (os[findK os (oid o)] = o)) := by
  obtain ⟨_, h2⟩ := hasK_some h
  unfold put
  rw [List.getElem?_eq_getElem hk]
  dsimp only
  rw [if_pos h2]

theorem put_full {os : List Ob} {o : Ob} (h : hasK os (oid o) = false) (hl : ¬ os.length < 16) : put os o = (os, false) := by
  unfold put
  by_cases hk : findK os (oid o) < os.length
  · rw [hasK_lt hk] at h
    rw [List.getElem?_eq_getElem hk]
    dsimp only
    rw [if_neg (by simpa using h), if_neg hl]
  · rw [List.getElem?_eq_none (by omega)]
    dsimp only
    rw [if_neg hl]

theorem put_new {os : List Ob} {o : Ob} (h : hasK os (oid o) = false) (hl : os.length < 16) : put os o = (os.take (findK os (oid o)) ++ o :: os.drop (findK os (oid o)), true) := by
  unfold put
  by_cases hk : findK os (oid o) < os.length
  · rw [hasK_lt hk] at h
    rw [List.getElem?_eq_getElem hk]
    dsimp only
    rw [if_neg (by simpa using h), if_pos hl]
  · have e : findK os (oid o) = os.length := Nat.le_antisymm (findK_le _ _) (by omega)
    rw [List.getElem?_eq_none (by omega)]
    dsimp only
    rw [if_pos hl, e, List.take_length, List.drop_length]

theorem stOk_at {os : List Ob} (h : stOk os = true) {k : Nat} (hk : k < os.length) : obOk os[k] = true := (stOk_iff.1 h).2.1 _ (List.getElem_mem hk)

theorem stOk_lt {os : List Ob} (h : stOk os = true) {i j : Nat} (hij : i < j) (hj : j < os.length) : oid os[i] < oid os[j] := (List.pairwise_iff_getElem.1 (stOk_iff.1 h).2.2) i j (by omega) hj hij

theorem putTo_all {os list : List Ob} (h : stOk os = true) (hl : ∀ o ∈ list, obOk o = true) {x : List Ob} (hx : putAll os list = some x) : stOk x = true ∧ (∀ p ∈ os, p ∈ x) ∧ (∀ p ∈ list, p ∈ x) := by
  have := putTo_ok h hl (Nat.le_refl _) hx
  rw [List.take_length] at this
  exact this

end Go.Proofs.YtjgbconlpolddaaGreat
