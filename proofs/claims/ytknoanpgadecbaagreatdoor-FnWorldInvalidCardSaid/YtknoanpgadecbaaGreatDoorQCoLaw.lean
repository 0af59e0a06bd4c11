/- When the program finds a coordinator valid: the plain law. -/
import Derived.Test.YtknoanpgadecbaaGreatDoorQM1
set_option linter.unusedVariables false
set_option linter.unusedSimpArgs false
namespace Go.Proofs.YtknoanpgadecbaaGreatDoor
open Go.RowKit
set_option linter.unusedVariables false

theorem pw_nodup {l : List Int} (h : l.Pairwise (· < ·)) : l.Nodup := h.imp fun h e => by omega

theorem pw_ext {a b : List Int} (ha : a.Pairwise (· < ·)) (hb : b.Pairwise (· < ·)) (h : ∀ n, n ∈ a ↔ n ∈ b) : a = b := by
 induction a generalizing b with
 | nil =>
  cases b with
  | nil => rfl
  | cons y b => exact absurd ((h y).2 (List.mem_cons_self ..)) (by simp)
 | cons x a ih =>
  cases b with
  | nil => exact absurd ((h x).1 (List.mem_cons_self ..)) (by simp)
  | cons y b =>
   rw [List.pairwise_cons] at ha hb
   have hxy : x = y := by
    rcases List.mem_cons.1 ((h x).1 (List.mem_cons_self ..)) with e | h1
    ·exact e
    ·rcases List.mem_cons.1 ((h y).2 (List.mem_cons_self ..)) with e | h2
     ·exact e.symm
     ·have h3 := ha.1 y h2; have h4 := hb.1 x h1; omega
   subst hxy
   congr 1
   refine ih ha.2 hb.2 fun n => ⟨fun hn => ?_, fun hn => ?_⟩
   ·rcases List.mem_cons.1 ((h n).1 (List.mem_cons_of_mem _ hn)) with e | h1
    ·have := ha.1 n hn; omega
    ·exact h1
   ·rcases List.mem_cons.1 ((h n).2 (List.mem_cons_of_mem _ hn)) with e | h1
    ·have := hb.1 n hn; omega
    ·exact h1

theorem nodup_perm {l m : List Int} (hl : l.Nodup) (h : ∀ x ∈ l, x ∈ m) (hm : m.length ≤ l.length) : m.Perm l := by
 induction l generalizing m with
 | nil => rw [List.eq_nil_of_length_eq_zero (Nat.le_zero.1 hm)]
 | cons x l ih =>
  rw [List.nodup_cons] at hl
  have hx := h x (List.mem_cons_self ..)
  have hle := List.length_erase_of_mem hx
  have hpos := List.length_pos_of_mem hx
  have := ih (m := m.erase x) hl.2 (fun y hy => (List.mem_erase_of_ne (fun (e : y = x) => hl.1 (by rw [← e]; exact hy))).2 (h y (List.mem_cons_of_mem _ hy))) (by simp only [List.length_cons] at hm; omega)
  exact (List.perm_cons_erase hx).trans (this.cons x)

def msort (l : List Int) : List Int := l.mergeSort fun x y => decide (x ≤ y)

theorem msort_perm (l : List Int) : (msort l).Perm l := List.mergeSort_perm l _
theorem msort_mem {l : List Int} {n : Int} : n ∈ msort l ↔ n ∈ l := List.mem_mergeSort
theorem msort_pw {l : List Int} (h : l.Nodup) : (msort l).Pairwise (· < ·) := by
 have h1 : (msort l).Pairwise (fun x y => decide (x ≤ y) = true) := List.pairwise_mergeSort (fun a b c h1 h2 => by simp at *; omega) (fun a b => by simp; omega) l
 have h2 : (msort l).Nodup := ((List.mergeSort_perm l _).nodup_iff).2 h
 refine (List.Pairwise.and h1 h2).imp ?_
 rintro a b ⟨h3, h4⟩
 simp at h3
 omega

def commTo (ts : List Tn) : Nat → List Int
 | 0 => []
 | k + 1 => if (ts[k]?.map (·.dec)) = some 2 then commTo ts k ++ [(k : Int)] else commTo ts k

theorem commTo_mem (ts : List Tn) : ∀ (k : Nat) (x : Int), x ∈ commTo ts k ↔ ∃ i : Nat, i < k ∧ x = (i : Int) ∧ (ts[i]?.map (·.dec)) = some 2
 | 0, x => by simp [commTo]
 | k + 1, x => by
  unfold commTo
  split
  ·rename_i h
   rw [List.mem_append, commTo_mem ts k x, List.mem_singleton]
   constructor
   ·rintro (⟨i, h1, h2, h3⟩ | rfl)
    ·exact ⟨i, by omega, h2, h3⟩
    ·exact ⟨k, by omega, rfl, h⟩
   ·rintro ⟨i, h1, h2, h3⟩
    by_cases e : i = k
    ·exact .inr (by rw [h2, e])
    ·exact .inl ⟨i, by omega, h2, h3⟩
  ·rename_i h
   rw [commTo_mem ts k x]
   constructor
   ·rintro ⟨i, h1, h2, h3⟩; exact ⟨i, by omega, h2, h3⟩
   ·rintro ⟨i, h1, h2, h3⟩
    by_cases e : i = k
    ·subst e; exact absurd h3 h
    ·exact ⟨i, by omega, h2, h3⟩

theorem commTo_pw (ts : List Tn) : ∀ k, (commTo ts k).Pairwise (· < ·)
 | 0 => List.Pairwise.nil
 | k + 1 => by
  unfold commTo
  split
  ·rw [List.pairwise_append]
   refine ⟨commTo_pw ts k, List.pairwise_singleton _ _, fun a ha b hb => ?_⟩
   obtain rfl := List.mem_singleton.1 hb
   obtain ⟨i, h1, rfl, _⟩ := (commTo_mem ts k a).1 ha
   omega
  ·exact commTo_pw ts k

theorem commTo_len (c : Co) : ∀ k, k ≤ c.txns.length → (commTo c.txns k).length = comm c k
 | 0, _ => by simp [commTo, comm]
 | k + 1, h => by
  have ih := commTo_len c k (by omega)
  have hk : k < c.txns.length := by omega
  rw [comm_succ hk]
  unfold commTo
  rw [List.getElem?_eq_getElem hk]
  by_cases e : c.txns[k].dec = 2
  ·simp [e, ih]
  ·simp [e, ih]

def tnOkI (t : Tn) : Bool := partsOk t.parts && (t.votes.length == t.parts.length) && decide (t.votes.count 1 + t.votes.count (-1) + t.votes.count 0 = t.votes.length) &&
 (if t.dec = 2 then decide (t.votes.count 1 = t.votes.length) else if t.dec = 3 then decide (t.votes.count 1 < t.votes.length) else if t.dec = 0 then decide (t.votes.count (-1) = 0) && decide (0 < t.votes.count 0) else false)

theorem votes_count (vs : List Int) : vs.count 1 + vs.count (-1) + vs.count 0 ≤ vs.length ∧ (vs.count 1 + vs.count (-1) + vs.count 0 = vs.length ↔ votesIn vs = true) := by
 induction vs with
 | nil => simp [votesIn]
 | cons v vs ih =>
  obtain ⟨h1, h2⟩ := ih
  have e : votesIn (v :: vs) = (inR v (-1) 1 && votesIn vs) := by simp [votesIn]
  rw [e]
  simp only [List.count_cons, List.length_cons, Bool.and_eq_true, ← h2, inR_iff, beq_iff_eq]
  by_cases a1 : v = 1
  ·subst a1; simp; omega
  ·by_cases a2 : v = -1
   ·subst a2; simp; omega
   ·by_cases a3 : v = 0
    ·subst a3; simp; omega
    ·simp [a1, a2, a3]; omega

theorem tnOkI_eq (t : Tn) : tnOkI t = tnOk t := by
 obtain ⟨h1, h2⟩ := votes_count t.votes
 unfold tnOkI tnOk decOk
 cases hv : votesIn t.votes with
 | false =>
  have : ¬ (t.votes.count 1 + t.votes.count (-1) + t.votes.count 0 = t.votes.length) := fun h => by rw [h2.1 h] at hv; cases hv
  simp [this]
 | true =>
  have h3 := h2.2 hv
  clear h1 h2 hv
  generalize t.votes.count 1 = p at *
  generalize t.votes.count (-1) = m at *
  generalize t.votes.count 0 = z at *
  generalize t.votes.length = n at *
  generalize (n == t.parts.length) = q at *
  cases partsOk t.parts <;> cases q <;> simp [h3]
  by_cases a0 : t.dec = 0
  ·rw [a0, if_neg (by decide), if_neg (by decide), if_pos rfl]
   by_cases hm : m = 0
   ·have : (0 < z) ↔ p < n := by omega
    simp [hm, this]
   ·simp [hm]
  ·by_cases a2 : t.dec = 2
   ·simp [a2]
   ·by_cases a3 : t.dec = 3
    ·simp [a3]
    ·simp [a0, a2, a3]

def coOkI (c : Co) : Bool := c.txns.all tnOk && decide (c.txns.length ≤ 12) && decide (msort c.order = commTo c.txns c.txns.length)

theorem coTo_all (c : Co) (k : Nat) (hk : k ≤ c.txns.length) : coTo c k = true ↔ ∀ i (hi : i < k), tnOk (c.txns[i]'(by omega)) = true ∧ (((c.txns[i]'(by omega)).dec == 2) = c.order.contains (i : Int)) := by
 constructor
 ·intro h i hi
  have := coTo_at h i hi
  have hl : i < c.txns.length := by omega
  simp only [coAt, List.getElem?_eq_getElem hl, Bool.and_eq_true] at this
  exact ⟨this.1, by simpa using this.2⟩
 ·intro h
  induction k with
  | zero => rfl
  | succ k ih =>
   have hl : k < c.txns.length := by omega
   obtain ⟨h1, h2⟩ := h k (by omega)
   show (coTo c k && coAt c k) = true
   rw [ih (by omega) fun i hi => h i (by omega)]
   simp [coAt, List.getElem?_eq_getElem hl, h1, h2]

theorem coOkI_eq (c : Co) : coOkI c = coOk c := by
 rw [Bool.eq_iff_iff]
 unfold coOkI coOk
 simp only [Bool.and_eq_true, decide_eq_true_eq, List.all_eq_true]
 have hdec : ∀ i (hi : i < c.txns.length), ((c.txns[i]?.map (·.dec)) = some 2 ↔ c.txns[i].dec = 2) := fun i hi => by simp [List.getElem?_eq_getElem hi]
 constructor
 ·rintro ⟨⟨h1, h2⟩, h3⟩
  refine ⟨⟨(coTo_all c _ (Nat.le_refl _)).2 fun i hi => ⟨h1 _ (List.getElem_mem hi), ?_⟩, h2⟩, ?_⟩
  ·have : (i : Int) ∈ c.order ↔ c.txns[i].dec = 2 := by
    rw [← msort_mem, h3, commTo_mem, ← hdec i hi]
    constructor
    ·rintro ⟨j, g1, g2, g3⟩
     obtain rfl : i = j := by omega
     exact g3
    ·intro g; exact ⟨i, hi, rfl, g⟩
   rw [Bool.eq_iff_iff]
   simp [this]
  ·rw [← commTo_len c _ (Nat.le_refl _), ← h3, (msort_perm c.order).length_eq]
 ·rintro ⟨⟨h1, h2⟩, h3⟩
  have h4 := (coTo_all c _ (Nat.le_refl _)).1 h1
  refine ⟨⟨fun t ht => ?_, h2⟩, ?_⟩
  ·obtain ⟨i, hi, rfl⟩ := List.getElem_of_mem ht
   exact (h4 i hi).1
  ·have hp : c.order.Perm (commTo c.txns c.txns.length) := by
    refine nodup_perm (pw_nodup (commTo_pw _ _)) (fun x hx => ?_) (by rw [commTo_len c _ (Nat.le_refl _), h3]; exact Nat.le_refl _)
    obtain ⟨i, g1, rfl, g3⟩ := (commTo_mem _ _ _).1 hx
    have g4 := (h4 i g1).2
    rw [(hdec i g1).1 g3] at g4
    simpa using g4
   exact pw_ext (msort_pw (hp.nodup_iff.2 (pw_nodup (commTo_pw _ _)))) (commTo_pw _ _) fun n => by rw [msort_mem, hp.mem_iff]

end Go.Proofs.YtknoanpgadecbaaGreatDoor
