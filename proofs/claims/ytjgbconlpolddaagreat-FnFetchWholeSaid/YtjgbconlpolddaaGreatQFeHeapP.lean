/- A binary heap in a list: the plain law. -/
import Derived.Test.YtjgbconlpolddaaGreatQFeModel
set_option linter.unusedVariables false
set_option linter.unusedSimpArgs false
namespace Go.Proofs.YtjgbconlpolddaaGreat
open Go.RowKit
set_option linter.unusedVariables false

/-- What stands at a place of a list. -/
def at0 (l : List Int) (i : Nat) : Int := l[i]?.getD 0

theorem at0_get {l : List Int} {i : Nat} (h : i < l.length) : at0 l i = l[i] := by simp [at0, List.getElem?_eq_getElem h]

theorem at0_set (l : List Int) {i : Nat} (h : i < l.length) (x : Int) (k : Nat) : at0 (l.set i x) k = if k = i then x else at0 l k := by
  unfold at0
  by_cases e : k = i
  · subst e; simp [h]
  · rw [List.getElem?_set_ne (Ne.symm e), if_neg e]

/-- A list with two places exchanged. -/
def swp (l : List Int) (i j : Nat) : List Int := (l.set i (at0 l j)).set j (at0 l i)

theorem swp_len (l : List Int) (i j : Nat) : (swp l i j).length = l.length := by simp [swp]

theorem swp_at {l : List Int} {i j : Nat} (hi : i < l.length) (hj : j < l.length) (k : Nat) : at0 (swp l i j) k = if k = j then at0 l i else if k = i then at0 l j else at0 l k := by
  unfold swp
  rw [at0_set _ (by simpa using hj), at0_set _ hi]

theorem swp_perm {l : List Int} {i j : Nat} (hi : i < l.length) (hj : j < l.length) : (swp l i j).Perm l := by
  unfold swp
  rw [at0_get hi, at0_get hj]
  exact List.set_set_perm hi hj

def chi (p c : Nat) : Prop := c = 2 * p + 1 ∨ c = 2 * p + 2

/-- The first n places are a heap. -/
def HP (l : List Int) (n : Nat) : Prop := ∀ p c, chi p c → c < n → at0 l p ≤ at0 l c

/-- The first n places are a heap but for place i. -/
def HD (l : List Int) (i n : Nat) : Prop := (∀ p c, chi p c → c < n → p ≠ i → at0 l p ≤ at0 l c) ∧ ∀ p c, chi p i → chi i c → c < n → at0 l p ≤ at0 l c

theorem HP.first {l : List Int} {n : Nat} (h : HP l n) : ∀ k, k < n → at0 l 0 ≤ at0 l k := by
  intro k
  induction k using Nat.strongRecOn with
  | ind k ih =>
    intro hk
    rcases Nat.eq_zero_or_pos k with rfl | h0
    · omega
    · have h1 := ih ((k - 1) / 2) (by omega) (by omega)
      have h2 := h ((k - 1) / 2) k (by unfold chi; omega) hk
      omega

theorem HD.start {l : List Int} {n : Nat} (h : HP l (n + 1)) (hl : l.length = n + 1) : HD (swp l 0 n) 0 n := by
  constructor
  · intro p c hc hn hp
    have := h p c hc (by omega)
    rw [swp_at (by omega) (by omega), swp_at (by omega) (by omega)]
    unfold chi at hc
    rw [if_neg (by omega), if_neg (by omega), if_neg (by omega), if_neg (by omega)]
    exact this
  · intro p c hc
    unfold chi at hc
    omega

theorem HD.last {l : List Int} {i n : Nat} (h : HD l i n) (hn : n ≤ 2 * i + 1) : HP l n := fun p c hc hcn => by
  by_cases e : p = i
  · subst e; unfold chi at hc; omega
  · exact h.1 p c hc hcn e

theorem HD.stop {l : List Int} {i j n : Nat} (h : HD l i n) (hj : chi i j) (hmin : ∀ c, chi i c → c < n → at0 l j ≤ at0 l c) (hle : at0 l i ≤ at0 l j) : HP l n := fun p c hc hcn => by
  by_cases e : p = i
  · subst e
    have := hmin c hc hcn
    omega
  · exact h.1 p c hc hcn e

theorem HD.step {l : List Int} {i j n : Nat} (h : HD l i n) (hj : chi i j) (hjn : j < n) (hn : n ≤ l.length) (hmin : ∀ c, chi i c → c < n → at0 l j ≤ at0 l c) (hlt : at0 l j < at0 l i) : HD (swp l i j) j n := by
  have hij : i < j := by unfold chi at hj; omega
  have hi : i < l.length := by omega
  have hj' : j < l.length := by omega
  constructor
  · intro p c hc hcn hp
    rw [swp_at hi hj', swp_at hi hj', if_neg hp]
    by_cases e : p = i
    · subst e
      have h1 := hmin c hc hcn
      have h2 : c ≠ p := by unfold chi at hc; omega
      rw [if_pos rfl, if_neg h2]
      split
      · omega
      · exact h1
    · rw [if_neg e]
      have h1 := h.1 p c hc hcn e
      split
      · rename_i e2; subst e2; unfold chi at hc hj; omega
      · split
        · rename_i e3
          subst e3
          exact h.2 p j hc hj hjn
        · exact h1
  · intro p c hc hcj hcn
    obtain rfl : p = i := by unfold chi at hc hj; omega
    rw [swp_at hi hj', swp_at hi hj', if_neg (by omega), if_pos rfl]
    have h1 := h.1 j c hcj hcn (by omega)
    rw [if_neg (by unfold chi at hcj; omega), if_neg (by unfold chi at hcj; omega)]
    exact h1

/-- Pushing what is greater than all keeps a heap. -/
theorem HP.push {l : List Int} {x : Int} (h : HP l l.length) (hx : ∀ y ∈ l, y < x) : HP (l ++ [x]) (l.length + 1) := by
  intro p c hc hcn
  have hp : p < l.length := by unfold chi at hc; omega
  have e1 : at0 (l ++ [x]) p = at0 l p := by simp [at0, List.getElem?_append_left hp]
  rw [e1]
  by_cases e : c < l.length
  · have e2 : at0 (l ++ [x]) c = at0 l c := by simp [at0, List.getElem?_append_left e]
    rw [e2]
    exact h p c hc e
  · obtain rfl : c = l.length := by omega
    have e2 : at0 (l ++ [x]) l.length = x := by simp [at0]
    rw [e2, at0_get hp]
    have := hx _ (List.getElem_mem hp)
    omega

theorem HP.nil : HP [] 0 := fun p c _ h => by omega

/-- What is left when the last place is cut off. -/
theorem HP.cut {l : List Int} {n : Nat} (h : HP l n) (hl : l.length = n + 1) : HP (l.take n) (l.take n).length := by
  intro p c hc hcn
  rw [List.length_take] at hcn
  have hp : p < n := by unfold chi at hc; omega
  have e1 : at0 (l.take n) p = at0 l p := by simp [at0, List.getElem?_take, hp]
  have e2 : at0 (l.take n) c = at0 l c := by
    have : c < n := by omega
    simp [at0, List.getElem?_take, this]
  rw [e1, e2]
  exact h p c hc (by omega)

/-- A heap's first: what a pop hands back, with what is left. -/
structure Popped (l r : List Int) (x : Int) : Prop where
  heap : HP r r.length
  perm : (r ++ [x]).Perm l
  least : ∀ y ∈ r, x ≤ y

theorem Popped.of {l m : List Int} {n : Nat} (hl : l.length = n + 1) (hp : HP l (n + 1)) (hm : HP m n) (hperm : m.Perm l) (hlast : at0 m n = at0 l 0) : Popped l (m.take n) (at0 l 0) := by
  have hml : m.length = n + 1 := by rw [hperm.length_eq, hl]
  have e : m.take n ++ [at0 l 0] = m := by
    rw [← hlast, at0_get (by omega)]
    have := List.take_append_getElem (l := m) (i := n) (by omega)
    rw [this]
    exact List.take_of_length_le (by omega)
  refine ⟨hm.cut hml, by rw [e]; exact hperm, fun y hy => ?_⟩
  have hyl : y ∈ l := hperm.subset (List.mem_of_mem_take hy)
  obtain ⟨k, hk, rfl⟩ := List.getElem_of_mem hyl
  have := hp.first k (by omega)
  rwa [at0_get hk] at this

/-- The heap and what has come out of it. -/
structure HOut (need out l : List Int) : Prop where
  heap : HP l l.length
  perm : (out ++ l).Perm need
  pw : out.Pairwise (· < ·)
  less : ∀ x ∈ out, ∀ y ∈ l, x < y

theorem HOut.pop {need out l r : List Int} {x : Int} (h : HOut need out l) (hn : need.Nodup) (hp : Popped l r x) : HOut need (out ++ [x]) r := by
  have hl : (out ++ (r ++ [x])).Perm need := (List.Perm.append_left out hp.perm).trans h.perm
  have hnd : (out ++ (r ++ [x])).Nodup := hl.nodup_iff.2 hn
  have hx : x ∈ l := hp.perm.subset (by simp)
  refine ⟨hp.heap, ?_, ?_, ?_⟩
  · refine List.Perm.trans ?_ hl
    rw [List.append_assoc]
    exact List.Perm.append_left out List.perm_append_comm
  · rw [List.pairwise_append]
    refine ⟨h.pw, List.pairwise_singleton _ _, fun a ha b hb => ?_⟩
    obtain rfl := List.mem_singleton.1 hb
    exact h.less a ha _ hx
  · intro a ha y hy
    rcases List.mem_append.1 ha with ha | ha
    · exact h.less a ha y (hp.perm.subset (by simp [hy]))
    · obtain rfl := List.mem_singleton.1 ha
      have h1 := hp.least y hy
      have h2 : a ≠ y := by
        rintro rfl
        rw [List.nodup_append] at hnd
        have h3 := hnd.2.1
        rw [List.nodup_append] at h3
        exact h3.2.2 a hy a (by simp) rfl
      omega

theorem HOut.done {need out : List Int} (h : HOut need out []) (hn : need.Pairwise (· < ·)) : out = need :=
  pw_ext h.pw hn fun n => by have := h.perm.mem_iff (a := n); simpa using this

theorem HOut.start {need : List Int} (h : HP need need.length) : HOut need [] need := ⟨h, by simp, List.Pairwise.nil, fun x hx => by cases hx⟩

end Go.Proofs.YtjgbconlpolddaaGreat
