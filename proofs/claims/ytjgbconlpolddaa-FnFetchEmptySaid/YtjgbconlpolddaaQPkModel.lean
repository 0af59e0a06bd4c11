/- Objects, deltas and packs: the plain functions, no program in sight. -/
import Derived.WalkKit
set_option linter.unusedVariables false
set_option linter.unusedSimpArgs false
namespace Go.Proofs.Ytjgbconlpolddaa
open Go.RowKit

def inR (n lo hi : Int) : Bool := decide (lo ≤ n) && decide (n ≤ hi)

theorem inR_iff {n lo hi : Int} : inR n lo hi = true ↔ lo ≤ n ∧ n ≤ hi := by simp [inR]

/-- A text: its bytes. -/
abbrev Tx := List UInt8

structure Ob where
  kind : Int
  links : List Int
  text : Tx
  deriving DecidableEq

structure Opn where
  pos : Int
  size : Int
  text : Tx
  deriving DecidableEq

structure En where
  kind : Int
  links : List Int
  base : Int
  ops : List Opn
  deriving DecidableEq

/-- Link i is an id, and greater than the one before. -/
def ascAt (l : List Int) (i : Nat) : Bool :=
  match l[i]? with
  | some n => inR n 0 990 && (match i with | 0 => true | j + 1 => match l[j]? with | some m => decide (m < n) | none => true)
  | none => true

def ascTo (l : List Int) : Nat → Bool
  | 0 => true
  | k + 1 => ascTo l k && ascAt l k

def asc (l : List Int) : Bool := ascTo l l.length

theorem ascTo_false {l : List Int} {k : Nat} (h : ascAt l k = false) : ∀ n, k < n → ascTo l n = false := by
  intro n
  induction n with
  | zero => omega
  | succ n ih =>
    intro hk
    by_cases e : k = n
    · subst e; simp [ascTo, h]
    · simp [ascTo, ih (by omega)]

theorem ascTo_at {l : List Int} {n : Nat} (h : ascTo l n = true) : ∀ k, k < n → ascAt l k = true := by
  intro k hk
  cases hu : ascAt l k with
  | true => rfl
  | false => rw [ascTo_false hu n hk] at h; exact h

def kindOk (o : Ob) : Bool :=
  if o.kind = 1 then decide (o.links.length = 0) else if o.kind = 2 then decide (o.text = []) else if o.kind = 3 then decide (0 < o.links.length) else false

/-- A valid object. -/
def obOk (o : Ob) : Bool := asc o.links && decide (o.links.length ≤ 4) && decide (o.text.length ≤ 8) && kindOk o

/-- How many bytes of the second begin the first. -/
def pre : Tx → Tx → Nat
  | x :: a, y :: t => if x = y then pre a t + 1 else 0
  | _, _ => 0

/-- The place and the size of the longest part, among the first k places. -/
def bestTo (b t : Tx) : Nat → Nat × Nat
  | 0 => (0, 0)
  | k + 1 => if (bestTo b t k).2 < pre (b.drop k) t then (k, pre (b.drop k) t) else bestTo b t k

def best (b t : Tx) : Nat × Nat := bestTo b t b.length

/-- One step of a delta: the operations so far, and what is left of the text. -/
def dstep (b t : Tx) (ops : List Opn) : List Opn × Tx :=
  if 2 ≤ (best b t).2 then (ops ++ [⟨(best b t).1, (best b t).2, []⟩], t.drop (best b t).2)
  else match ops.getLast? with
    | some o => if o.size = 0 then (ops.dropLast ++ [⟨o.pos, 0, o.text ++ t.take 1⟩], t.drop 1) else (ops ++ [⟨0, 0, t.take 1⟩], t.drop 1)
    | none => (ops ++ [⟨0, 0, t.take 1⟩], t.drop 1)

def dmake (b : Tx) : Nat → Tx → List Opn → List Opn
  | 0, _, ops => ops
  | n + 1, t, ops => if t = [] then ops else dmake b n (dstep b t ops).2 (dstep b t ops).1

/-- The operations for a text. -/
def delta (b t : Tx) : List Opn := if b.length ≤ 8 ∧ t.length ≤ 8 then dmake b t.length t [] else []

/-- The size of operations. -/
def dsizeTo (ops : List Opn) : Nat → Nat
  | 0 => 0
  | k + 1 => match ops[k]? with | some o => dsizeTo ops k + 1 + o.text.length | none => dsizeTo ops k

def dsize (ops : List Opn) : Nat := dsizeTo ops ops.length

theorem dsizeTo_succ {ops : List Opn} {k : Nat} (h : k < ops.length) : dsizeTo ops (k + 1) = dsizeTo ops k + 1 + ops[k].text.length := by
  simp [dsizeTo, List.getElem?_eq_getElem h]

/-- The sum of an object behind its first k links; behind the first k bytes of its text. -/
def idL (o : Ob) : Nat → Int
  | 0 => 100 * o.kind + o.links.length
  | k + 1 => match o.links[k]? with | some l => (idL o k * 613 + l + 1) % 991 | none => idL o k

def idT (o : Ob) : Nat → Int
  | 0 => idL o o.links.length
  | k + 1 => match o.text[k]? with | some b => (idT o k * 257 + (b.toNat : Int) + 1) % 991 | none => idT o k

/-- The id of an object. -/
def oid (o : Ob) : Int := idT o o.text.length

theorem obOk_kind {o : Ob} (h : obOk o = true) : 1 ≤ o.kind ∧ o.kind ≤ 3 := by
  unfold obOk kindOk at h
  simp only [Bool.and_eq_true] at h
  have := h.2
  split at this
  · omega
  · split at this
    · omega
    · split at this
      · omega
      · cases this

theorem obOk_len {o : Ob} (h : obOk o = true) : o.links.length ≤ 4 ∧ o.text.length ≤ 8 := by
  unfold obOk at h
  simp only [Bool.and_eq_true, decide_eq_true_eq] at h
  exact ⟨h.1.1.2, h.1.2⟩

theorem asc_link {l : List Int} (h : asc l = true) (k : Nat) (hk : k < l.length) : 0 ≤ l[k] ∧ l[k] ≤ 990 := by
  have := ascTo_at h k hk
  simp only [ascAt, List.getElem?_eq_getElem hk, Bool.and_eq_true] at this
  exact inR_iff.1 this.1

theorem obOk_link {o : Ob} (h : obOk o = true) (k : Nat) (hk : k < o.links.length) : 0 ≤ o.links[k] ∧ o.links[k] ≤ 990 := by
  unfold obOk at h
  simp only [Bool.and_eq_true] at h
  exact asc_link h.1.1.1 k hk

theorem idL_succ {o : Ob} {k : Nat} (h : k < o.links.length) : idL o (k + 1) = (idL o k * 613 + o.links[k] + 1) % 991 := by simp [idL, List.getElem?_eq_getElem h]
theorem idT_succ {o : Ob} {k : Nat} (h : k < o.text.length) : idT o (k + 1) = (idT o k * 257 + (o.text[k].toNat : Int) + 1) % 991 := by simp [idT, List.getElem?_eq_getElem h]

theorem idL_in {o : Ob} (h : obOk o = true) (k : Nat) : 0 ≤ idL o k ∧ idL o k ≤ 990 := by
  induction k with
  | zero =>
    have h1 := obOk_kind h
    have h2 := obOk_len h
    show 0 ≤ 100 * o.kind + (o.links.length : Int) ∧ 100 * o.kind + (o.links.length : Int) ≤ 990
    omega
  | succ k ih =>
    by_cases hk : k < o.links.length
    · rw [idL_succ hk]
      have h1 := obOk_link h k hk
      omega
    · have : idL o (k + 1) = idL o k := by simp [idL, List.getElem?_eq_none (Nat.le_of_not_lt hk)]
      rw [this]; exact ih

theorem idT_in {o : Ob} (h : obOk o = true) (k : Nat) : 0 ≤ idT o k ∧ idT o k ≤ 990 := by
  induction k with
  | zero => exact idL_in h _
  | succ k ih =>
    by_cases hk : k < o.text.length
    · rw [idT_succ hk]
      omega
    · have : idT o (k + 1) = idT o k := by simp [idT, List.getElem?_eq_none (Nat.le_of_not_lt hk)]
      rw [this]; exact ih

end Go.Proofs.Ytjgbconlpolddaa
