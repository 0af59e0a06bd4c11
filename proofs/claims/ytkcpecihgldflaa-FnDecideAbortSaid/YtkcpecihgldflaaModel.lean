/- The plain functions of shards: no program in sight. -/
import Derived.WalkKit
namespace Go.Proofs.Ytkcpecihgldflaa
open Go.RowKit

structure Upd where
  ref : Int
  old : Int
  new : Int
  deriving DecidableEq

structure Rc where
  kind : Int
  txn : Int
  ups : List Upd
  deriving DecidableEq

def inR (n lo hi : Int) : Bool := decide (lo ≤ n) && decide (n ≤ hi)

theorem inR_iff {n lo hi : Int} : inR n lo hi = true ↔ lo ≤ n ∧ n ≤ hi := by simp [inR]

def updOk (u : Upd) : Bool := inR u.ref 0 3 && inR u.old (-1) 990 && inR u.new (-1) 990 && !(u.old == u.new)

/-- Update i is right, and greater than the one before. -/
def updAt (us : List Upd) (i : Nat) : Bool :=
  match us[i]? with
  | some u => updOk u && (match i with | 0 => true | j + 1 => match us[j]? with | some t => decide (t.ref < u.ref) | none => true)
  | none => true

/-- The first k updates are right. -/
def updsTo (us : List Upd) : Nat → Bool
  | 0 => true
  | k + 1 => updsTo us k && updAt us k

def updsOk (us : List Upd) : Bool := updsTo us us.length && decide (0 < us.length)

theorem updsTo_false {us : List Upd} {k : Nat} (h : updAt us k = false) : ∀ n, k < n → updsTo us n = false := by
  intro n
  induction n with
  | zero => omega
  | succ n ih =>
    intro hk
    by_cases e : k = n
    · subst e; simp [updsTo, h]
    · simp [updsTo, ih (by omega)]

theorem updsTo_at {us : List Upd} {n : Nat} (h : updsTo us n = true) : ∀ k, k < n → updAt us k = true := by
  intro k hk
  cases hu : updAt us k with
  | true => rfl
  | false => rw [updsTo_false hu n hk] at h; exact h

theorem updsOk_ref {us : List Upd} (h : updsOk us = true) : ∀ k (hk : k < us.length), 0 ≤ us[k].ref ∧ us[k].ref ≤ 3 := by
  intro k hk
  have := updsTo_at (us := us) (n := us.length) (by simp [updsOk] at h; exact h.1) k hk
  simp [updAt, List.getElem?_eq_getElem hk, updOk, inR] at this
  exact this.1.1.1.1

/-- The state of a transaction by the last record. -/
def askTo (rs : List Rc) (t : Int) : Nat → Int
  | 0 => 0
  | k + 1 => match rs[k]? with
    | some r => if r.txn = t then r.kind else askTo rs t k
    | none => askTo rs t k

def ask (rs : List Rc) (t : Int) : Int := askTo rs t rs.length

/-- The updates of the first vote for a transaction. -/
def upsOf : List Rc → Int → List Upd
  | [], _ => []
  | r :: rs, t => if r.txn = t ∧ r.kind = 1 then r.ups else upsOf rs t

def at4 (l : List Int) (i : Int) : Int := l.getD i.toNat 0

/-- All refs have their old ids. -/
def fitsTo (refs : List Int) (us : List Upd) : Nat → Bool
  | 0 => true
  | k + 1 => fitsTo refs us k && (match us[k]? with | some u => at4 refs u.ref == u.old | none => true)
def fits (refs : List Int) (us : List Upd) : Bool := fitsTo refs us us.length

def setTo (refs : List Int) (us : List Upd) : Nat → List Int
  | 0 => refs
  | k + 1 => match us[k]? with | some u => (setTo refs us k).set u.ref.toNat u.new | none => setTo refs us k
def setAll (refs : List Int) (us : List Upd) : List Int := setTo refs us us.length

def freeTo (locks : List Int) (us : List Upd) : Nat → Bool
  | 0 => true
  | k + 1 => freeTo locks us k && (match us[k]? with | some u => at4 locks u.ref == -1 | none => true)
def isFree (locks : List Int) (us : List Upd) : Bool := freeTo locks us us.length

def takeTo (locks : List Int) (t : Int) (us : List Upd) : Nat → List Int
  | 0 => locks
  | k + 1 => match us[k]? with | some u => (takeTo locks t us k).set u.ref.toNat t | none => takeTo locks t us k
def takeAll (locks : List Int) (t : Int) (us : List Upd) : List Int := takeTo locks t us us.length

def freed (locks : List Int) (t : Int) : List Int := locks.map fun x => if x = t then -1 else x

structure St where
  refs : List Int
  locks : List Int
  deriving DecidableEq

def St.begin : St := ⟨[-1, -1, -1, -1], [-1, -1, -1, -1]⟩

/-- What a record does behind others. -/
def step (rs : List Rc) (s : St) (r : Rc) : Option St :=
  if r.kind = 1 then
    if ask rs r.txn ≠ 0 ∨ updsOk r.ups = false ∨ fits s.refs r.ups = false ∨ isFree s.locks r.ups = false then none
    else some ⟨s.refs, takeAll s.locks r.txn r.ups⟩
  else if r.kind = 2 then
    if ask rs r.txn ≠ 1 ∨ 0 < r.ups.length then none
    else some ⟨setAll s.refs (upsOf rs r.txn), freed s.locks r.txn⟩
  else if r.kind = 3 then
    if (ask rs r.txn ≠ 0 ∧ ask rs r.txn ≠ 1) ∨ 0 < r.ups.length then none
    else some ⟨s.refs, freed s.locks r.txn⟩
  else none

/-- The state after the first k records. -/
def recTo (rs : List Rc) : Nat → Option St
  | 0 => some St.begin
  | k + 1 => match recTo rs k, rs[k]? with
    | some s, some r => if inR r.txn 0 11 then step (rs.take k) s r else none
    | _, _ => none

def recover (rs : List Rc) : Option St := recTo rs rs.length

def valid (rs : List Rc) : Bool := (recover rs).isSome && decide (rs.length ≤ 30)

end Go.Proofs.Ytkcpecihgldflaa
