/- The plain functions of shards: no program in sight. -/
import Derived.WalkKit
set_option linter.unusedVariables false
set_option linter.unusedSimpArgs false
namespace Go.Proofs.YtknoanpgadecbaaGreatDoor
open Go.RowKit

structure Upd where
 ref : Int
 old : Int
 new : Int
 deriving DecidableEq

structure Rc where
 kind : Int
 txn : Int
 ups : List Upd
 deriving DecidableEq

def inR (n lo hi : Int) : Bool := decide (lo ≤ n) && decide (n ≤ hi)

theorem inR_iff {n lo hi : Int} : inR n lo hi = true ↔ lo ≤ n ∧ n ≤ hi := by simp [inR]

def updOk (u : Upd) : Bool := inR u.ref 0 3 && inR u.old (-1) 990 && inR u.new (-1) 990 && !(u.old == u.new)

def updAt (us : List Upd) (i : Nat) : Bool :=
 match us[i]? with
 | some u => updOk u && (match i with | 0 => true | j + 1 => match us[j]? with | some t => decide (t.ref < u.ref) | none => true)
 | none => true

def updsTo (us : List Upd) : Nat → Bool
 | 0 => true
 | k + 1 => updsTo us k && updAt us k

def updsOk (us : List Upd) : Bool := updsTo us us.length && decide (0 < us.length)

theorem updsTo_false {us : List Upd} {k : Nat} (h : updAt us k = false) : ∀ n, k < n → updsTo us n = false := by
 intro n
 induction n with
 | zero => omega
 | succ n ih =>
  intro hk
  by_cases e : k = n
  ·subst e; simp [updsTo, h]
  ·simp [updsTo, ih (by omega)]

theorem updsTo_at {us : List Upd} {n : Nat} (h : updsTo us n = true) : ∀ k, k < n → updAt us k = true := by
 intro k hk
 cases hu : updAt us k with
 | true => rfl
 | false => rw [updsTo_false hu n hk] at h; exact h

theorem updsOk_ref {us : List Upd} (h : updsOk us = true) : ∀ k (hk : k < us.length), 0 ≤ us[k].ref ∧ us[k].ref ≤ 3 := by
 intro k hk
 have := updsTo_at (us := us) (n := us.length) (by simp [updsOk] at h; exact h.1) k hk
 simp [updAt, List.getElem?_eq_getElem hk, updOk, inR] at this
 exact this.1.1.1.1

def askTo (rs : List Rc) (t : Int) : Nat → Int
 | 0 => 0
 | k + 1 => match rs[k]? with
  | some r => if r.txn = t then r.kind else askTo rs t k
  | none => askTo rs t k

def ask (rs : List Rc) (t : Int) : Int := askTo rs t rs.length

def upsOf : List Rc → Int → List Upd
 | [], _ => []
 | r :: rs, t => if r.txn = t ∧ r.kind = 1 then r.ups else upsOf rs t

def at4 (l : List Int) (i : Int) : Int := l.getD i.toNat 0

def fitsTo (refs : List Int) (us : List Upd) : Nat → Bool
 | 0 => true
 | k + 1 => fitsTo refs us k && (match us[k]? with | some u => at4 refs u.ref == u.old | none => true)
def fits (refs : List Int) (us : List Upd) : Bool := fitsTo refs us us.length

def setTo (refs : List Int) (us : List Upd) : Nat → List Int
 | 0 => refs
 | k + 1 => match us[k]? with | some u => (setTo refs us k).set u.ref.toNat u.new | none => setTo refs us k
def setAll (refs : List Int) (us : List Upd) : List Int := setTo refs us us.length

def freeTo (locks : List Int) (us : List Upd) : Nat → Bool
 | 0 => true
 | k + 1 => freeTo locks us k && (match us[k]? with | some u => at4 locks u.ref == -1 | none => true)
def isFree (locks : List Int) (us : List Upd) : Bool := freeTo locks us us.length

def takeTo (locks : List Int) (t : Int) (us : List Upd) : Nat → List Int
 | 0 => locks
 | k + 1 => match us[k]? with | some u => (takeTo locks t us k).set u.ref.toNat t | none => takeTo locks t us k
def takeAll (locks : List Int) (t : Int) (us : List Upd) : List Int := takeTo locks t us us.length

def freed (locks : List Int) (t : Int) : List Int := locks.map fun x => if x = t then -1 else x

structure St where
 refs : List Int
 locks : List Int
 deriving DecidableEq

def St.begin : St := ⟨[-1, -1, -1, -1], [-1, -1, -1, -1]⟩

def step (rs : List Rc) (s : St) (r : Rc) : Option St :=
 if r.kind = 1 then
  if ask rs r.txn ≠ 0 ∨ updsOk r.ups = false ∨ fits s.refs r.ups = false ∨ isFree s.locks r.ups = false then none
  else some ⟨s.refs, takeAll s.locks r.txn r.ups⟩
 else if r.kind = 2 then
  if ask rs r.txn ≠ 1 ∨ 0 < r.ups.length then none
  else some ⟨setAll s.refs (upsOf rs r.txn), freed s.locks r.txn⟩
 else if r.kind = 3 then
  if (ask rs r.txn ≠ 0 ∧ ask rs r.txn ≠ 1) ∨ 0 < r.ups.length then none
  else some ⟨s.refs, freed s.locks r.txn⟩
 else none

def recTo (rs : List Rc) : Nat → Option St
 | 0 => some St.begin
 | k + 1 => match recTo rs k, rs[k]? with
  | some s, some r => if inR r.txn 0 11 then step (rs.take k) s r else none
  | _, _ => none

def recover (rs : List Rc) : Option St := recTo rs rs.length

def valid (rs : List Rc) : Bool := (recover rs).isSome && decide (rs.length ≤ 30)

structure Pt where
 shard : Int
 ups : List Upd
 deriving DecidableEq

structure Tn where
 parts : List Pt
 votes : List Int
 dec : Int
 deriving DecidableEq

structure Co where
 txns : List Tn
 order : List Int
 deriving DecidableEq

structure Msg where
 kind : Int
 txn : Int
 shard : Int
 yes : Bool
 deriving DecidableEq

structure Wd where
 co : Co
 shards : List (List Rc)
 net : List Msg

def partAt (ps : List Pt) (i : Nat) : Bool :=
 match ps[i]? with
 | some p => inR p.shard 0 2 && updsOk p.ups && (match i with | 0 => true | j + 1 => match ps[j]? with | some q => decide (q.shard < p.shard) | none => true)
 | none => true

def partsTo (ps : List Pt) : Nat → Bool
 | 0 => true
 | k + 1 => partsTo ps k && partAt ps k

def partsOk (ps : List Pt) : Bool := partsTo ps ps.length && decide (0 < ps.length)

theorem partsTo_false {ps : List Pt} {k : Nat} (h : partAt ps k = false) : ∀ n, k < n → partsTo ps n = false := by
 intro n
 induction n with
 | zero => omega
 | succ n ih =>
  intro hk
  by_cases e : k = n
  ·subst e; simp [partsTo, h]
  ·simp [partsTo, ih (by omega)]

theorem partsTo_at {ps : List Pt} {n : Nat} (h : partsTo ps n = true) : ∀ k, k < n → partAt ps k = true := by
 intro k hk
 cases hu : partAt ps k with
 | true => rfl
 | false => rw [partsTo_false hu n hk] at h; exact h

theorem partsOk_false {ps : List Pt} {k : Nat} (hk : k < ps.length) (h : partAt ps k = false) : partsOk ps = false := by
 simp [partsOk, partsTo_false h _ hk]

theorem partsOk_true {ps : List Pt} (h : partsTo ps ps.length = true) : partsOk ps = decide (0 < ps.length) := by simp [partsOk, h]

theorem partsOk_at {ps : List Pt} (h : partsOk ps = true) {k : Nat} (hk : k < ps.length) : 0 ≤ ps[k].shard ∧ ps[k].shard ≤ 2 ∧ updsOk ps[k].ups = true := by
 have := partsTo_at (ps := ps) (n := ps.length) (by simp [partsOk] at h; exact h.1) k hk
 simp [partAt, List.getElem?_eq_getElem hk, inR] at this
 exact ⟨this.1.1.1, this.1.1.2, this.1.2⟩

def decOk (t : Tn) : Bool :=
 if t.dec = 0 then decide (t.votes.count (-1) = 0) && decide (t.votes.count 1 < t.votes.length)
 else if t.dec = 2 then decide (t.votes.count 1 = t.votes.length)
 else if t.dec = 3 then decide (t.votes.count 1 < t.votes.length)
 else false

def votesIn (vs : List Int) : Bool := vs.all (fun x => inR x (-1) 1)

def tnOk (t : Tn) : Bool := votesIn t.votes && partsOk t.parts && (t.votes.length == t.parts.length) && decOk t

def coAt (c : Co) (i : Nat) : Bool :=
 match c.txns[i]? with
 | some t => tnOk t && ((t.dec == 2) == c.order.contains (i : Int))
 | none => true

def coTo (c : Co) : Nat → Bool
 | 0 => true
 | k + 1 => coTo c k && coAt c k

def comm (c : Co) (k : Nat) : Nat := (c.txns.take k).countP (fun t => t.dec == 2)

def coOk (c : Co) : Bool := coTo c c.txns.length && decide (c.txns.length ≤ 12) && decide (c.order.length = comm c c.txns.length)

theorem coTo_false {c : Co} {k : Nat} (h : coAt c k = false) : ∀ n, k < n → coTo c n = false := by
 intro n
 induction n with
 | zero => omega
 | succ n ih =>
  intro hk
  by_cases e : k = n
  ·subst e; simp [coTo, h]
  ·simp [coTo, ih (by omega)]

theorem coTo_at {c : Co} {n : Nat} (h : coTo c n = true) : ∀ k, k < n → coAt c k = true := by
 intro k hk
 cases hu : coAt c k with
 | true => rfl
 | false => rw [coTo_false hu n hk] at h; exact h

theorem coOk_false {c : Co} {k : Nat} (hk : k < c.txns.length) (h : coAt c k = false) : coOk c = false := by
 simp [coOk, coTo_false h _ hk]

theorem coOk_true {c : Co} (h : coTo c c.txns.length = true) : coOk c = (decide (c.txns.length ≤ 12) && decide (c.order.length = comm c c.txns.length)) := by simp [coOk, h]

theorem comm_succ {c : Co} {k : Nat} (h : k < c.txns.length) : comm c (k + 1) = comm c k + (if c.txns[k].dec == 2 then 1 else 0) := by
 unfold comm
 rw [List.take_succ_eq_append_getElem h, List.countP_append]
 simp [List.countP_cons]

theorem comm_le (c : Co) (k : Nat) : comm c k ≤ k := Nat.le_trans (List.countP_le_length) (by simp; omega)

theorem coOk_txn {c : Co} (h : coOk c = true) {k : Nat} (hk : k < c.txns.length) : tnOk c.txns[k] = true := by
 have := coTo_at (c := c) (n := c.txns.length) (by simp [coOk] at h; exact h.1.1) k hk
 simp [coAt, List.getElem?_eq_getElem hk] at this
 exact this.1

theorem tnOk_len {t : Tn} (h : tnOk t = true) : t.votes.length = t.parts.length ∧ partsOk t.parts = true := by
 simp [tnOk] at h
 exact ⟨h.1.2, h.1.1.2⟩

def PtI (p : Pt) : Prop := 0 ≤ p.shard ∧ p.shard ≤ 2 ∧ p.ups.length ≤ 8
def TnI (t : Tn) : Prop := (∀ p ∈ t.parts, PtI p) ∧ t.parts.length ≤ 1000 ∧ t.votes.length ≤ 1000 ∧ ∀ v ∈ t.votes, -1000 ≤ v ∧ v ≤ 1000
def CoI (c : Co) : Prop := (∀ t ∈ c.txns, TnI t) ∧ c.txns.length ≤ 12 ∧ c.order.length ≤ 1000

def partOf (ps : List Pt) (k : Int) : Int := if ps.findIdx (fun p => p.shard == k) < ps.length then (ps.findIdx (fun p => p.shard == k) : Int) else -1

theorem partOf_at {ps : List Pt} {k : Int} {j : Nat} (hj : j < ps.length) (h1 : ∀ i (hi : i < ps.length), i < j → ps[i].shard ≠ k) (h2 : ps[j].shard = k) : partOf ps k = (j : Int) := by
 have e : ps.findIdx (fun p => p.shard == k) = j := by
  rw [List.findIdx_eq hj]
  refine ⟨by simp [h2], fun i hi => ?_⟩
  have := h1 i (by omega) hi
  simp [this]
 unfold partOf
 rw [e, if_pos hj]

theorem partOf_none {ps : List Pt} {k : Int} (h : ∀ i (hi : i < ps.length), ps[i].shard ≠ k) : partOf ps k = -1 := by
 unfold partOf
 rw [if_neg]
 intro hl
 have := List.findIdx_getElem (w := hl)
 have h2 := h _ hl
 simp at this
 exact h2 this

theorem partOf_cases (ps : List Pt) (k : Int) : partOf ps k = -1 ∨ ∃ j, j < ps.length ∧ partOf ps k = (j : Int) := by
 unfold partOf
 split
 ·rename_i h
  exact .inr ⟨_, h, rfl⟩
 ·exact .inl rfl

end Go.Proofs.YtknoanpgadecbaaGreatDoor
