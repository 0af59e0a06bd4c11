/- What the program's history of a shard knows, in plain Lean: the last record of each transaction; one step of the program; that it is the reference's. -/
import Derived.Test.YtknoanpgadecbaaGreatDoorQM3
set_option linter.unusedVariables false
set_option linter.unusedSimpArgs false
namespace Go.Proofs.YtknoanpgadecbaaGreatDoor
open Go.RowKit
set_option linter.unusedVariables false

def lastTo (rs : List Rc) (t : Int) : Nat → Option Rc
 | 0 => none
 | k + 1 => match rs[k]? with
  | some r => if r.txn = t then some r else lastTo rs t k
  | none => lastTo rs t k

def istepO (o : Option Rc) (s : St) (r : Rc) : Option St :=
 if inR r.txn 0 11 = false then none
 else if r.kind = 1 then
  if o.isSome = true ∨ updsOk r.ups = false ∨ fits s.refs r.ups = false ∨ isFree s.locks r.ups = false then none
  else some ⟨s.refs, takeAll s.locks r.txn r.ups⟩
 else if r.kind = 2 ∧ r.ups.length = 0 then
  match o with
  | some x => if x.kind = 1 then some ⟨setAll s.refs x.ups, freed s.locks r.txn⟩ else none
  | none => none
 else if r.kind = 3 ∧ r.ups.length = 0 then
  match o with
  | some x => if x.kind = 1 then some ⟨s.refs, freed s.locks r.txn⟩ else none
  | none => some ⟨s.refs, freed s.locks r.txn⟩
 else none

def NoLock (o : Option Rc) (s : St) (r : Rc) : Prop :=
 inR r.txn 0 11 = true → r.kind = 1 → o = none → updsOk r.ups = true → fits s.refs r.ups = true → isFree s.locks r.ups = true

theorem lastTo_succ {rs : List Rc} {t : Int} {k : Nat} (h : k < rs.length) : lastTo rs t (k + 1) = if rs[k].txn = t then some rs[k] else lastTo rs t k := by
 simp [lastTo, List.getElem?_eq_getElem h]

theorem upsOf_none {l : List Rc} {t : Int} (h : ∀ x ∈ l, ¬ (x.txn = t ∧ x.kind = 1)) (m : List Rc) : upsOf (l ++ m) t = upsOf m t := by
 induction l with
 | nil => rfl
 | cons x l ih =>
  show (if x.txn = t ∧ x.kind = 1 then x.ups else upsOf (l ++ m) t) = _
  rw [if_neg (h x (by simp)), ih fun y hy => h y (by simp [hy])]

theorem upsOf_last {l : List Rc} {t : Int} {r : Rc} (h : ¬ (r.txn = t ∧ r.kind = 1)) : upsOf (l ++ [r]) t = upsOf l t := by
 induction l with
 | nil => show (if r.txn = t ∧ r.kind = 1 then r.ups else []) = []; rw [if_neg h]
 | cons x l ih =>
  show (if x.txn = t ∧ x.kind = 1 then x.ups else upsOf (l ++ [r]) t) = (if x.txn = t ∧ x.kind = 1 then x.ups else upsOf l t)
  rw [ih]

theorem ask_take {rs : List Rc} {t : Int} {k : Nat} (hk : k ≤ rs.length) : ask (rs.take k) t = askTo rs t k := by
 unfold ask
 rw [List.length_take, Nat.min_eq_left hk]
 have : ∀ n, n ≤ k → askTo (rs.take k) t n = askTo rs t n := by
  intro n
  induction n with
  | zero => intro _; rfl
  | succ n ih =>
   intro hn
   have h1 : n < rs.length := by omega
   have h2 : n < (rs.take k).length := by rw [List.length_take]; omega
   simp only [askTo, List.getElem?_eq_getElem h1, List.getElem?_eq_getElem h2, List.getElem_take]
   rw [ih (by omega)]
 exact this k (Nat.le_refl _)

theorem step_kind {rs : List Rc} {s s' : St} {r : Rc} (h : step rs s r = some s') : r.kind = 1 ∨ r.kind = 2 ∨ r.kind = 3 := by
 unfold step at h
 split at h
 ·left; assumption
 ·split at h
  ·right; left; assumption
  ·split at h
   ·right; right; assumption
   ·cases h

theorem step_one {rs : List Rc} {s s' : St} {r : Rc} (h : step rs s r = some s') (hk : r.kind = 1) : ask rs r.txn = 0 := by
 unfold step at h
 rw [if_pos hk] at h
 split at h
 ·cases h
 ·rename_i hn
  exact Classical.byContradiction fun e => hn (.inl e)

theorem last_inv {rs : List Rc} {k : Nat} {s : St} (hs : recTo rs k = some s) (hk : k ≤ rs.length) (t : Int) :
  (lastTo rs t k = none → (∀ x ∈ rs.take k, x.txn ≠ t) ∧ ask (rs.take k) t = 0) ∧
  (∀ x, lastTo rs t k = some x → ask (rs.take k) t = x.kind ∧ x.txn = t ∧ x ∈ rs ∧ (x.kind = 1 ∨ x.kind = 2 ∨ x.kind = 3) ∧ (x.kind = 1 → upsOf (rs.take k) t = x.ups)) := by
 induction k generalizing s with
 | zero => exact ⟨fun _ => ⟨by simp, rfl⟩, fun x hx => (by cases hx)⟩
 | succ k ih =>
  have hlt : k < rs.length := by omega
  cases hp : recTo rs k with
  | none => rw [recTo_none hp (k + 1) (by omega)] at hs; cases hs
  | some s0 =>
   obtain ⟨i1, i2⟩ := ih hp (by omega)
   rw [recTo_succ hp hlt] at hs
   split at hs
   ·have hkd := step_kind hs
    rw [lastTo_succ hlt, ask_take hk, askTo_succ hlt, List.take_succ_eq_append_getElem hlt]
    rw [ask_take (Nat.le_of_lt hlt)] at i1 i2
    by_cases ht : rs[k].txn = t
    ·simp only [if_pos ht]
     refine ⟨fun h => (by cases h), fun x hx => ?_⟩
     cases hx
     refine ⟨rfl, ht, List.getElem_mem _, hkd, fun h1 => ?_⟩
     have ha := step_one hs h1
     rw [ht, ask_take (Nat.le_of_lt hlt)] at ha
     have hn : lastTo rs t k = none := by
      cases hl : lastTo rs t k with
      | none => rfl
      | some y => obtain ⟨e1, _, _, e2, _⟩ := i2 y hl; omega
     rw [upsOf_none fun x hx hxx => (i1 hn).1 x hx hxx.1]
     show (if rs[k].txn = t ∧ rs[k].kind = 1 then rs[k].ups else []) = rs[k].ups
     rw [if_pos ⟨ht, h1⟩]
    ·simp only [if_neg ht]
     refine ⟨fun h => ⟨fun x hx => ?_, (i1 h).2⟩, fun x hx => ?_⟩
     ·rcases List.mem_append.1 hx with hx | hx
      ·exact (i1 h).1 x hx
      ·simp at hx; subst hx; exact ht
     ·obtain ⟨e1, e2, e3, e4, e5⟩ := i2 x hx
      exact ⟨e1, e2, e3, e4, fun h1 => by rw [upsOf_last (fun h => ht h.1)]; exact e5 h1⟩
   ·cases hs

theorem istep_eq {rs : List Rc} {k : Nat} {s : St} (hs : recTo rs k = some s) (hk : k ≤ rs.length) (r : Rc) :
  istepO (lastTo rs r.txn k) s r = if inR r.txn 0 11 then step (rs.take k) s r else none := by
 have hi := last_inv hs hk r.txn
 revert hi
 generalize lastTo rs r.txn k = o
 intro ⟨i1, i2⟩
 unfold istepO step
 cases hin : inR r.txn 0 11
 ·simp
 ·simp only [Bool.true_eq_false, if_false, if_true]
  cases o with
  | none =>
   have ha := (i1 rfl).2
   simp only [ha]
   by_cases k1 : r.kind = 1
   ·simp [k1]
   ·by_cases k2 : r.kind = 2
    ·simp [k2]
    ·by_cases k3 : r.kind = 3
     ·simp only [k3]
      by_cases hu : r.ups.length = 0
      ·simp [hu]
      ·have : 0 < r.ups.length := by omega
       simp [hu, this]
     ·simp [k1, k2, k3]
  | some x =>
   obtain ⟨e1, e2, e3, e4, e5⟩ := i2 x rfl
   simp only [e1]
   by_cases k1 : r.kind = 1
   ·have : x.kind ≠ 0 := by omega
    simp [k1, this]
   ·by_cases k2 : r.kind = 2
    ·by_cases hu : r.ups.length = 0
     ·by_cases hx : x.kind = 1
      ·simp [k2, hu, hx, e5 hx]
      ·simp [k2, hu, hx]
     ·have : 0 < r.ups.length := by omega
      simp [k2, hu, this]
    ·by_cases k3 : r.kind = 3
     ·by_cases hu : r.ups.length = 0
      ·by_cases hx : x.kind = 1
       ·simp [k3, hu, hx]
       ·have : x.kind ≠ 0 := by omega
        simp [k3, hu, hx, this]
      ·have : 0 < r.ups.length := by omega
       simp [k3, hu, this]
     ·simp [k1, k2, k3]

def NC (rs : List Rc) : Prop := ∀ k (hk : k < rs.length) s, recTo rs k = some s → NoLock (lastTo rs rs[k].txn k) s rs[k]

theorem NC_of_recover {rs : List Rc} {s : St} (h : recover rs = some s) : NC rs := by
 intro k hk s0 hs0 h1 h2 h3 h4 h5
 cases hn : recTo rs (k + 1) with
 | none => rw [show recover rs = none from recTo_none hn _ hk] at h; cases h
 | some s1 =>
  rw [recTo_succ hs0 hk, if_pos h1] at hn
  unfold step at hn
  rw [if_pos h2] at hn
  split at hn
  ·cases hn
  ·rename_i hh
   cases hf : isFree s0.locks rs[k].ups with
   | true => rfl
   | false => exact absurd (.inr (.inr (.inr hf))) hh

theorem NC_of_valid {rs : List Rc} (h : valid rs = true) : NC rs := by
 unfold valid at h
 cases hr : recover rs with
 | none => rw [hr] at h; simp at h
 | some s => exact NC_of_recover hr

theorem valid_rec {rs : List Rc} (h : valid rs = true) : ∃ s, recover rs = some s := by
 unfold valid at h
 cases hr : recover rs with
 | none => rw [hr] at h; simp at h
 | some s => exact ⟨s, rfl⟩

theorem recTo_append (rs : List Rc) (r : Rc) (k : Nat) (hk : k ≤ rs.length) : recTo (rs ++ [r]) k = recTo rs k := by
 induction k with
 | zero => rfl
 | succ k ih =>
  have h1 : k < rs.length := by omega
  have h2 : k < (rs ++ [r]).length := by simp; omega
  simp only [recTo, ih (by omega), List.getElem?_eq_getElem h1, List.getElem?_eq_getElem h2, List.getElem_append_left h1]
  rw [List.take_append_of_le_length (by omega)]

theorem lastTo_append (rs : List Rc) (r : Rc) (t : Int) (k : Nat) (hk : k ≤ rs.length) : lastTo (rs ++ [r]) t k = lastTo rs t k := by
 induction k with
 | zero => rfl
 | succ k ih =>
  have h1 : k < rs.length := by omega
  have h2 : k < (rs ++ [r]).length := by simp; omega
  simp only [lastTo, ih (by omega), List.getElem?_eq_getElem h1, List.getElem?_eq_getElem h2, List.getElem_append_left h1]

theorem NC.snoc {rs : List Rc} (h : NC rs) {r : Rc} (hr : ∀ s, recover rs = some s → NoLock (lastTo rs r.txn rs.length) s r) : NC (rs ++ [r]) := by
 intro k hk s hs
 by_cases hlt : k < rs.length
 ·rw [recTo_append rs r k (Nat.le_of_lt hlt)] at hs
  have := h k hlt s hs
  rw [List.getElem_append_left hlt, lastTo_append rs r _ k (Nat.le_of_lt hlt)]
  exact this
 ·obtain rfl : k = rs.length := by simp at hk; omega
  rw [recTo_append rs r _ (Nat.le_refl _)] at hs
  rw [List.getElem_concat_length rfl, lastTo_append rs r _ _ (Nat.le_refl _)]
  exact hr s hs

theorem NoLock.of_nil {o : Option Rc} {s : St} {r : Rc} (h : r.ups = []) : NoLock o s r := by
 intro _ _ _ h4
 rw [h] at h4
 simp [updsOk] at h4

theorem at4_set {l : List Int} {i j v : Int} (hi : 0 ≤ i) (hj : 0 ≤ j) : at4 (l.set i.toNat v) j = if i = j ∧ i.toNat < l.length then v else at4 l j := by
 unfold at4
 rw [List.getD_eq_getElem?_getD, List.getD_eq_getElem?_getD, List.getElem?_set]
 by_cases e : i = j
 ·subst e
  by_cases hl : i.toNat < l.length
  ·simp [hl]
  ·simp [hl]
 ·have : i.toNat ≠ j.toNat := by omega
  simp [this, e]

def Less (a b : List Int) : Prop := a.length = b.length ∧ ∀ i : Nat, a.getD i 0 = b.getD i 0 ∨ a.getD i 0 = -1

theorem Less.free {a b : List Int} (h : Less a b) {us : List Upd} (hb : isFree b us = true) : isFree a us = true := by
 unfold isFree at hb ⊢
 have : ∀ n, freeTo b us n = true → freeTo a us n = true := by
  intro n
  induction n with
  | zero => intro _; rfl
  | succ n ih =>
   intro hh
   simp only [freeTo, Bool.and_eq_true] at hh ⊢
   refine ⟨ih hh.1, ?_⟩
   cases hu : us[n]? with
   | none => rfl
   | some u =>
    have := hh.2
    rw [hu] at this
    simp only [beq_iff_eq] at this ⊢
    unfold at4 at this ⊢
    rcases h.2 u.ref.toNat with e | e
    ·rw [e]; exact this
    ·exact e
 exact this _ hb

theorem Less.set {a b : List Int} (h : Less a b) (i : Nat) (v : Int) : Less (a.set i v) (b.set i v) := by
 refine ⟨by simp [h.1], fun j => ?_⟩
 simp only [List.getD_eq_getElem?_getD, List.getElem?_set]
 by_cases e : i = j
 ·subst e
  rw [h.1]
  by_cases hl : i < b.length
  ·simp [hl]
  ·simp [hl]
 ·have := h.2 j
  simp only [List.getD_eq_getElem?_getD] at this
  simpa [e] using this

theorem Less.take {a b : List Int} (h : Less a b) (t : Int) (us : List Upd) : Less (takeAll a t us) (takeAll b t us) := by
 unfold takeAll
 have : ∀ n, Less (takeTo a t us n) (takeTo b t us n) := by
  intro n
  induction n with
  | zero => exact h
  | succ n ih =>
   simp only [takeTo]
   cases us[n]? with
   | none => exact ih
   | some u => exact ih.set _ _
 exact this _

theorem Less.freed {a b : List Int} (h : Less a b) (t : Int) : Less (freed a t) (freed b t) := by
 refine ⟨by simp [Proofs.YtknoanpgadecbaaGreatDoor.freed, h.1], fun j => ?_⟩
 unfold Proofs.YtknoanpgadecbaaGreatDoor.freed
 simp only [List.getD_eq_getElem?_getD, List.getElem?_map]
 have h2 := h.2 j
 simp only [List.getD_eq_getElem?_getD] at h2
 by_cases hl : j < b.length
 ·have hl' : j < a.length := by rw [h.1]; exact hl
  simp only [List.getElem?_eq_getElem hl, List.getElem?_eq_getElem hl', Option.getD_some, Option.map_some] at h2 ⊢
  rcases h2 with e | e
  ·left; rw [e]
  ·right; rw [e]; split <;> rfl
 ·have hl' : ¬ j < a.length := by rw [h.1]; exact hl
  left
  simp [List.getElem?_eq_none (Nat.le_of_not_lt hl), List.getElem?_eq_none (Nat.le_of_not_lt hl')]

theorem step_locks {rs rs' : List Rc} {a b a' b' : St} {r : Rc} (h : Less a.locks b.locks) (ha : step rs a r = some a') (hb : step rs' b r = some b') : Less a'.locks b'.locks := by
 unfold step at ha hb
 by_cases k1 : r.kind = 1
 ·rw [if_pos k1] at ha hb
  split at ha
  ·cases ha
  ·split at hb
   ·cases hb
   ·cases ha; cases hb; exact h.take _ _
 ·rw [if_neg k1] at ha hb
  by_cases k2 : r.kind = 2
  ·rw [if_pos k2] at ha hb
   split at ha
   ·cases ha
   ·split at hb
    ·cases hb
    ·cases ha; cases hb; exact h.freed _
  ·rw [if_neg k2] at ha hb
   by_cases k3 : r.kind = 3
   ·rw [if_pos k3] at ha hb
    split at ha
    ·cases ha
    ·split at hb
     ·cases hb
     ·cases ha; cases hb; exact h.freed _
   ·rw [if_neg k3] at ha; cases ha

theorem NC_tail {r0 : Rc} {rs : List Rc} {s : St} (h : recover (r0 :: rs) = some s) : NC rs := by
 have full : ∀ k, k ≤ rs.length → ∃ S, recTo (r0 :: rs) (k + 1) = some S := by
  intro k hk
  cases hn : recTo (r0 :: rs) (k + 1) with
  | none => rw [show recover (r0 :: rs) = none from recTo_none hn _ (by simp; omega)] at h; cases h
  | some S => exact ⟨S, rfl⟩
 have rel : ∀ k T S, k ≤ rs.length → recTo rs k = some T → recTo (r0 :: rs) (k + 1) = some S → Less T.locks S.locks := by
  intro k
  induction k with
  | zero =>
   intro T S _ hT hS
   cases hT
   have h4 := (recTo_len hS).2
   refine ⟨by rw [h4]; rfl, fun i => ?_⟩
   by_cases hi : i < 4
   ·right
    match i, hi with
    | 0, _ => rfl
    | 1, _ => rfl
    | 2, _ => rfl
    | 3, _ => rfl
   ·left
    have e1 : St.begin.locks[i]? = none := List.getElem?_eq_none (by show 4 ≤ i; omega)
    have e2 : S.locks[i]? = none := List.getElem?_eq_none (by omega)
    rw [List.getD_eq_getElem?_getD, List.getD_eq_getElem?_getD, e1, e2]
  | succ k ih =>
   intro T S hk hT hS
   have hlt : k < rs.length := by omega
   cases hp : recTo rs k with
   | none => rw [recTo_none hp (k + 1) (by omega)] at hT; cases hT
   | some T0 =>
    obtain ⟨S0, hS0⟩ := full k (by omega)
    have hl := ih T0 S0 (by omega) hp hS0
    rw [recTo_succ hp hlt] at hT
    rw [recTo_succ hS0 (by simp; omega)] at hS
    simp only [List.getElem_cons_succ] at hS
    split at hT
    ·rename_i hin
     rw [if_pos hin] at hS
     exact step_locks hl hT hS
    ·cases hT
 intro k hk T hT h1 h2 h3 h4 h5
 obtain ⟨S, hS⟩ := full k (by omega)
 refine (rel k T S (by omega) hT hS).free ?_
 obtain ⟨S1, hS1⟩ := full (k + 1) hk
 rw [recTo_succ hS (by simp; omega)] at hS1
 simp only [List.getElem_cons_succ] at hS1
 rw [if_pos h1] at hS1
 unfold step at hS1
 rw [if_pos h2] at hS1
 split at hS1
 ·cases hS1
 ·rename_i hh
  cases hf : isFree S.locks rs[k].ups with
  | true => rfl
  | false => exact absurd (.inr (.inr (.inr hf))) hh

theorem last_ask {rs : List Rc} {s : St} (hs : recover rs = some s) (t : Int) : (match lastTo rs t rs.length with | some x => x.kind | none => 0) = ask rs t := by
 obtain ⟨i1, i2⟩ := last_inv (k := rs.length) hs (Nat.le_refl _) t
 rw [List.take_length] at i1 i2
 cases hl : lastTo rs t rs.length with
 | none => exact (i1 hl).2.symm
 | some x => exact (i2 x hl).1.symm

end Go.Proofs.YtknoanpgadecbaaGreatDoor
