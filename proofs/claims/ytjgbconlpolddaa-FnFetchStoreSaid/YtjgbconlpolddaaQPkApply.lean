/- Deltas applied, packs read back: plain functions and laws. -/
import Derived.Test.YtjgbconlpolddaaQM3
set_option linter.unusedVariables false
set_option linter.unusedSimpArgs false
namespace Go.Proofs.Ytjgbconlpolddaa
open Go.RowKit
set_option linter.unusedVariables false

/-- Whether an operation fits a base. -/
def opOk (b : Tx) (o : Opn) : Bool :=
  if o.size = 0 then decide (o.pos = 0) && inR o.text.length 1 8
  else decide (o.text = []) && inR o.size 1 b.length && inR o.pos 0 ((b.length : Int) - o.size)

/-- What it makes. -/
def opPart (b : Tx) (o : Opn) : Tx := if o.size = 0 then o.text else (b.drop o.pos.toNat).take o.size.toNat

def dappTo (b : Tx) (ops : List Opn) : Nat → Option Tx
  | 0 => some []
  | k + 1 => match dappTo b ops k, ops[k]? with
    | some t, some o => if opOk b o = true ∧ t.length + (opPart b o).length ≤ 8 then some (t ++ opPart b o) else none
    | r, _ => r

/-- What operations make of a base. -/
def dapp (b : Tx) (ops : List Opn) : Option Tx := if b.length ≤ 8 ∧ ops.length ≤ 8 then dappTo b ops ops.length else none

theorem dappTo_succ {b t : Tx} {ops : List Opn} {k : Nat} (hk : k < ops.length) (h : dappTo b ops k = some t) :
    dappTo b ops (k + 1) = if opOk b ops[k] = true ∧ t.length + (opPart b ops[k]).length ≤ 8 then some (t ++ opPart b ops[k]) else none := by
  simp [dappTo, h, List.getElem?_eq_getElem hk]

theorem dappTo_none {b : Tx} {ops : List Opn} {k : Nat} (h : dappTo b ops k = none) : ∀ n, k ≤ n → dappTo b ops n = none := by
  intro n
  induction n with
  | zero => intro hn; obtain rfl : k = 0 := by omega
            exact h
  | succ n ih =>
    intro hn
    by_cases e : k = n + 1
    · subst e; exact h
    · simp [dappTo, ih (by omega)]

theorem dappTo_all {b : Tx} {ops : List Opn} (hok : ∀ o ∈ ops, opOk b o = true) (hl : (ops.flatMap (opPart b)).length ≤ 8) : ∀ k, k ≤ ops.length → dappTo b ops k = some ((ops.take k).flatMap (opPart b)) := by
  intro k
  induction k with
  | zero => intro _; simp [dappTo]
  | succ k ih =>
    intro hk
    have hk' : k < ops.length := by omega
    rw [dappTo_succ hk' (ih (by omega))]
    have e1 : ops.take (k + 1) = ops.take k ++ [ops[k]] := by rw [List.take_add_one, List.getElem?_eq_getElem hk']; rfl
    have e2 : ops = ops.take (k + 1) ++ ops.drop (k + 1) := (List.take_append_drop _ _).symm
    have e3 : ((ops.take (k + 1)).flatMap (opPart b)).length ≤ 8 := by
      rw [e2, List.flatMap_append, List.length_append] at hl
      omega
    rw [e1, List.flatMap_append, List.flatMap_singleton]
    rw [e1, List.flatMap_append, List.flatMap_singleton, List.length_append] at e3
    rw [if_pos ⟨hok _ (List.getElem_mem hk'), e3⟩]

/-- The operations so far make the text up to what is left. -/
def DA (b t : Tx) (ops : List Opn) (l : Tx) : Prop := (∀ o ∈ ops, opOk b o = true) ∧ ops.flatMap (opPart b) ++ l = t

theorem pre_take : ∀ (a t : Tx), a.take (pre a t) = t.take (pre a t)
  | [], t => by simp [pre]
  | x :: a, [] => by simp [pre]
  | x :: a, y :: t => by
    unfold pre
    split
    · rename_i e; subst e; simp [pre_take a t]
    · simp

theorem DA.step {b t l : Tx} {ops : List Opn} (h : DA b t ops l) (hl : l ≠ []) (ht : t.length ≤ 8) : DA b t (dstep b l ops).1 (dstep b l ops).2 := by
  obtain ⟨h1, h2⟩ := h
  obtain ⟨x, l', rfl⟩ : ∃ x l', l = x :: l' := by cases l with | nil => exact absurd rfl hl | cons x l' => exact ⟨x, l', rfl⟩
  by_cases hb : 2 ≤ (best b (x :: l')).2
  · rw [dstep_one hb]
    rcases (bestTo_spec b (x :: l') b.length).2 with h0 | ⟨h0, h3, h4, _⟩
    · unfold best at hb; rw [h0] at hb; simp at hb
    · unfold best at hb ⊢
      generalize bestTo b (x :: l') b.length = q at *
      have e1 := pre_take (b.drop q.1) (x :: l')
      rw [h4] at e1
      have e2 := pre_le_left (b.drop q.1) (x :: l')
      rw [h4, List.length_drop] at e2
      refine ⟨fun o ho => ?_, ?_⟩
      · rcases List.mem_append.1 ho with ho | ho
        · exact h1 o ho
        · simp at ho; subst ho
          have hs : ¬ (q.2 : Int) = 0 := by omega
          unfold opOk
          rw [if_neg hs]
          simp [inR]
          omega
      · have hs : ¬ (q.2 : Int) = 0 := by omega
        rw [List.flatMap_append, List.flatMap_singleton]
        have hp : opPart b ⟨(q.1 : Int), (q.2 : Int), []⟩ = (x :: l').take q.2 := by
          unfold opPart
          rw [if_neg hs]
          simpa using e1
        rw [hp, List.append_assoc, List.take_append_drop]
        exact h2
  · rcases List.eq_nil_or_concat ops with rfl | ⟨init, o, rfl⟩
    · rw [dstep_three hb (fun init o e => by simp at e)]
      refine ⟨fun o ho => ?_, by simpa [opPart] using h2⟩
      simp at ho; subst ho; simp [opOk, inR]
    · rw [List.concat_eq_append] at h1 h2 ⊢
      by_cases h0 : o.size = 0
      · rw [dstep_two hb h0]
        have ho := h1 o (by simp)
        have hlen : (o.text ++ x :: l').length ≤ 8 := by
          rw [List.flatMap_append, List.flatMap_singleton, List.append_assoc] at h2
          have hp : opPart b o = o.text := by unfold opPart; rw [if_pos h0]
          rw [hp] at h2
          have := congrArg List.length h2
          rw [List.length_append] at this
          omega
        refine ⟨fun z hz => ?_, ?_⟩
        · rcases List.mem_append.1 hz with hz | hz
          · exact h1 z (List.mem_append_left _ hz)
          · simp at hz; subst hz
            unfold opOk at ho ⊢
            rw [if_pos h0] at ho
            simp [inR] at ho hlen ⊢
            omega
        · rw [← h2]
          simp [opPart, h0]
      · rw [dstep_three hb (fun i z e => by
          have := List.append_inj' e rfl
          simp at this
          rw [← this.2]; exact h0)]
        refine ⟨fun z hz => ?_, ?_⟩
        · rcases List.mem_append.1 hz with hz | hz
          · exact h1 z hz
          · simp at hz; subst hz; simp [opOk, inR]
        · rw [← h2, List.flatMap_append, List.flatMap_singleton]
          simp [opPart]

theorem DA.run {b t : Tx} (ht : t.length ≤ 8) : ∀ (n : Nat) (l : Tx) (ops : List Opn), l.length ≤ n → DA b t ops l → DA b t (dmake b n l ops) [] := by
  intro n
  induction n with
  | zero =>
    intro l ops hl h
    obtain rfl : l = [] := List.eq_nil_of_length_eq_zero (by omega)
    exact h
  | succ n ih =>
    intro l ops hl h
    unfold dmake
    split
    · rename_i e; subst e; exact h
    · rename_i e
      have := (dstep_len (b := b) (t := l) (ops := ops) e).1
      exact ih _ _ (by omega) (h.step e ht)

/-- A delta, applied, makes its text. -/
theorem dapp_delta {b t : Tx} (hb : b.length ≤ 8) (ht : t.length ≤ 8) : dapp b (delta b t) = some t := by
  have h : DA b t (delta b t) [] := by
    unfold delta
    rw [if_pos ⟨hb, ht⟩]
    exact DA.run ht _ _ _ (Nat.le_refl _) ⟨fun o ho => (by cases ho), by simp⟩
  have h2 := h.2
  rw [List.append_nil] at h2
  unfold dapp
  rw [if_pos ⟨hb, (delta_le b t).1⟩, dappTo_all h.1 (by rw [h2]; exact ht) _ (Nat.le_refl _), List.take_length, h2]

/-- The objects of the first k entries, and their depths. -/
def poTo (es : List En) : Nat → Option (List Ob × List Nat)
  | 0 => some ([], [])
  | k + 1 => match poTo es k, es[k]? with
    | some r, some e => match dapp (baseT (r.1.map (·.text)) e.base) e.ops with
      | some t => if baseD r.2 e.base ≤ 2 ∧ obOk ⟨e.kind, e.links, t⟩ = true then some (r.1 ++ [⟨e.kind, e.links, t⟩], r.2 ++ [baseD r.2 e.base]) else none
      | none => none
    | r, _ => r

/-- The objects of a pack. -/
def unpack (es : List En) : Option (List Ob) := if es.length ≤ 16 ∧ linkOk es = true then (poTo es es.length).map (·.1) else none

end Go.Proofs.Ytjgbconlpolddaa
