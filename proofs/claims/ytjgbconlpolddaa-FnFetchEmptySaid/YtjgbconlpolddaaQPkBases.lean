/- A pack read back as the reference reads it: the bases first, then the objects. -/
import Derived.Test.YtjgbconlpolddaaQM5
set_option linter.unusedVariables false
set_option linter.unusedSimpArgs false
namespace Go.Proofs.Ytjgbconlpolddaa
open Go.RowKit
set_option linter.unusedVariables false

/-- The depths of the first k entries. -/
def depL (es : List En) : Nat → List Nat
  | 0 => []
  | k + 1 => match es[k]? with | some e => depL es k ++ [baseD (depL es k) e.base] | none => depL es k

/-- Whether the bases of the first k entries come earlier, and their depths are small. -/
def bsTo (es : List En) : Nat → Bool
  | 0 => true
  | k + 1 => bsTo es k && (match es[k]? with | some e => inR e.base (-1) ((k : Int) - 1) && decide (baseD (depL es k) e.base ≤ 2) | none => true)

/-- The objects of the first k entries, whatever the depths. -/
def objsTo (es : List En) : Nat → Option (List Ob)
  | 0 => some []
  | k + 1 => match objsTo es k, es[k]? with
    | some os, some e => match dapp (baseT (os.map (·.text)) e.base) e.ops with
      | some t => if obOk ⟨e.kind, e.links, t⟩ = true then some (os ++ [⟨e.kind, e.links, t⟩]) else none
      | none => none
    | r, _ => r

theorem depL_succ {es : List En} {k : Nat} (h : k < es.length) : depL es (k + 1) = depL es k ++ [baseD (depL es k) es[k].base] := by simp [depL, List.getElem?_eq_getElem h]
theorem bsTo_succ {es : List En} {k : Nat} (h : k < es.length) : bsTo es (k + 1) = (bsTo es k && (inR es[k].base (-1) ((k : Int) - 1) && decide (baseD (depL es k) es[k].base ≤ 2))) := by simp [bsTo, List.getElem?_eq_getElem h]
theorem linkTo_succ {es : List En} {k : Nat} (h : k < es.length) : linkTo es (k + 1) = (linkTo es k && inR es[k].base (-1) ((k : Int) - 1)) := by simp [linkTo, List.getElem?_eq_getElem h]
theorem objsTo_succ {es : List En} {k : Nat} {os : List Ob} (hk : k < es.length) (h : objsTo es k = some os) : objsTo es (k + 1) = match dapp (baseT (os.map (·.text)) es[k].base) es[k].ops with
      | some t => if obOk ⟨es[k].kind, es[k].links, t⟩ = true then some (os ++ [⟨es[k].kind, es[k].links, t⟩]) else none
      | none => none := by
  cases hD : dapp (baseT (os.map (·.text)) es[k].base) es[k].ops <;> simp [objsTo, h, List.getElem?_eq_getElem hk, hD]

theorem objsTo_none {es : List En} {k : Nat} (h : objsTo es k = none) : ∀ n, k ≤ n → objsTo es n = none := by
  intro n
  induction n with
  | zero =>
    intro hn
    obtain rfl : k = 0 := by omega
    exact h
  | succ n ih =>
    intro hn
    by_cases e : k = n + 1
    · subst e; exact h
    · simp [objsTo, ih (by omega)]

theorem depL_len {es : List En} : ∀ {k : Nat}, k ≤ es.length → (depL es k).length = k := by
  intro k
  induction k with
  | zero => intro _; rfl
  | succ k ih =>
    intro hk
    rw [depL_succ (by omega)]
    simp [ih (by omega)]

theorem bsTo_link {es : List En} : ∀ {k : Nat}, k ≤ es.length → bsTo es k = true → linkTo es k = true := by
  intro k
  induction k with
  | zero => intro _ _; rfl
  | succ k ih =>
    intro hk h
    rw [bsTo_succ (by omega), Bool.and_eq_true, Bool.and_eq_true] at h
    rw [linkTo_succ (by omega), ih (by omega) h.1, h.2.1]; rfl

theorem bsTo_false {es : List En} {k : Nat} (hk : k < es.length) (h : inR es[k].base (-1) ((k : Int) - 1) = false ∨ ¬ baseD (depL es k) es[k].base ≤ 2) : ∀ n, k < n → bsTo es n = false := by
  intro n
  induction n with
  | zero => omega
  | succ n ih =>
    intro hn
    by_cases e : k = n
    · subst e
      rw [bsTo_succ hk]
      rcases h with h | h
      · rw [h]; simp
      · rw [decide_eq_false h]; simp
    · show (bsTo es n && _) = false
      rw [ih (by omega)]; rfl

/-- The depth of entry k, by the bases. -/
theorem depL_dep {es : List En} : ∀ {k : Nat}, k ≤ es.length → linkTo es k = true → ∀ j, j < k → DepE (es.map (·.base)) ((depL es k).getD j 0) j := by
  intro k
  induction k with
  | zero => intro _ _ j hj; omega
  | succ k ih =>
    intro hk h j hj
    have hk' : k < es.length := by omega
    rw [linkTo_succ hk', Bool.and_eq_true] at h
    have hin := inR_iff.1 h.2
    have hl := depL_len (es := es) (k := k) (by omega)
    rw [depL_succ hk']
    by_cases e : j = k
    · subst e
      have e1 : (depL es j ++ [baseD (depL es j) es[j].base]).getD j 0 = baseD (depL es j) es[j].base := by
        rw [List.getD_eq_getElem?_getD, List.getElem?_append_right (by omega), hl]; simp
      rw [e1]
      have hb : (es.map (·.base))[j]? = some es[j].base := by rw [List.getElem?_map, List.getElem?_eq_getElem hk']; rfl
      unfold baseD
      split
      · exact ⟨_, hb, by assumption⟩
      · exact ⟨_, hb, by omega, ih (by omega) h.1 es[j].base.toNat (by omega)⟩
    · have e1 : (depL es k ++ [baseD (depL es k) es[k].base]).getD j 0 = (depL es k).getD j 0 := by
        rw [List.getD_eq_getElem?_getD, List.getD_eq_getElem?_getD, List.getElem?_append_left (by omega)]
      rw [e1]
      exact ih (by omega) h.1 j (by omega)

theorem poTo_eq {es : List En} : ∀ {k : Nat}, k ≤ es.length → linkTo es k = true → poTo es k = if bsTo es k = true then (objsTo es k).map (fun os => (os, depL es k)) else none := by
  intro k
  induction k with
  | zero => intro _ _; rfl
  | succ k ih =>
    intro hk h
    have hk' : k < es.length := by omega
    have h0 := h
    rw [linkTo_succ hk', Bool.and_eq_true] at h
    have ihk := ih (by omega) h.1
    by_cases hb : bsTo es k = true
    · rw [if_pos hb] at ihk
      cases ho : objsTo es k with
      | none =>
        rw [ho] at ihk
        rw [poTo_none ihk (k + 1) (by omega), objsTo_none ho (k + 1) (by omega)]
        split <;> rfl
      | some os =>
        rw [ho] at ihk
        rw [poTo_succ hk' ihk, objsTo_succ hk' ho, bsTo_succ hk', hb, h.2, depL_succ hk']
        cases hd : dapp (baseT (os.map (·.text)) es[k].base) es[k].ops with
        | none => dsimp only; split <;> rfl
        | some t =>
          dsimp only
          by_cases h2 : baseD (depL es k) es[k].base ≤ 2
          · by_cases h3 : obOk ⟨es[k].kind, es[k].links, t⟩ = true
            · rw [if_pos ⟨h2, h3⟩, if_pos h3, decide_eq_true h2]; rfl
            · rw [if_neg (fun h => h3 h.2), if_neg h3, decide_eq_true h2]; rfl
          · rw [if_neg (fun h => h2 h.1), decide_eq_false h2]; rfl
    · have hb' : bsTo es k = false := by simpa using hb
      rw [if_neg hb] at ihk
      rw [poTo_none ihk (k + 1) (by omega)]
      have : bsTo es (k + 1) = false := by rw [bsTo_succ hk', hb']; rfl
      rw [this]; rfl

/-- Read the one way or the other. -/
theorem unpack_eq (es : List En) : unpack es = if bsTo es es.length = true ∧ es.length ≤ 16 then objsTo es es.length else none := by
  unfold unpack
  by_cases hl : es.length ≤ 16
  · by_cases hk : linkOk es = true
    · rw [if_pos ⟨hl, hk⟩, poTo_eq (Nat.le_refl _) hk]
      by_cases hb : bsTo es es.length = true
      · rw [if_pos hb, if_pos ⟨hb, hl⟩]
        cases objsTo es es.length <;> rfl
      · rw [if_neg hb, if_neg (fun h => hb h.1)]; rfl
    · rw [if_neg (fun h => hk h.2), if_neg (fun h => hk (bsTo_link (Nat.le_refl _) h.1))]
  · rw [if_neg (fun h => hl h.1), if_neg (fun h => hl h.2)]

end Go.Proofs.Ytjgbconlpolddaa
