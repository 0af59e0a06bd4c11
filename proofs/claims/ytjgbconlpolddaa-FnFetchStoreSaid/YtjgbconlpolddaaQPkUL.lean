/- Reading a pack back: the nodes between the rounds; baseText. -/
import Derived.Test.YtjgbconlpolddaaQM4
set_option linter.unusedVariables false
set_option linter.unusedSimpArgs false
namespace Go.Proofs.Ytjgbconlpolddaa
open Go.RowKit
set_option linter.unusedVariables false

/-- What K names is old at B, or of its type. -/
def Mild (K : Nat → Bool → Prop) (B : Nat) : Prop := ∀ b t, K b t → b < B ∨ t = true

theorem Mild.safe {K : Nat → Bool → Prop} {B E : Nat} {T : List Nat} (h : Mild K B) (hE : E ∉ T) : Safe K B T E := fun b t hb => (h b t hb).imp id (fun h => ⟨h, hE⟩)
theorem Mild.new (lo B : Nat) : Mild (new lo) B := fun _ _ h => .inr h.2
theorem Mild.old {B B' : Nat} (h : B ≤ B') : Mild (old B) B' := fun _ _ hb => .inl (Nat.lt_of_lt_of_le hb h)
theorem Mild.up {K : Nat → Bool → Prop} {B B' : Nat} (h : Mild K B) (hl : B ≤ B') : Mild K B' := fun b t hb => (h b t hb).imp (fun h => Nat.lt_of_lt_of_le h hl) id

theorem poTo_succ {es : List En} {k : Nat} {os : List Ob} {ds : List Nat} (hk : k < es.length) (h : poTo es k = some (os, ds)) :
    poTo es (k + 1) = match dapp (baseT (os.map (·.text)) es[k].base) es[k].ops with
      | some t => if baseD ds es[k].base ≤ 2 ∧ obOk ⟨es[k].kind, es[k].links, t⟩ = true then some (os ++ [⟨es[k].kind, es[k].links, t⟩], ds ++ [baseD ds es[k].base]) else none
      | none => none := by
  cases hD : dapp (baseT (os.map (·.text)) es[k].base) es[k].ops <;> simp [poTo, h, List.getElem?_eq_getElem hk, hD]

theorem poTo_none {es : List En} {k : Nat} (h : poTo es k = none) : ∀ n, k ≤ n → poTo es n = none := by
  intro n
  induction n with
  | zero =>
    intro hn
    obtain rfl : k = 0 := by omega
    exact h
  | succ n ih =>
    intro hn
    by_cases e : k = n + 1
    · subst e; exact h
    · simp [poTo, ih (by omega)]

/-- The nodes between the rounds: k texts are laid. -/
structure UL (K : Nat → Bool → Prop) (lo : Nat) (w : World) (bs : List Nat) (es : List En) (os : List Ob) (ds : List Nat) (k : Nat) : Prop where
  nodes : ∀ j (hj : j < es.length), k ≤ j → NodeL K w bs j es[j] []
  done : ∃ hi, (∀ j, k ≤ j → j < es.length → hi ≤ bs.getD j 0) ∧ ∀ j, j < k → NodeD lo hi w (ds.getD j 0) (bs.getD j 0) ((os.map (·.text)).getD j [])
  low : ∀ j, j < es.length → lo ≤ bs.getD j 0
  inc : ∀ i j, i < j → j < es.length → bs.getD i 0 < bs.getD j 0
  base : ∀ j (hj : j < es.length), es[j].base ≤ (j : Int) - 1
  lo' : os.length = k
  ld : ds.length = k
  dle : ∀ d ∈ ds, d ≤ 2

theorem UL.keep {K : Nat → Bool → Prop} {lo B : Nat} {T : List Nat} {w w' : World} {bs : List Nat} {es : List En} {os : List Ob} {ds : List Nat} {k : Nat} (h : UL K lo w bs es os ds k) (hf : Fr B T w w') (h1 : 69 ∉ T) (h2 : Safe K B T 3) (h3 : Safe K B T 109) : UL K lo w' bs es os ds k := by
  obtain ⟨hi, g1, g2⟩ := h.done
  exact ⟨fun j hj hk => (h.nodes j hj hk).keep hf h1 h2 h3, ⟨hi, g1, fun j hj => (g2 j hj).keep hf h1⟩, h.low, h.inc, h.base, h.lo', h.ld, h.dle⟩

theorem UL.grow {K : Nat → Bool → Prop} {lo B : Nat} {w w' : World} {bs : List Nat} {es : List En} {os : List Ob} {ds : List Nat} {k : Nat} (h : UL K lo w bs es os ds k) (hf : Fr B [] w w') : UL K lo w' bs es os ds k := by
  obtain ⟨hi, g1, g2⟩ := h.done
  exact ⟨fun j hj hk => (h.nodes j hj hk).grow hf, ⟨hi, g1, fun j hj => (g2 j hj).keep hf (by simp)⟩, h.low, h.inc, h.base, h.lo', h.ld, h.dle⟩

/-- Behind linkPack. -/
theorem UL.start {K : Nat → Bool → Prop} {lo : Nat} {w : World} {v : Value} {bs : List Nat} {es : List En} (h : Linked K lo w v bs es es.length) (hl : linkOk es = true) : UL K lo w bs es [] [] 0 :=
  ⟨fun j hj _ => h.node j hj hj, ⟨0, fun _ _ _ => Nat.zero_le _, fun j hj => absurd hj (Nat.not_lt_zero _)⟩, fun j hj => (h.lo j hj).1, h.inc, fun j hj => (linkTo_at hl j hj hj).2, rfl, rfl, fun d hd => by cases hd⟩

/-- The node's depth, whatever its text. -/
theorem UL.deep {K : Nat → Bool → Prop} {lo : Nat} {w w' : World} {bs : List Nat} {es : List En} {os : List Ob} {ds : List Nat} {k : Nat} (h : UL K lo w bs es os ds k) (hk : k < es.length) {a0 a1 a2 a3 : Value} {t : Tx}
    (hn : w'.heap[bs.getD k 0]? = some (.cells #[a0, a1, a2, a3, ptrOf bs es[k].base, .string (tx t)] 69 (0, 0)))
    (hk2 : ∀ hi d b t, hi ≤ bs.getD k 0 → NodeD lo hi w d b t → NodeD lo hi w' d b t) : NodeD lo (bs.getD k 0 + 1) w' (baseD ds es[k].base) (bs.getD k 0) t := by
  obtain ⟨hi, g1, g2⟩ := h.done
  have hlo := h.low k hk
  have hb := h.base k hk
  have hhi := g1 k (Nat.le_refl _) hk
  unfold baseD
  unfold ptrOf at hn
  by_cases hneg : es[k].base < 0
  · rw [if_pos hneg] at hn ⊢
    exact ⟨a0, a1, a2, a3, hlo, by omega, hn⟩
  · rw [if_neg hneg] at hn ⊢
    exact ⟨a0, a1, a2, a3, bs.getD es[k].base.toNat 0, (os.map (·.text)).getD es[k].base.toNat [], hlo, by omega, hn, (hk2 _ _ _ _ hhi (g2 es[k].base.toNat (by omega))).up (by omega)⟩

theorem getD_snoc' {α : Type} {l : List α} {x d : α} {j : Nat} (h : j < l.length) : (l ++ [x]).getD j d = l.getD j d := by
  rw [List.getD_eq_getElem?_getD, List.getD_eq_getElem?_getD, List.getElem?_append_left h]

theorem getD_last' {α : Type} {l : List α} {x d : α} : (l ++ [x]).getD l.length d = x := by
  rw [List.getD_eq_getElem?_getD, List.getElem?_append_right (Nat.le_refl _)]; simp

/-- The text laid. -/
theorem UL.next {K : Nat → Bool → Prop} {lo : Nat} {w : World} {bs : List Nat} {es : List En} {os : List Ob} {ds : List Nat} {k : Nat} (h : UL K lo w bs es os ds k) (hk : k < es.length) (hm : Mild K lo) (t : Tx) (hd : baseD ds es[k].base ≤ 2) :
    UL K lo (w.setCell ⟨bs.getD k 0, 5, none⟩ (.string (tx t))) bs es (os ++ [⟨es[k].kind, es[k].links, t⟩]) (ds ++ [baseD ds es[k].base]) (k + 1) := by
  obtain ⟨u, p, n1, n2, n3⟩ := h.nodes k hk (Nat.le_refl _)
  have F : Fr lo [69] w (w.setCell ⟨bs.getD k 0, 5, none⟩ (.string (tx t))) := (Fr.refl lo [69] w).setOld (p := ⟨bs.getD k 0, 5, none⟩) n1 (h.low k hk) (by simp [otag]) _
  have hset := block_set n1 5 (.string (tx t))
  have hdeep := h.deep (w' := w.setCell ⟨bs.getD k 0, 5, none⟩ (.string (tx t))) (t := t) hk hset (fun hi d b t' hh hn => hn.set hh)
  obtain ⟨hi, g1, g2⟩ := h.done
  refine ⟨fun j hj hkj => ?_, ⟨bs.getD k 0 + 1, fun j hkj hj => ?_, fun j hj => ?_⟩, h.low, h.inc, h.base, by simp [h.lo'], by simp [h.ld], fun d hd' => ?_⟩
  · obtain ⟨u', p', m1, m2, m3⟩ := h.nodes j hj (by omega)
    have := h.inc k j (by omega) hj
    exact ⟨u', p', block_setne m1 (by dsimp only; omega), m2.keep F (hm.safe (by simp)), m3.keep F (hm.safe (by simp))⟩
  · exact h.inc k j (by omega) hj
  · rw [List.map_append, List.map_cons, List.map_nil]
    by_cases e : j = k
    · subst e
      have e1 : (ds ++ [baseD ds es[j].base]).getD j 0 = baseD ds es[j].base := by
        have := getD_last' (l := ds) (x := baseD ds es[j].base) (d := 0)
        rwa [h.ld] at this
      have e2 : (os.map (·.text) ++ [t]).getD j [] = t := by
        have := getD_last' (l := os.map (·.text)) (x := t) (d := [])
        rwa [List.length_map, h.lo'] at this
      rw [e1, e2]
      exact hdeep
    · have hj' : j < k := by omega
      rw [getD_snoc' (by rw [h.ld]; exact hj'), getD_snoc' (by rw [List.length_map, h.lo']; exact hj')]
      exact ((g2 j hj').set (g1 k (Nat.le_refl _) hk)).up (by have := g1 k (Nat.le_refl _) hk; omega)
  · rcases List.mem_append.1 hd' with hd' | hd'
    · exact h.dle d hd'
    · simp at hd'; subst hd'; exact hd

/-- The base's text, where it lies. -/
theorem UL.text {K : Nat → Bool → Prop} {lo : Nat} {w : World} {bs : List Nat} {es : List En} {os : List Ob} {ds : List Nat} {k : Nat} (h : UL K lo w bs es os ds k) (hk : k < es.length) :
    ∃ pp, ptrOf bs es[k].base = .pointer pp ∧ ((pp = none ∧ baseT (os.map (·.text)) es[k].base = []) ∨ ∃ b2, pp = some ⟨b2, 0, none⟩ ∧ b2 < w.heap.size ∧ w.cell? ⟨b2, 5, none⟩ = some (.string (tx (baseT (os.map (·.text)) es[k].base)))) := by
  obtain ⟨hi, g1, g2⟩ := h.done
  have hb := h.base k hk
  unfold ptrOf baseT
  by_cases hneg : es[k].base < 0
  · rw [if_pos hneg, if_pos hneg]
    exact ⟨none, rfl, .inl ⟨rfl, rfl⟩⟩
  · rw [if_neg hneg, if_neg hneg]
    obtain ⟨_, _, a0, a1, a2, a3, pb, hn, _⟩ := (g2 es[k].base.toNat (by omega)).at
    exact ⟨_, rfl, .inr ⟨_, rfl, lt_of_get hn, cell_of (o := 5) hn rfl⟩⟩

theorem UL.dlt {K : Nat → Bool → Prop} {lo : Nat} {w : World} {bs : List Nat} {es : List En} {os : List Ob} {ds : List Nat} {k : Nat} (h : UL K lo w bs es os ds k) (b : Int) : baseD ds b ≤ 3 := by
  unfold baseD
  split
  · omega
  · rw [List.getD_eq_getElem?_getD]
    cases hx : ds[b.toNat]? with
    | none => simp
    | some d =>
      have := h.dle d (List.mem_of_getElem? hx)
      simp; omega

set_option maxRecDepth 20000 in
set_option maxHeartbeats 2000000 in
theorem baseText_any {w : World} {b : Nat} {p : Option Addr} {t : Tx} (h : w.cell? ⟨b, 4, none⟩ = some (.pointer p)) (ht : (p = none ∧ t = []) ∨ ∃ b2, p = some ⟨b2, 0, none⟩ ∧ w.cell? ⟨b2, 5, none⟩ = some (.string (tx t))) :
    Calls Try.prog 49 #[.pointer (some ⟨b, 0, none⟩)] w fun e w' => e = .returned (.string (tx t)) ∧ w = w' := by
  rcases ht with ⟨rfl, rfl⟩ | ⟨b2, rfl, hb2⟩
  · have _hz := Nat.zero_le 0
    clear _hz
    go_enter Try.func49, Try.ntmps49
    go_wp2
    go_ret
    exact ⟨rfl, rfl⟩
  · have _hz := Nat.zero_le 0
    clear _hz
    go_enter Try.func49, Try.ntmps49
    go_wp2
    go_ret
    exact ⟨rfl, rfl⟩

end Go.Proofs.Ytjgbconlpolddaa
