/- How the arguments of the exact law read. -/
import Derived.Test.YtjgbconlpolddaaQM10
import Derived.Deep.Slices
import Derived.Deep.Fields
import Derived.ChangeSame
import Derived.ChangeSlices
set_option linter.unusedVariables false
set_option linter.unusedSimpArgs false
namespace Go.Proofs.Ytjgbconlpolddaa
open Go.RowKit
set_option linter.unusedVariables false

section
open Go.ChangeShapes Go.WideShapes Go.Deep
variable {H : Type} {enc : TypeId × Value → H} {P : Program} {w : World} {base : Nat} {spare : Nat → Bool} {held : Bool}
theorem open_slice_fields {t e : TypeId} {fs : Array Field} {fuel : Nat} {cs : List Value} {x : DataW H × List MemPlace} (ht : P.underlying t = some (.slice e)) (he : P.underlying e = some (.struct fs))
    (hone : oneCellFields P fs = true) (hC : P.cellsOf e = fs.size) (h : DataW.trod enc P w base spare held fuel t cs = some x) :
    cs = [.slice none 0 0] ∨
    ∃ (a : Addr) (len cap m : Nat), cs = [.slice (some a) len cap] ∧ len ≤ cap ∧ cap ≤ maxLen ∧ m = (if spare a.block then cap else len) ∧
      ∀ i, i < m → ∃ n : Nat, ∀ (j : Nat) (f : Field), fs[j]? = some f → ∃ (v : Value) (y : DataW H × List MemPlace), w.cell? (a.add (i * fs.size + j)) = some v ∧ DataW.trod enc P w base spare held n f.type [v] = some y := by
  rcases open_slice ht h with h0 | ⟨a, len, cap, m, n, D, Pl, hcs, hb, hl, hm, hmm, hx, hi⟩
  · exact .inl h0.1
  · refine .inr ⟨a, len, cap, m, hcs, hl, hm, hmm, fun i him => ?_⟩
    obtain ⟨cs', hc, ht'⟩ := hi i him
    rw [hC] at hc
    obtain ⟨ys, n', hn', hy, hlen, hyl, hf⟩ := DataW.trod_struct he ht'
    obtain ⟨_, hcl, hat⟩ := World.cells?_some hc
    refine ⟨n', fun j f hj => ?_⟩
    obtain ⟨ho, hk⟩ := hone_of hone j f hj
    have hjl : j < fs.size := (Array.getElem?_eq_some_iff.1 hj).1
    have hcell := hat j hjl
    have hv : cs'[j]? = some (cs'[j]'(by omega)) := List.getElem?_eq_getElem (by omega)
    have h1 := hf j f hj
    rw [ho, hk] at h1
    have hone' : (cs'.drop j).take 1 = [cs'[j]'(by omega)] := by
      rw [List.drop_eq_getElem_cons (by omega)]
      rfl
    rw [hone'] at h1
    have hys : ys[j]? = some (ys[j]'(by omega)) := List.getElem?_eq_getElem (by omega)
    refine ⟨_, _, ?_, h1.trans hys⟩
    rw [← Go.Deep.add_add, hcell, hv]
end

theorem listOf {α : Type} (P : Nat → α → Prop) : ∀ n, (∀ i, i < n → ∃ z, P i z) → ∃ zs : List α, zs.length = n ∧ ∀ i (hi : i < zs.length), P i zs[i] := by
  intro n
  induction n with
  | zero => intro _; exact ⟨[], rfl, fun i hi => by cases hi⟩
  | succ n ih =>
    intro h
    obtain ⟨zs, h1, h2⟩ := ih (fun i hi => h i (by omega))
    obtain ⟨z, hz⟩ := h n (by omega)
    refine ⟨zs ++ [z], by simp [h1], fun i hi => ?_⟩
    rw [List.getElem_append]
    split
    · exact h2 i _
    · rename_i hni
      have : i = n := by simp at hi; omega
      subst this
      simp [h1]
      exact hz

/-- A reading out of its cells. -/
theorem slR_of_cells {w : World} {a : Addr} {n cap sz E : Nat} {cs : List Value} (hl : cs.length = n * sz) (hc : n ≤ cap) (hs : 0 < sz) (hcell : ∀ k u, cs[k]? = some u → w.cell? (a.add k) = some u) : SlR (old w.heap.size) E sz w (.slice (some a) n cap) n cs := by
  refine ⟨_, _, rfl, hl, hc, (fun h => by cases h), fun hn => ?_⟩
  have h0 : 0 < cs.length := by rw [hl]; exact Nat.mul_pos hn hs
  obtain ⟨b, off, spot⟩ := a
  have c0 := hcell 0 _ (List.getElem?_eq_getElem h0)
  have hspot : spot = none := by simpa [Addr.add] using World.cell?_spot c0
  subst hspot
  have hadd : ∀ i, (⟨b, off, none⟩ : Addr).add i = ⟨b, off + i, none⟩ := fun i => by unfold Addr.add; split <;> simp_all
  have hb : b < w.heap.size := by rw [hadd] at c0; exact World.block_lt_of_cell? _ _ c0
  have hex : ∃ cur e fr, w.heap[b]? = some (.cells cur e fr) := by
    rw [hadd] at c0
    unfold World.cell? at c0
    split at c0
    · rename_i c e f hbk
      exact ⟨c, e, f, hbk⟩
    · cases c0
  obtain ⟨cur, e, fr, hbk⟩ := hex
  refine ⟨b, off, cur, e, fr, rfl, hb, hbk, fun j u hj => ?_⟩
  have := hcell j u hj
  rw [hadd] at this
  simpa [World.cell?, hbk] using this

section
open Go.ChangeShapes Go.WideShapes Go.Deep
variable {H : Type} {enc : TypeId × Value → H} {w : World} {base : Nat} {held : Bool}

theorem openInts {fuel : Nat} {v : Value} {x : DataW H × List MemPlace} (h : DataW.trod enc Try.prog w base (fun _ => true) held fuel 29 [v] = some x) : ∃ l : List Int, IntsR (old w.heap.size) w v l ∧ l.length ≤ 9223372036854775807 := by
  rcases open_ints Try.underlying29 Try.underlying3 (by kernel_rfl) h with ⟨hcs, _⟩ | ⟨a, len, cap, zs, hcs, _, hl, hm, hz, _, hcell, _⟩
  · cases hcs
    exact ⟨[], SlR.nil _ _ _ _, Nat.zero_le _⟩
  · cases hcs
    unfold maxLen at hm
    have hz' : zs.length = cap := by simpa using hz
    have hlz : (zs.take len).length = len := by simp; omega
    refine ⟨zs.take len, ?_, by omega⟩
    show SlR _ _ _ _ _ (zs.take len).length _
    rw [hlz]
    refine slR_of_cells (by simp; omega) hl (by decide) (fun k u hu => ?_)
    rw [List.getElem?_map] at hu
    cases hk : (zs.take len)[k]? with
    | none => rw [hk] at hu; cases hu
    | some y =>
      rw [hk] at hu
      cases hu
      obtain ⟨hkl, hy⟩ := List.getElem?_eq_some_iff.1 hk
      have hkz : k < zs.length := by simp at hkl; omega
      rw [hcell k hkz, ← hy, List.getElem_take, List.getD_eq_getElem?_getD, List.getElem?_eq_getElem hkz]
      rfl

theorem fmCell {α : Type} (f : α → List Value) (sz : Nat) (hf : ∀ x, (f x).length = sz) (hs : 0 < sz) {w : World} {a : Addr} (zs : List α) (h : ∀ i (hi : i < zs.length) j u, (f zs[i])[j]? = some u → w.cell? (a.add (i * sz + j)) = some u) : ∀ k u, (zs.flatMap f)[k]? = some u → w.cell? (a.add k) = some u := by
  intro k u hu
  have hkl := (List.getElem?_eq_some_iff.1 hu).1
  rw [fm_length f sz hf] at hkl
  have hi : k / sz < zs.length := Nat.div_lt_of_lt_mul (by rw [Nat.mul_comm]; exact hkl)
  have hj : k % sz < sz := Nat.mod_lt _ hs
  have e : k = k / sz * sz + k % sz := by rw [Nat.mul_comm]; exact (Nat.div_add_mod k sz).symm
  rw [e] at hu ⊢
  rw [fm_get f sz hf zs _ _ hj hi] at hu
  exact h _ hi _ _ hu

theorem openOps {fuel : Nat} {v : Value} {x : DataW H × List MemPlace} (h : DataW.trod enc Try.prog w base (fun _ => true) held fuel 90 [v] = some x) : ∃ l : List Opn, OpsR (old w.heap.size) w v l ∧ OpsM l := by
  rcases open_slice_fields Try.underlying90 Try.underlying129 (by kernel_rfl) (by kernel_rfl) h with hcs | ⟨a, len, cap, m, hcs, hl, hm, hmm, hi⟩
  · cases hcs
    exact ⟨[], SlR.nil _ _ _ _, Nat.zero_le _, fun o ho => by cases ho⟩
  · cases hcs
    unfold maxLen at hm
    have hmc : m = cap := by simpa using hmm
    subst hmc
    obtain ⟨zs, hz1, hz2⟩ := listOf (fun i (o : Opn) => (∀ j u, (encOp o)[j]? = some u → w.cell? (a.add (i * 3 + j)) = some u) ∧ o.text.length ≤ 9223372036854775807) len (fun i hil => by
      obtain ⟨n, hf⟩ := hi i (by omega)
      obtain ⟨v0, y0, c0, t0⟩ := hf 0 _ rfl
      obtain ⟨v1, y1, c1, t1⟩ := hf 1 _ rfl
      obtain ⟨v2, y2, c2, t2⟩ := hf 2 _ rfl
      obtain ⟨n0, e0, _⟩ := DataW.trod_int Try.underlying3 t0
      obtain ⟨n1, e1, _⟩ := DataW.trod_int Try.underlying3 t1
      obtain ⟨s2, e2, _, hs2⟩ := DataW.trod_string Try.underlying9 t2
      cases e0
      cases e1
      cases e2
      refine ⟨⟨n0, n1, s2.data.toList⟩, fun j u hu => ?_, ?_⟩
      · match j, hu with
        | 0, hu => cases hu; exact c0
        | 1, hu => cases hu; exact c1
        | 2, hu => simp only [encOp, tx_of] at hu; cases hu; exact c2
        | j + 3, hu => simp [encOp] at hu
      · unfold maxLen at hs2
        have := tx_size s2.data.toList
        rw [tx_of] at this
        dsimp only
        omega)
    refine ⟨zs, ?_, by omega, fun o ho => ?_⟩
    · show SlR _ _ _ _ _ zs.length _
      rw [hz1]
      exact slR_of_cells (by rw [fmOp_len, hz1]) hl (by decide) (fmCell encOp 3 (fun _ => rfl) (by decide) zs (fun i hi j u hu => (hz2 i hi).1 j u hu))
    · obtain ⟨i, hi', rfl⟩ := List.mem_iff_getElem.1 ho
      exact (hz2 i hi').2

theorem openObs {fuel : Nat} {v : Value} {x : DataW H × List MemPlace} (h : DataW.trod enc Try.prog w base (fun _ => true) held fuel 50 [v] = some x) : ∃ l : List Ob, ObsR (old w.heap.size) w v l ∧ l.length ≤ 9223372036854775807 ∧ ∀ o ∈ l, o.links.length ≤ 9223372036854775807 ∧ o.text.length ≤ 9223372036854775807 := by
  rcases open_slice_fields Try.underlying50 Try.underlying88 (by kernel_rfl) (by kernel_rfl) h with hcs | ⟨a, len, cap, m, hcs, hl, hm, hmm, hi⟩
  · cases hcs
    exact ⟨[], ⟨[], rfl, SlR.nil _ _ _ _, fun z hz => by cases hz⟩, Nat.zero_le _, fun o ho => by cases ho⟩
  · cases hcs
    unfold maxLen at hm
    have hmc : m = cap := by simpa using hmm
    subst hmc
    obtain ⟨zs, hz1, hz2⟩ := listOf (fun i (o : Ob × Value) => (∀ j u, (encOb o)[j]? = some u → w.cell? (a.add (i * 3 + j)) = some u) ∧ o.1.text.length ≤ 9223372036854775807 ∧ IntsR (old w.heap.size) w o.2 o.1.links ∧ o.1.links.length ≤ 9223372036854775807) len (fun i hil => by
      obtain ⟨n, hf⟩ := hi i (by omega)
      obtain ⟨v0, y0, c0, t0⟩ := hf 0 _ rfl
      obtain ⟨v1, y1, c1, t1⟩ := hf 1 _ rfl
      obtain ⟨v2, y2, c2, t2⟩ := hf 2 _ rfl
      obtain ⟨n0, e0, _⟩ := DataW.trod_int Try.underlying3 t0
      obtain ⟨l1, r1, b1⟩ := openInts t1
      obtain ⟨s2, e2, _, hs2⟩ := DataW.trod_string Try.underlying9 t2
      cases e0
      cases e2
      refine ⟨(⟨n0, l1, s2.data.toList⟩, v1), fun j u hu => ?_, ?_, r1, b1⟩
      · match j, hu with
        | 0, hu => cases hu; exact c0
        | 1, hu => cases hu; exact c1
        | 2, hu => simp only [encOb, tx_of] at hu; cases hu; exact c2
        | j + 3, hu => simp [encOb] at hu
      · unfold maxLen at hs2
        have := tx_size s2.data.toList
        rw [tx_of] at this
        dsimp only
        omega)
    refine ⟨zs.map (·.1), ⟨zs, rfl, ?_, fun z hz => ?_⟩, by simp; omega, fun o ho => ?_⟩
    · rw [List.length_map, hz1]
      exact slR_of_cells (by rw [fmOb_len, hz1]) hl (by decide) (fmCell encOb 3 (fun _ => rfl) (by decide) zs (fun i hi j u hu => (hz2 i hi).1 j u hu))
    · obtain ⟨i, hi', rfl⟩ := List.mem_iff_getElem.1 hz
      exact (hz2 i hi').2.2.1
    · obtain ⟨z, hz, rfl⟩ := List.mem_map.1 ho
      obtain ⟨i, hi', rfl⟩ := List.mem_iff_getElem.1 hz
      exact ⟨(hz2 i hi').2.2.2, (hz2 i hi').2.1⟩

theorem openEns {fuel : Nat} {v : Value} {x : DataW H × List MemPlace} (h : DataW.trod enc Try.prog w base (fun _ => true) held fuel 51 [v] = some x) : ∃ l : List En, EnsR (old w.heap.size) w v l ∧ l.length ≤ 9223372036854775807 ∧ ∀ e ∈ l, EnM e := by
  rcases open_slice_fields Try.underlying51 Try.underlying92 (by kernel_rfl) (by kernel_rfl) h with hcs | ⟨a, len, cap, m, hcs, hl, hm, hmm, hi⟩
  · cases hcs
    exact ⟨[], ⟨[], rfl, SlR.nil _ _ _ _, fun z hz => by cases hz⟩, Nat.zero_le _, fun o ho => by cases ho⟩
  · cases hcs
    unfold maxLen at hm
    have hmc : m = cap := by simpa using hmm
    subst hmc
    obtain ⟨zs, hz1, hz2⟩ := listOf (fun i (o : En × (Value × Value)) => (∀ j u, (encEn o)[j]? = some u → w.cell? (a.add (i * 4 + j)) = some u) ∧ IntsR (old w.heap.size) w o.2.1 o.1.links ∧ OpsR (old w.heap.size) w o.2.2 o.1.ops ∧ EnM o.1) len (fun i hil => by
      obtain ⟨n, hf⟩ := hi i (by omega)
      obtain ⟨v0, y0, c0, t0⟩ := hf 0 _ rfl
      obtain ⟨v1, y1, c1, t1⟩ := hf 1 _ rfl
      obtain ⟨v2, y2, c2, t2⟩ := hf 2 _ rfl
      obtain ⟨v3, y3, c3, t3⟩ := hf 3 _ rfl
      obtain ⟨n0, e0, _⟩ := DataW.trod_int Try.underlying3 t0
      obtain ⟨l1, r1, b1⟩ := openInts t1
      obtain ⟨n2, e2, _⟩ := DataW.trod_int Try.underlying3 t2
      obtain ⟨l3, r3, b3⟩ := openOps t3
      cases e0
      cases e2
      refine ⟨(⟨n0, l1, n2, l3⟩, (v1, v3)), fun j u hu => ?_, r1, r3, b1, b3⟩
      match j, hu with
      | 0, hu => cases hu; exact c0
      | 1, hu => cases hu; exact c1
      | 2, hu => cases hu; exact c2
      | 3, hu => cases hu; exact c3
      | j + 4, hu => simp [encEn] at hu)
    refine ⟨zs.map (·.1), ⟨zs, rfl, ?_, fun z hz => ?_⟩, by simp; omega, fun o ho => ?_⟩
    · rw [List.length_map, hz1]
      exact slR_of_cells (by rw [fmEn_len4, hz1]) hl (by decide) (fmCell encEn 4 (fun _ => rfl) (by decide) zs (fun i hi j u hu => (hz2 i hi).1 j u hu))
    · obtain ⟨i, hi', rfl⟩ := List.mem_iff_getElem.1 hz
      exact ⟨(hz2 i hi').2.1, (hz2 i hi').2.2.1⟩
    · obtain ⟨z, hz, rfl⟩ := List.mem_map.1 ho
      obtain ⟨i, hi', rfl⟩ := List.mem_iff_getElem.1 hz
      exact (hz2 i hi').2.2.2
end

end Go.Proofs.Ytjgbconlpolddaa
