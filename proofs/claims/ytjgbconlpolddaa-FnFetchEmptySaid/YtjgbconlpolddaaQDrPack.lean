/- Draws of packs. -/
import Derived.Test.YtjgbconlpolddaaQStDraw
import Derived.Test.YtjgbconlpolddaaQM5
set_option linter.unusedVariables false
set_option linter.unusedSimpArgs false
namespace Go.Proofs.Ytjgbconlpolddaa
open Go.RowKit
set_option linter.unusedVariables false

theorem fmEn_len (zs : List (En × (Value × Value))) : (zs.flatMap encEn).length = zs.length * 4 := fm_length encEn 4 (fun _ => rfl) zs

theorem fmEn_setAt (zs : List (En × (Value × Value))) {k j : Nat} (hk : k < zs.length) (hj : j < 4) (x : Value) (z' : En × (Value × Value)) (hz : (encEn zs[k]).set j x = encEn z') : (zs.flatMap encEn).set (k * 4 + j) x = (zs.set k z').flatMap encEn := by
  induction zs generalizing k with
  | nil => simp at hk
  | cons z zs ih =>
    cases k with
    | zero =>
      simp only [List.getElem_cons_zero] at hz
      simp only [List.flatMap_cons, List.set_cons_zero, Nat.zero_mul, Nat.zero_add]
      rw [List.set_append_left _ _ (by simp [encEn]; omega), hz]
    | succ k =>
      have hk' : k < zs.length := by simpa using hk
      have e1 : (k + 1) * 4 + j = (encEn z).length + (k * 4 + j) := by simp [encEn]; omega
      simp only [List.flatMap_cons, List.set_cons_succ]
      rw [e1, List.set_append_right _ _ (by omega), Nat.add_sub_cancel_left, ih hk' (by simpa using hz)]

/-- One cell of an entry laid anew. -/
theorem EnsOwn.setAt {lo : Nat} {w : World} {g n cap : Nat} {es : List En} (h : EnsOwn lo w (.slice (some ⟨g, 0, none⟩) n cap) es) {k j : Nat} (hk : k < es.length) (hj : j < 4) (x : Value) (e' : En)
    (hx : ∀ vs : Value × Value, IntsR (new lo) w vs.1 es[k].links → OpsR (new lo) w vs.2 es[k].ops → ∃ vs', (encEn (es[k], vs)).set j x = encEn (e', vs') ∧ IntsR (new lo) w vs'.1 e'.links ∧ OpsR (new lo) w vs'.2 e'.ops) :
    EnsOwn lo (w.setCell ⟨g, k * 4 + j, none⟩ x) (.slice (some ⟨g, 0, none⟩) n cap) (es.set k e') ∧ Fr lo [32] w (w.setCell ⟨g, k * 4 + j, none⟩ x) := by
  obtain ⟨zs, g1, g2, g3⟩ := h
  have hn : n = es.length := by
    obtain ⟨_, _, he⟩ := own_any g2
    cases he; rfl
  subst hn
  have hz : k < zs.length := by have := congrArg List.length g1; simp at this; omega
  have hzk : zs[k].1 = es[k] := by subst g1; simp
  obtain ⟨vs', hs, hl, ho⟩ := hx zs[k].2 (by rw [← hzk]; exact (g3 _ (List.getElem_mem hz)).1) (by rw [← hzk]; exact (g3 _ (List.getElem_mem hz)).2)
  obtain ⟨s1, s2⟩ := g2.stored (k * 4 + j) x
  have F := Fr.ofOwnGrown (T := [32]) (B := lo) g2 s2 (Nat.le_refl _) (by simp)
  refine ⟨⟨zs.set k (e', vs'), ?_, ?_, fun z hz' => ?_⟩, F⟩
  · rw [List.map_set, g1]
  · rw [List.length_set, ← fmEn_setAt zs hz hj x (e', vs') (by rw [← hs, ← hzk])]
    exact s1
  · rcases List.mem_or_eq_of_mem_set hz' with hm | hm
    · exact ⟨(g3 z hm).1.keep F (Safe.new (by simp)), (g3 z hm).2.keep F (Safe.new (by simp))⟩
    · subst hm
      exact ⟨hl.keep F (Safe.new (by simp)), ho.keep F (Safe.new (by simp))⟩

theorem EnsOwn.cellsAt {lo : Nat} {w : World} {g n cap : Nat} {es : List En} (h : EnsOwn lo w (.slice (some ⟨g, 0, none⟩) n cap) es) {k j : Nat} (hk : k < es.length) (hj : j < 4) :
    (∃ u, w.cell? ⟨g, k * 4 + j, none⟩ = some u) ∧ w.frozen? ⟨g, k * 4 + j, none⟩ = false := by
  obtain ⟨zs, g1, g2, g3⟩ := h
  have hn : n = es.length := by
    obtain ⟨_, _, he⟩ := own_any g2
    cases he; rfl
  subst hn
  have hz : k < zs.length := by have := congrArg List.length g1; simp at this; omega
  have hl := fmEn_len zs
  refine ⟨⟨(zs.flatMap encEn)[k * 4 + j]'(by omega), ?_⟩, g2.frozenAt _⟩
  rw [g2.cellAt (k * 4 + j) (by omega), List.getElem?_eq_getElem (by omega)]

/-- What the draws of packs keep to. -/
def EnFew (es : List En) : Prop := es.length ≤ 17 ∧ ∀ e ∈ es, e.links.length ≤ 1000 ∧ e.ops.length ≤ 8

theorem packEn_few {os : List Ob} (h : Few os) (hl : os.length ≤ 17) (ok : Bool) : EnFew (if ok then pack os else []) := by
  cases ok
  · exact ⟨Nat.zero_le _, fun e he => by cases he⟩
  · refine ⟨by rw [if_pos rfl, pack_len]; omega, fun e he => ?_⟩
    rw [if_pos rfl] at he
    exact pk_few h (Nat.le_refl _) e he

theorem EnFew.set {es : List En} (h : EnFew es) (k : Nat) {e : En} (h1 : e.links.length ≤ 1000) (h2 : e.ops.length ≤ 8) : EnFew (es.set k e) := by
  refine ⟨by rw [List.length_set]; exact h.1, fun x hx => ?_⟩
  rcases List.mem_or_eq_of_mem_set hx with hx | rfl
  · exact h.2 x hx
  · exact ⟨h1, h2⟩

theorem EnsOwn.base1 {lo : Nat} {w : World} {g n cap : Nat} {es : List En} (h : EnsOwn lo w (.slice (some ⟨g, 0, none⟩) n cap) es) (hf : EnFew es) {k : Nat} (hk : k < es.length) (x : Int) :
    ∃ es', EnsOwn lo (w.setCell ⟨g, k * 4 + 2, none⟩ (.int .i64 x)) (.slice (some ⟨g, 0, none⟩) n cap) es' ∧ EnFew es' ∧ Fr lo [32] w (w.setCell ⟨g, k * 4 + 2, none⟩ (.int .i64 x)) := by
  have h1 := h.setAt hk (j := 2) (by omega) (.int .i64 x) { es[k] with base := x } (fun vs h1 h2 => ⟨vs, rfl, h1, h2⟩)
  exact ⟨_, h1.1, hf.set k (hf.2 _ (List.getElem_mem hk)).1 (hf.2 _ (List.getElem_mem hk)).2, h1.2⟩

theorem EnsOwn.kind1 {lo : Nat} {w : World} {g n cap : Nat} {es : List En} (h : EnsOwn lo w (.slice (some ⟨g, 0, none⟩) n cap) es) (hf : EnFew es) {k : Nat} (hk : k < es.length) (x : Int) :
    ∃ es', EnsOwn lo (w.setCell ⟨g, k * 4, none⟩ (.int .i64 x)) (.slice (some ⟨g, 0, none⟩) n cap) es' ∧ EnFew es' ∧ Fr lo [32] w (w.setCell ⟨g, k * 4, none⟩ (.int .i64 x)) := by
  have h1 := h.setAt hk (j := 0) (by omega) (.int .i64 x) { es[k] with kind := x } (fun vs h1 h2 => ⟨vs, rfl, h1, h2⟩)
  exact ⟨_, h1.1, hf.set k (hf.2 _ (List.getElem_mem hk)).1 (hf.2 _ (List.getElem_mem hk)).2, h1.2⟩

theorem EnsOwn.ops1 {lo lo' : Nat} {w : World} {g n cap : Nat} {es : List En} (h : EnsOwn lo w (.slice (some ⟨g, 0, none⟩) n cap) es) (hf : EnFew es) {k : Nat} (hk : k < es.length) (x : Value) (ops : List Opn) (hl : lo ≤ lo') (ho : w.ownsRow lo' 109 3 x ops.length (ops.flatMap encOp)) (h8 : ops.length ≤ 3) :
    ∃ es', EnsOwn lo (w.setCell ⟨g, k * 4 + 3, none⟩ x) (.slice (some ⟨g, 0, none⟩) n cap) es' ∧ EnFew es' ∧ Fr lo [32] w (w.setCell ⟨g, k * 4 + 3, none⟩ x) := by
  have h1 := h.setAt hk (j := 3) (by omega) x { es[k] with ops := ops } (fun vs h1 h2 => ⟨(vs.1, x), rfl, h1, SlR.ofOwns (ownsRow_lo ho hl)⟩)
  exact ⟨_, h1.1, hf.set k (hf.2 _ (List.getElem_mem hk)).1 (by show ops.length ≤ 8; omega), h1.2⟩

set_option maxRecDepth 20000 in
set_option maxHeartbeats 4000000 in
theorem l91Pack_any {B r p : Nat} {w : World} (hR : Rdr B w r p) (hp : p ≤ 999800000) :
    Calls Try.prog 53 #[.pointer (some ⟨r, 0, none⟩)] w fun e w' => ∃ (v : Value) (es : List En) (q : Nat), e = .returned v ∧ EnsOwn w.heap.size w' v es ∧ EnFew es ∧ Rdr B w' r q ∧ q ≤ p + 2000 ∧ Fr B [102] w w' := by
  have hB : B ≤ w.heap.size := Nat.le_trans hR.1 (Nat.le_of_lt hR.lt)
  have HR0 := hid hR
  go_enter Try.func53, Try.ntmps53
  go_upto_region 2 with (first
    | (go_at_call 33; go_must (refine (l91ListR_any HR0.out (by omega)).mono ?_; rintro e w1 ⟨v1, os, q1, rfl, own1, hlo, hfew, hR1, hq1, hf1⟩; have O1 := hid own1; have FEW := hid hfew; have R1 := hid hR1; have F1 := hid hf1; clear own1 hfew hR1 hf1))
    | (go_at_call 11; go_must (refine (specPackMake_any _ _ os _ O1.out.reads (FEW.out.b hlo)).mono ?_; rintro e w2 ⟨v2, rfl, own2, fr2⟩; have E2 := hid (own2.lower F1.out.size); have R2 := hid (R1.out.keep (fr2.nil (B' := B) (T := [])) (by simp)); have F2 := hid (F1.out.trans fr2.nil); clear own2 fr2)))
  have EF := hid (packEn_few FEW.out hlo (packOk os))
  obtain ⟨es, hES⟩ : ∃ es, (if packOk os then pack os else []) = es := ⟨_, rfl⟩
  rw [hES] at EF E2
  have EF := hid EF.out
  have E2 := hid E2.out
  clear hES FEW O1
  generalize packOk os = ok
  have hs2 := F2.out.size
  have hl17 := EF.out.1
  obtain ⟨a, cap, rfl, hcap, -⟩ := E2.out.reads.shape
  by_cases hl0 : es.length = 0
  · have hl00 : ((es.length : Int) == 0) = true := by simp [hl0]
    clear hl0
    go_wp2
    go_ret
    exact ⟨_, es, _, rfl, E2.out, EF.out, R2.out, by omega, F2.out⟩
  · have hl00 : ((es.length : Int) == 0) = false := beq_eq_false_iff_ne.2 (by omega)
    obtain ⟨g, rfl⟩ : ∃ g, a = some ⟨g, 0, none⟩ := by
      obtain ⟨zs, _, g2, _⟩ := E2.out
      obtain ⟨g, cap', he, _⟩ := own_shape g2 (by omega)
      cases he
      exact ⟨g, rfl⟩
    have hlp : 0 < es.length := by omega
    clear hl0
    go_upto_region 5 with (go_at_call 71; go_must (refine (pick_at R2.out (by omega)).mono ?_; rintro e w3 ⟨k, rfl, hk, hR3, hf3⟩; have R := hid hR3; have F := hid (F2.out.trans hf3); have EO := hid (E2.out.keep hf3 (by simp) (by simp) (by simp)); clear hR3 hf3))
    have hlt : k < es.length := by omega
    have hlti : (k : Int) < (es.length : Int) := by omega
    go_wp2_with (first
      | (go_at_call 71; go_must (refine (pick_at R.out (by omega)).mono ?_; rintro e w4 ⟨k4, rfl, hk4, hR4, hf4⟩; have R := hid hR4; have F := hid (F.out.trans hf4); have EO := hid (EO.out.keep hf4 (by simp) (by simp) (by simp)); obtain ⟨⟨c0, hc0⟩, hf0⟩ := EO.out.cellsAt hlt (j := 0) (by omega); rw [Nat.add_zero] at hc0 hf0; obtain ⟨⟨c2, hc2⟩, hf2⟩ := EO.out.cellsAt hlt (j := 2) (by omega); clear hR4 hf4))
      | (go_at_call 84; go_must (refine (l91Text_any R.out (by omega)).mono ?_; rintro e w5 ⟨t5, q5, rfl, htl, hR5, hq5, hf5⟩; have R := hid hR5; have F := hid (F.out.trans hf5); have EO := hid (EO.out.keep hf5 (by simp) (by simp) (by simp)); clear hR5 hf5))
      | (go_at_call 83; go_must (refine (l91Ops_any R.out (by omega) t5 htl).mono ?_; rintro e w6 ⟨v6, ops, q6, rfl, own6, hol, hR6, hq6, hf6⟩; have hs6 := F.out.size; have R := hid hR6; have F := hid (F.out.trans hf6); have EO := hid (EO.out.keep hf6 (by simp) (by simp) (by simp)); have OP := hid own6; obtain ⟨⟨c3, hc3⟩, hf3⟩ := EO.out.cellsAt hlt (j := 3) (by omega); obtain ⟨oa, ocap, rfl⟩ := own_any own6; clear hR6 hf6 own6)))
    all_goals go_ret
    all_goals first
      | exact ⟨_, es, _, rfl, EO.out, EF.out, R.out, by omega, F.out⟩
      | (obtain ⟨es', e1, e2, e3⟩ := EO.out.base1 EF.out hlt _; exact ⟨_, es', _, rfl, e1, e2, R.out.keep (e3.mono hB (fun _ x => x)) (by simp), by omega, F.out.after e3⟩)
      | (obtain ⟨es', e1, e2, e3⟩ := EO.out.kind1 EF.out hlt _; exact ⟨_, es', _, rfl, e1, e2, R.out.keep (e3.mono hB (fun _ x => x)) (by simp), by omega, F.out.after e3⟩)
      | (obtain ⟨es', e1, e2, e3⟩ := EO.out.ops1 EF.out hlt _ _ hs6 OP.out hol; exact ⟨_, es', _, rfl, e1, e2, R.out.keep (e3.mono hB (fun _ x => x)) (by simp), by omega, F.out.after e3⟩)

end Go.Proofs.Ytjgbconlpolddaa
