/- Objects whose rows of links are rows of their own, each another: what the program's copies, puts and FetchStore return. -/
import Derived.Test.YtjgbconlpolddaaQM7
set_option linter.unusedVariables false
set_option linter.unusedSimpArgs false
namespace Go.Proofs.Ytjgbconlpolddaa
open Go.RowKit
set_option linter.unusedVariables false

/-- Two values that share no block. -/
def Apart (a b : Value) : Prop := a.ownBlock = none ∨ a.ownBlock ≠ b.ownBlock

/-- Objects in a row of their own, the links of each in a row of their own, all apart. -/
def ObsSep (lo : Nat) (w : World) (v : Value) (os : List Ob) : Prop :=
  ∃ zs : List (Ob × Value), zs.map (·.1) = os ∧ w.ownsRow lo 40 3 v os.length (zs.flatMap encOb) ∧ (∀ z ∈ zs, w.ownsRow lo 3 1 z.2 z.1.links.length (z.1.links.map (Value.int .i64))) ∧ zs.Pairwise (fun a b => Apart a.2 b.2)

theorem ObsSep.own {lo : Nat} {w : World} {v : Value} {os : List Ob} (h : ObsSep lo w v os) : ObsOwn lo w v os := by
  obtain ⟨zs, h1, h2, h3, _⟩ := h
  exact ⟨zs, h1, h2, fun z hz => SlR.ofOwns (h3 z hz)⟩

theorem ObsSep.keep {lo B : Nat} {T : List Nat} {w w' : World} {v : Value} {os : List Ob} (h : ObsSep lo w v os) (hf : Fr B T w w') (h1 : 40 ∉ T) (h2 : 3 ∉ T) : ObsSep lo w' v os := by
  obtain ⟨zs, g1, g2, g3, g4⟩ := h
  exact ⟨zs, g1, ownsRow_keep g2 hf h1, fun z hz => ownsRow_keep (g3 z hz) hf h2, g4⟩

theorem ObsSep.grow {lo B : Nat} {w w' : World} {v : Value} {os : List Ob} (h : ObsSep lo w v os) (hf : Fr B [] w w') : ObsSep lo w' v os := h.keep hf (by simp) (by simp)

theorem ObsSep.lower {lo lo' : Nat} {w : World} {v : Value} {os : List Ob} (h : ObsSep lo w v os) (hl : lo' ≤ lo) : ObsSep lo' w v os := by
  obtain ⟨zs, g1, g2, g3, g4⟩ := h
  exact ⟨zs, g1, ownsRow_lo g2 hl, fun z hz => ownsRow_lo (g3 z hz) hl, g4⟩

theorem ObsSep.nil (lo : Nat) (w : World) : ObsSep lo w (.slice none 0 0) [] := ⟨[], rfl, World.ownsRow_nil _ _ _ _, (fun z hz => by cases hz), List.Pairwise.nil⟩

theorem ownBlock_lt {lo E sz : Nat} {w : World} {v : Value} {n : Nat} {cs : List Value} (h : w.ownsRow lo E sz v n cs) {b : Nat} (hb : v.ownBlock = some b) : b < w.heap.size := (h.lt b hb).2

theorem apart_new {lo lo' E sz n n' : Nat} {w w' : World} {v v' : Value} {cs cs' : List Value} (h : w.ownsRow lo E sz v n cs) (h' : w'.ownsRow lo' E sz v' n' cs') (hl : w.heap.size ≤ lo') : Apart v v' ∧ Apart v' v := by
  unfold Apart
  cases hv : v.ownBlock with
  | none =>
    cases hv' : v'.ownBlock with
    | none => exact ⟨.inl rfl, .inl rfl⟩
    | some b => exact ⟨.inl rfl, .inr (by simp)⟩
  | some a =>
    cases hv' : v'.ownBlock with
    | none => exact ⟨.inr (by simp), .inl rfl⟩
    | some b =>
      have h1 := (h.lt a hv).2
      have h2 := (h'.lt b hv').1
      refine ⟨.inr fun e => ?_, .inr fun e => ?_⟩ <;> (cases e; omega)

/-- Objects of which the first k have their links in rows of the call's own. -/
def HalfSep (lo k : Nat) (w : World) (v : Value) (os : List Ob) : Prop :=
  ∃ zs : List (Ob × Value), zs.map (·.1) = os ∧ w.ownsRow lo 40 3 v os.length (zs.flatMap encOb) ∧ (∀ j (hj : j < zs.length), (j < k → w.ownsRow lo 3 1 zs[j].2 zs[j].1.links.length (zs[j].1.links.map (Value.int .i64))) ∧ (k ≤ j → IntsR (old lo) w zs[j].2 zs[j].1.links)) ∧
    ∀ i j (hi : i < zs.length) (hj : j < zs.length), i < j → j < k → Apart zs[i].2 zs[j].2

theorem HalfSep.all {lo k : Nat} {w : World} {v : Value} {os : List Ob} (h : HalfSep lo k w v os) (hk : k = os.length) : ObsSep lo w v os := by
  obtain ⟨zs, h1, h2, h3, h4⟩ := h
  have hl : zs.length = os.length := by rw [← h1]; simp
  refine ⟨zs, h1, h2, fun z hz => ?_, List.pairwise_iff_getElem.2 fun i j hi hj hij => h4 i j hi hj hij (by omega)⟩
  obtain ⟨j, hj, rfl⟩ := List.mem_iff_getElem.1 hz
  exact (h3 j hj).1 (by omega)

/-- Object k's links, and the row behind a store there. -/
theorem HalfSep.step {lo k g cap : Nat} {w : World} {os : List Ob} (h : HalfSep lo k w (.slice (some ⟨g, 0, none⟩) os.length cap) os) (hk : k < os.length) :
    ∃ u : Value, w.cell? ⟨g, k * 3 + 1, none⟩ = some u ∧ w.frozen? ⟨g, k * 3 + 1, none⟩ = false ∧ IntsR (old lo) w u os[k].links ∧ lo ≤ g ∧ g < w.heap.size ∧
      ∀ (w1 : World) (u' : Value), Fr w.heap.size [] w w1 → lo ≤ w.heap.size → w1.ownsRow w.heap.size 3 1 u' os[k].links.length (os[k].links.map (Value.int .i64)) → HalfSep lo (k + 1) (w1.setCell ⟨g, k * 3 + 1, none⟩ u') (.slice (some ⟨g, 0, none⟩) os.length cap) os := by
  obtain ⟨zs, h1, h2, h3, h4⟩ := h
  have hl : zs.length = os.length := by rw [← h1]; simp
  have hkz : k < zs.length := by omega
  have e : os[k] = zs[k].1 := by
    have : (zs.map (·.1))[k]? = os[k]? := by rw [h1]
    rw [List.getElem?_map, List.getElem?_eq_getElem hkz, List.getElem?_eq_getElem hk] at this
    simpa using this.symm
  refine ⟨zs[k].2, ?_, h2.frozenAt _, by rw [e]; exact (h3 k hkz).2 (Nat.le_refl _), (h2.lt g rfl).1, (h2.lt g rfl).2, fun w1 u' hf hlw hu => ?_⟩
  · rw [h2.cellAt (k * 3 + 1) (by omega)]
    have := fmOb zs k 1 (by omega) hkz
    simpa [encOb] using this
  · have h2' := ownsRow_grow h2 hf
    obtain ⟨cur, hcur⟩ := own_tag h2'
    have hT := (Fr.refl lo [40] w1).setOld (p := ⟨g, k * 3 + 1, none⟩) hcur ((h2.lt g rfl).1) (by simp [otag]) u'
    have ⟨st1, _⟩ := h2'.stored (k * 3 + 1) u'
    rw [fmOb_set1 zs hkz] at st1
    refine ⟨_, (map_set_fstOb zs hkz u').trans h1, st1, fun j hj => ?_, fun i j hi hj hij hjk => ?_⟩
    · have hj' : j < zs.length := by simpa using hj
      rw [List.getElem_set]
      by_cases ej : k = j
      · subst ej
        simp only [if_true]
        refine ⟨fun _ => ?_, fun h => by omega⟩
        rw [← e]
        exact ownsRow_lo (ownsRow_keep hu hT (by simp)) hlw
      · simp only [if_neg ej]
        exact ⟨fun h => ownsRow_keep (ownsRow_grow ((h3 j hj').1 (by omega)) hf) hT (by simp), fun h => (((h3 j hj').2 (by omega)).grow hf).keep hT (Safe.old (Nat.le_refl _))⟩
    · have hi' : i < zs.length := by simpa using hi
      have hj' : j < zs.length := by simpa using hj
      rw [List.getElem_set, List.getElem_set, if_neg (show ¬ k = i by omega)]
      by_cases ej : k = j
      · rw [if_pos ej]
        exact (apart_new ((h3 i hi').1 (by omega)) hu (Nat.le_refl _)).1
      · rw [if_neg ej]
        exact h4 i j hi' hj' hij (by omega)

set_option maxRecDepth 20000 in
set_option maxHeartbeats 2000000 in
theorem copyObjects_sep (K : Nat → Bool → Prop) (v : Value) (os : List Ob) (w : World) (hv : ObsR K w v os) (hb : ∀ o ∈ os, o.links.length ≤ 1000000000) (hl : os.length ≤ 1000000000) :
    Calls Try.prog 60 #[v] w fun e w' => ∃ v', e = .returned v' ∧ ObsSep w.heap.size w' v' os ∧ Fr w.heap.size [] w w' := by
  have hv' := hv.weak (K' := old w.heap.size) (fun b t hb _ => hb)
  obtain ⟨a, cap, rfl, hcap, -⟩ := hv'.shape
  obtain ⟨zs, z1, z2, z3⟩ := hv'
  have Z1 := hid z1
  have Z2 := hid z2
  have Z3 := hid z3
  have HB := hid hb
  have hone := oneObs z3
  clear hv z1 z2 z3 hb
  go_enter Try.func60, Try.ntmps60
  go_wp2_with (go_at_call 93; go_must (refine (cloneOb_any (old w.heap.size) _ _ _ _ _ Z2.out hone hl).mono ?_; rintro e w1 ⟨v1, rfl, own1, fr1⟩; obtain ⟨a1, cap1, rfl⟩ := own_any own1; have O1 := hid own1; have F1 := hid fr1; clear own1 fr1))
  have H1 : HalfSep w.heap.size 0 w1 (.slice a1 os.length cap1) os :=
    ⟨zs, Z1.out, O1.out, fun j hj => ⟨fun h => absurd h (Nat.not_lt_zero _), fun _ => (Z3.out _ (List.getElem_mem hj)).grow F1.out⟩, fun i j hi hj hij hjk => absurd hjk (Nat.not_lt_zero _)⟩
  have HH1 := hid H1
  have hw1 := F1.out.size
  clear H1
  go_loopw [9] (fun i wr => ∃ k : Nat, k ≤ os.length ∧ i = .int .i64 k ∧ HalfSep w.heap.size k wr (.slice a1 os.length cap1) os ∧ Fr w.heap.size [] w wr) (fun i _ => os.length - (intOf i).toNat)
  case atStart => exact ⟨0, Nat.zero_le _, rfl, HH1.out, F1.out⟩
  case round =>
    obtain ⟨k, hk, rfl, hh, hfr⟩ := hrel
    have HH := hid hh
    clear hh
    by_cases hlt : k < os.length
    · obtain ⟨g, gcap, hg⟩ : ∃ g gcap, Value.slice a1 os.length cap1 = .slice (some ⟨g, 0, none⟩) os.length gcap := by
        obtain ⟨zs', y1, y2, y3⟩ := HH.out
        obtain ⟨g, gcap, hg, _⟩ := own_shape y2 (by omega)
        exact ⟨g, gcap, hg⟩
      cases hg
      obtain ⟨u, u1, u2, u3, u4, u5, u6⟩ := HH.out.step hlt
      obtain ⟨ua, ucap, rfl, _, _⟩ := u3.shape
      have hul := HB.out _ (List.getElem_mem hlt)
      have U3 := hid u3
      have U6 := hid u6
      have hki : (k : Int) < (os.length : Int) := by omega
      have hwr := hfr.size
      clear u3 u6
      go_wp2_with (go_at_call 38; go_must (refine (cloneI_any (old w.heap.size) _ _ _ _ _ U3.out (oneI _) hul).mono ?_; rintro e w2 ⟨v2, rfl, own2, fr2⟩; obtain ⟨a2, cap2, rfl⟩ := own_any own2; have FW := hid fr2; have OWN2 := hid own2; have d1 := FW.out.cell u5 u1; have d2 := FW.out.free u5 u1 u2; have d4 := Nat.lt_of_lt_of_le u5 FW.out.size; clear own2 fr2))
      go_roundw
      case rel =>
        have ST := U6.out w2 (.slice a2 os[k].links.length cap2) FW.out hwr OWN2.out
        exact ⟨k + 1, by omega, by go_num, ST, (hfr.trans FW.out.nil).setNew u4 _⟩
      case measure => simp [intOf]; omega
    · obtain rfl : k = os.length := by omega
      have RO := HH.out.all rfl
      go_wp2
      go_ret
      exact ⟨_, rfl, RO, hfr⟩

theorem ObsSep.ins {lo : Nat} {w' : World} {v' : Value} {os : List Ob} {o : Ob} {u : Value} {zs : List (Ob × Value)} {k : Nat} (g1 : zs.map (·.1) = os) (g3 : ∀ z ∈ zs, w'.ownsRow lo 3 1 z.2 z.1.links.length (z.1.links.map (Value.int .i64)))
    (hu : w'.ownsRow lo 3 1 u o.links.length (o.links.map (Value.int .i64))) (g4 : zs.Pairwise (fun a b => Apart a.2 b.2)) (hap : ∀ z ∈ zs, Apart z.2 u ∧ Apart u z.2) (hk : k ≤ os.length) (hown : w'.ownsRow lo 40 3 v' (os.length + 1) ((zs.flatMap encOb).take (k * 3) ++ [.int .i64 o.kind, u, .string (tx o.text)] ++ (zs.flatMap encOb).drop (k * 3))) : ObsSep lo w' v' (os.take k ++ o :: os.drop k) := by
  subst g1
  have hl : k ≤ zs.length := by simpa using hk
  refine ⟨zs.take k ++ (o, u) :: zs.drop k, by simp, ?_, fun z hz => ?_, ?_⟩
  · have e : (List.take k (zs.map (·.1)) ++ o :: List.drop k (zs.map (·.1))).length = (zs.map (·.1)).length + 1 := by simp; omega
    rw [e]
    rw [flat_take, flat_drop] at hown
    simpa [encOb] using hown
  · rcases List.mem_append.1 hz with hz | hz
    · exact g3 z (List.mem_of_mem_take hz)
    · rcases List.mem_cons.1 hz with rfl | hz
      · exact hu
      · exact g3 z (List.mem_of_mem_drop hz)
  · have g4' := g4
    rw [← List.take_append_drop k zs, List.pairwise_append] at g4'
    rw [List.pairwise_append, List.pairwise_cons]
    refine ⟨g4'.1, ⟨fun z hz => (hap z (List.mem_of_mem_drop hz)).2, g4'.2.1⟩, fun a ha z hz => ?_⟩
    rcases List.mem_cons.1 hz with rfl | hz
    · exact (hap a (List.mem_of_mem_take ha)).1
    · exact g4'.2.2 a ha z hz

theorem row_up {lo n X : Nat} {w5 w6 : World} {v x : Value} {cs : List Value} {cur : Array Value} {f : Nat × Nat} {o : Obj} (h : w5.ownsRow lo 40 3 v n cs) (hf : Fr w5.heap.size [] w5 w6) (hb : w6.heap[X]? = some (.cells cur 40 f)) (hX : X < lo) : ((w6.setCell ⟨X, 1, none⟩ x).alloc o).ownsRow lo 40 3 v n cs :=
  ownsRow_grow ((ownsRow_grow h hf).kept (grownBy_set w6 X 1 x) (.inr fun e => by have := (h.lt X e).1; omega)) ((Fr.refl 0 [] _).alloc _)

theorem int_up {lo n X : Nat} {w5 w6 : World} {v x : Value} {cs : List Value} {cur : Array Value} {f : Nat × Nat} {o : Obj} (h : w5.ownsRow lo 3 1 v n cs) (hf : Fr w5.heap.size [] w5 w6) (hb : w6.heap[X]? = some (.cells cur 40 f)) : ((w6.setCell ⟨X, 1, none⟩ x).alloc o).ownsRow lo 3 1 v n cs :=
  ownsRow_grow (ownsRow_keep (ownsRow_grow h hf) (F_set hb 1 x) (by simp)) ((Fr.refl 0 [] _).alloc _)

theorem ObsSep.setBox {lo : Nat} {W : World} {v : Value} {os : List Ob} (h : ObsSep lo W v os) {X : Nat} {cs : Array Value} {f : Nat × Nat} (hb : W.heap[X]? = some (.cells cs 40 f)) (hX : X < lo) (j : Nat) (x : Value) : ObsSep lo (W.setCell ⟨X, j, none⟩ x) v os := by
  have F : Fr 0 [40] W (W.setCell ⟨X, j, none⟩ x) := (Fr.refl 0 [40] W).setOld (p := ⟨X, j, none⟩) hb (Nat.zero_le _) (by simp [otag]) x
  have hn := h.own.notBlock (X := X) (.inl hX)
  obtain ⟨zs, g1, g2, g3, g4⟩ := h
  exact ⟨zs, g1, g2.kept (grownBy_set W X j x) (.inr hn), fun z hz => ownsRow_keep (g3 z hz) F (by simp), g4⟩

set_option maxRecDepth 20000 in
set_option maxHeartbeats 4000000 in
theorem implPut_sep (K K' : Nat → Bool → Prop) (v vo : Value) (os : List Ob) (o : Ob) (w : World) (hv : ObsR K w v os) (ho : IntsR K' w vo o.links) (hok : stOk os = true) (hoo : obOk o = true) :
    Calls Try.prog 85 #[v, .agg #[.int .i64 o.kind, vo, .string (tx o.text)]] w fun e w' => ∃ v', e = .returned (.tuple #[v', .bool (put os o).2]) ∧ ObsSep w.heap.size w' v' (put os o).1 ∧ Fr w.heap.size [] w w' := by
  obtain ⟨a, cap, rfl, hcap, -⟩ := hv.shape
  obtain ⟨a', cap', rfl, hcap', -⟩ := ho.shape
  have hol := (obOk_len hoo).1
  have hl16 := (stOk_iff.1 hok).1
  have hob : ∀ p ∈ os, p.links.length ≤ 1000000000 := fun p hp => by have := (obOk_len ((stOk_iff.1 hok).2.1 p hp)).1; omega
  have HOB := hid hob
  have F0 := hid ((Fr.refl w.heap.size [] w).alloc (.cells #[.int .i64 o.kind, .slice a' o.links.length cap', .string (tx o.text)] 40))
  have B0 := hid (heap_alloc_new w (.cells #[.int .i64 o.kind, .slice a' o.links.length cap', .string (tx o.text)] 40))
  have HV := hid (hv.grow F0.out)
  have HO := hid (ho.grow F0.out)
  have OK := hid hok
  have OO := hid hoo
  have hoi := oid_in hoo
  have hkl := findK_le os (oid o)
  have PS := hid (fun h hk => put_same (os := os) (o := o) h hk)
  have PF := hid (fun h hl => put_full (os := os) (o := o) h hl)
  have PN := hid (fun h hl => put_new (os := os) (o := o) h hl)
  have HS := hid (fun h => hasK_some (os := os) (id := oid o) h)
  have FOBJ := hid (fun (K0 : Nat → Bool → Prop) (v0 : Value) (w0 : World) (h : ObsR K0 w0 v0 os) => findObject_any K0 v0 os (oid o) w0 h hok hoi.1 hoi.2)
  generalize findK os (oid o) = k at *
  clear hv ho hob hok hoo
  cases hh : hasK os (oid o)
  · have HH := hid hh
    by_cases h16 : os.length < 16
    · have i16 : ¬ (os.length : Int) = 16 := by omega
      have PN2 := hid (PN.out hh h16)
      clear hh PS PF PN HS
      generalize put os o = pp at *
      obtain ⟨pl, pb⟩ := pp
      obtain ⟨rfl, rfl⟩ : pl = os.take k ++ o :: os.drop k ∧ pb = true := by have := PN2.out; simp at this; exact this
      clear PN2
      dsimp only
      go_enter Try.func85, Try.ntmps85
      go_wp2_with (first
        | (go_at_call 23; go_must (refine (implStoreValid_any _ _ os _ HV.out HOB.out (by omega)).mono ?_; rintro e w1 ⟨rfl, fr1⟩; rw [OK.out]; have F1 := hid (F0.out.trans fr1.nil); have B1 := hid (fr1.keep _ _ B0.out (.inr (by simp))); have c0 := cell_of (o := 0) B1.out rfl; have c1 := cell_of (o := 1) B1.out rfl; have c2 := cell_of (o := 2) B1.out rfl; have FR1 := hid fr1; clear fr1))
        | (go_at_call 37; go_must (refine (ok_any _ _ o _ (HO.out.grow FR1.out) (by omega)).mono ?_; rintro e w2 ⟨rfl, fr2⟩; rw [OO.out]; have F2 := hid (F1.out.trans fr2.nil); have B2 := hid (fr2.keep _ _ B1.out (.inr (by simp))); have FR2 := hid (FR1.out.trans fr2.nil); clear fr2 c0 c1 c2))
        | (go_at_call 60; go_must (refine (copyObjects_sep _ _ os _ (HV.out.grow FR2.out) HOB.out (by omega)).mono ?_; rintro e w3 ⟨v3, rfl, own3, fr3⟩; have hq3 := fr3.size; have F3 := hid (F2.out.trans fr3.nil); have B3 := hid (fr3.keep _ _ B2.out (.inr (by simp))); have FR3 := hid (FR2.out.trans fr3.nil); have OWN3 := hid own3; have hs2 := F2.out.size; have hlt2 := lt_of_get B2.out; obtain ⟨a3, cap3, rfl, _, _⟩ := own3.own.reads.shape; have c0 := cell_of (o := 0) B3.out rfl; have c1 := cell_of (o := 1) B3.out rfl; have c2 := cell_of (o := 2) B3.out rfl; clear fr3 own3))
        | (go_at_call 51; go_must (refine (id_any _ _ o _ (HO.out.grow FR3.out) OO.out).mono ?_; rintro e w4 ⟨rfl, fr4⟩; have hq4 := fr4.size; have F4 := hid (F3.out.trans fr4.nil); have B4 := hid (fr4.keep _ _ B3.out (.inr (by simp))); have FR4 := hid (FR3.out.trans fr4.nil); have OWN4 := hid (OWN3.out.grow fr4); clear fr4 c0 c1 c2))
        | (go_at_call 59; go_must (refine (FOBJ.out _ _ _ OWN4.out.own.reads).mono ?_; rintro e w5 ⟨rfl, fr5⟩; rw [HH.out]; have hq5 := fr5.size; have F5 := hid (F4.out.trans fr5.nil); have B5 := hid (fr5.keep _ _ B4.out (.inr (by simp))); have FR5 := hid (FR4.out.trans fr5.nil); have OWN5 := hid (OWN4.out.grow fr5); have c0 := cell_of (o := 0) B5.out rfl; have c1 := cell_of (o := 1) B5.out rfl; have c2 := cell_of (o := 2) B5.out rfl; clear fr5))
        | (go_at_call 38; go_must (refine (cloneI_any _ _ _ _ _ _ (HO.out.grow FR5.out) (oneI _) (by omega)).mono ?_; rintro e w6 ⟨v6, rfl, own6, fr6⟩; have FR6 := hid fr6; obtain ⟨a6, cap6, rfl⟩ := own_any own6; have hq6 := fr6.size; have F6 := hid (F5.out.trans fr6.nil); have B6 := hid (fr6.keep _ _ B5.out (.inr (by simp))); have OWN6 := hid (OWN5.out.grow fr6); have L6 := hid own6; have hs5 := F5.out.size; have hs6 := F6.out.size; have d0 := cell_of (o := 0) B6.out rfl; have d1 := cell_of (o := 1) B6.out rfl; have d2 := cell_of (o := 2) B6.out rfl; have df := fun o => free_of (o := o) B6.out; have dl := lt_of_get B6.out; clear fr6 own6 c0 c1 c2))
        | (go_at_call 106; go_must (obtain ⟨zs, z1, z2, z3, z4⟩ := OWN5.out; have AP := hid (fun z hz => apart_new (z3 z hz) L6.out (Nat.le_refl _)); have hsz6 : (w6.setCell ⟨w.heap.size, 1, none⟩ (.slice a6 o.links.length cap6)).heap.size = w6.heap.size := (by simp [World.setCell]); have NB := hid (OWN6.out.own.notBlock (X := w6.heap.size) (.inr (Nat.le_refl _))); have L7 := hid (ownsRow_grow (ownsRow_keep L6.out (F_set B6.out 1 (.slice a6 o.links.length cap6)) (by simp)) ((Fr.refl 0 [] _).alloc (.cells #[.int .i64 o.kind, .slice a6 o.links.length cap6, .string (tx o.text)] 40))); have F7 := hid ((F6.out.setNew (p := ⟨w.heap.size, 1, none⟩) (Nat.le_refl _) (.slice a6 o.links.length cap6)).alloc (.cells #[.int .i64 o.kind, .slice a6 o.links.length cap6, .string (tx o.text)] 40)); have z2 := row_up (x := .slice a6 o.links.length cap6) (o := .cells #[.int .i64 o.kind, .slice a6 o.links.length cap6, .string (tx o.text)] 40) z2 FR6.out B6.out hlt2; have z3 := fun z hz => int_up (x := .slice a6 o.links.length cap6) (o := .cells #[.int .i64 o.kind, .slice a6 o.links.length cap6, .string (tx o.text)] 40) (z3 z hz) FR6.out B6.out; have Z1 := hid z1; have Z3 := hid z3; have Z4 := hid z4; refine (insert_any (lo := w2.heap.size) _ os.length k w6.heap.size (zs.flatMap encOb) [.int .i64 o.kind, .slice a6 o.links.length cap6, .string (tx o.text)] _ z2 (by simp; omega) hkl (by omega) (heap_alloc_eq _ _ hsz6.symm) rfl NB.out (oneObs (fun z hz => SlR.ofOwns (z3 z hz))) (oneOb3 _ _ _ _ _)).mono ?_; rintro e w8 ⟨v8, rfl, own8, fr8⟩; have OWN8 := hid own8; have F8 := hid fr8; clear own8 fr8 z1 z2 z3 z4)))
      go_ret2
      exact ⟨_, rfl, ObsSep.ins (k := k) Z1.out (fun z hz => ownsRow_lo (ownsRow_keep (Z3.out z hz) F8.out (by simp)) (by omega)) (ownsRow_lo (ownsRow_keep L7.out F8.out (by simp)) (by omega)) Z4.out AP.out hkl (ownsRow_lo OWN8.out (by omega)), F7.out.after (F8.out.mono (by omega) (fun _ h => h))⟩
    · have i16 : (os.length : Int) = 16 := by omega
      have PF2 := hid (PF.out hh h16)
      clear hh PS PF PN HS h16
      generalize put os o = pp at *
      obtain ⟨pl, pb⟩ := pp
      obtain ⟨rfl, rfl⟩ : os = pl ∧ pb = false := by have := PF2.out; simp at this; exact ⟨this.1.symm, this.2⟩
      clear PF2
      dsimp only
      go_enter Try.func85, Try.ntmps85
      go_wp2_with (first
        | (go_at_call 23; go_must (refine (implStoreValid_any _ _ os _ HV.out HOB.out (by omega)).mono ?_; rintro e w1 ⟨rfl, fr1⟩; rw [OK.out]; have F1 := hid (F0.out.trans fr1.nil); have B1 := hid (fr1.keep _ _ B0.out (.inr (by simp))); have c0 := cell_of (o := 0) B1.out rfl; have c1 := cell_of (o := 1) B1.out rfl; have c2 := cell_of (o := 2) B1.out rfl; have FR1 := hid fr1; clear fr1))
        | (go_at_call 37; go_must (refine (ok_any _ _ o _ (HO.out.grow FR1.out) (by omega)).mono ?_; rintro e w2 ⟨rfl, fr2⟩; rw [OO.out]; have F2 := hid (F1.out.trans fr2.nil); have B2 := hid (fr2.keep _ _ B1.out (.inr (by simp))); have FR2 := hid (FR1.out.trans fr2.nil); clear fr2 c0 c1 c2))
        | (go_at_call 60; go_must (refine (copyObjects_sep _ _ os _ (HV.out.grow FR2.out) HOB.out (by omega)).mono ?_; rintro e w3 ⟨v3, rfl, own3, fr3⟩; have hq3 := fr3.size; have F3 := hid (F2.out.trans fr3.nil); have B3 := hid (fr3.keep _ _ B2.out (.inr (by simp))); have FR3 := hid (FR2.out.trans fr3.nil); have OWN3 := hid own3; have hs2 := F2.out.size; have hlt2 := lt_of_get B2.out; obtain ⟨a3, cap3, rfl, _, _⟩ := own3.own.reads.shape; have c0 := cell_of (o := 0) B3.out rfl; have c1 := cell_of (o := 1) B3.out rfl; have c2 := cell_of (o := 2) B3.out rfl; clear fr3 own3))
        | (go_at_call 51; go_must (refine (id_any _ _ o _ (HO.out.grow FR3.out) OO.out).mono ?_; rintro e w4 ⟨rfl, fr4⟩; have hq4 := fr4.size; have F4 := hid (F3.out.trans fr4.nil); have B4 := hid (fr4.keep _ _ B3.out (.inr (by simp))); have FR4 := hid (FR3.out.trans fr4.nil); have OWN4 := hid (OWN3.out.grow fr4); clear fr4 c0 c1 c2))
        | (go_at_call 59; go_must (refine (FOBJ.out _ _ _ OWN4.out.own.reads).mono ?_; rintro e w5 ⟨rfl, fr5⟩; rw [HH.out]; have hq5 := fr5.size; have F5 := hid (F4.out.trans fr5.nil); have B5 := hid (fr5.keep _ _ B4.out (.inr (by simp))); have FR5 := hid (FR4.out.trans fr5.nil); have OWN5 := hid (OWN4.out.grow fr5); have c0 := cell_of (o := 0) B5.out rfl; have c1 := cell_of (o := 1) B5.out rfl; have c2 := cell_of (o := 2) B5.out rfl; clear fr5)))
      go_ret2
      exact ⟨_, rfl, OWN5.out.lower (by omega), F5.out⟩
  · have HH := hid hh
    obtain ⟨hlt, heq⟩ := HS.out hh
    have PS2 := hid (PS.out hh hlt)
    have hki : (k : Int) < (os.length : Int) := by omega
    have OKk := hid (stOk_at OK.out hlt)
    have hil := (obOk_len OKk.out).1
    clear hh PS PF PN HS heq
    generalize put os o = pp at *
    obtain ⟨pl, pb⟩ := pp
    obtain ⟨rfl, hpb⟩ : os = pl ∧ pb = decide (os[k] = o) := by have := PS2.out; simp only [Prod.mk.injEq] at this; exact ⟨this.1.symm, this.2⟩
    have HPB := hid hpb
    clear PS2 hpb
    dsimp only
    go_enter Try.func85, Try.ntmps85
    go_wp2_with (first
        | (go_at_call 23; go_must (refine (implStoreValid_any _ _ os _ HV.out HOB.out (by omega)).mono ?_; rintro e w1 ⟨rfl, fr1⟩; rw [OK.out]; have F1 := hid (F0.out.trans fr1.nil); have B1 := hid (fr1.keep _ _ B0.out (.inr (by simp))); have c0 := cell_of (o := 0) B1.out rfl; have c1 := cell_of (o := 1) B1.out rfl; have c2 := cell_of (o := 2) B1.out rfl; have FR1 := hid fr1; clear fr1))
        | (go_at_call 37; go_must (refine (ok_any _ _ o _ (HO.out.grow FR1.out) (by omega)).mono ?_; rintro e w2 ⟨rfl, fr2⟩; rw [OO.out]; have F2 := hid (F1.out.trans fr2.nil); have B2 := hid (fr2.keep _ _ B1.out (.inr (by simp))); have FR2 := hid (FR1.out.trans fr2.nil); clear fr2 c0 c1 c2))
        | (go_at_call 60; go_must (refine (copyObjects_sep _ _ os _ (HV.out.grow FR2.out) HOB.out (by omega)).mono ?_; rintro e w3 ⟨v3, rfl, own3, fr3⟩; have hq3 := fr3.size; have F3 := hid (F2.out.trans fr3.nil); have B3 := hid (fr3.keep _ _ B2.out (.inr (by simp))); have FR3 := hid (FR2.out.trans fr3.nil); have OWN3 := hid own3; have hs2 := F2.out.size; have hlt2 := lt_of_get B2.out; obtain ⟨a3, cap3, rfl, _, _⟩ := own3.own.reads.shape; have c0 := cell_of (o := 0) B3.out rfl; have c1 := cell_of (o := 1) B3.out rfl; have c2 := cell_of (o := 2) B3.out rfl; clear fr3 own3))
        | (go_at_call 51; go_must (refine (id_any _ _ o _ (HO.out.grow FR3.out) OO.out).mono ?_; rintro e w4 ⟨rfl, fr4⟩; have hq4 := fr4.size; have F4 := hid (F3.out.trans fr4.nil); have B4 := hid (fr4.keep _ _ B3.out (.inr (by simp))); have FR4 := hid (FR3.out.trans fr4.nil); have OWN4 := hid (OWN3.out.grow fr4); clear fr4 c0 c1 c2))
        | (go_at_call 59; go_must (refine (FOBJ.out _ _ _ OWN4.out.own.reads).mono ?_; rintro e w5 ⟨rfl, fr5⟩; rw [HH.out]; have hq5 := fr5.size; have F5 := hid (F4.out.trans fr5.nil); have B5 := hid (fr5.keep _ _ B4.out (.inr (by simp))); have FR5 := hid (FR4.out.trans fr5.nil); have OWN5 := hid (OWN4.out.grow fr5); have c0 := cell_of (o := 0) B5.out rfl; have c1 := cell_of (o := 1) B5.out rfl; have c2 := cell_of (o := 2) B5.out rfl; clear fr5)))
    obtain ⟨a5, cap5, hva5, -, hcell5⟩ := OWN5.out.own.reads.shape
    cases hva5
    rcases hcell5 with hh | ⟨b, off, rfl, hbs, hcell5⟩
    · rw [hh] at hlt; cases hlt
    obtain ⟨u, h0, h1, h2, hu⟩ := hcell5 k hlt
    obtain ⟨ua, ucap, rfl, _, _⟩ := hu.shape
    have HU := hid hu
    have hbx := lt_of_get B5.out
    clear hu hcell5
    generalize os[k] = p at *
    have fr1 : Fr w5.heap.size [] w5 w5.drew := (Fr.refl w5.heap.size [] w5).drew
    first
    | go_region_held3 (fun x => x.cell? ⟨b, off + k * 3, none⟩ = some (.int .i64 p.kind) ∧ x.cell? ⟨b, off + k * 3 + 1, none⟩ = some (.slice ua p.links.length ucap) ∧ x.cell? ⟨b, off + k * 3 + 2, none⟩ = some (.string (tx p.text)) ∧ x.cell? ⟨w.heap.size, 0, none⟩ = some (.int .i64 o.kind) ∧ x.cell? ⟨w.heap.size, 1, none⟩ = some (.slice a' o.links.length cap') ∧ x.cell? ⟨w.heap.size, 2, none⟩ = some (.string (tx o.text)))
      (exact ⟨fr1.cell hbs h0, fr1.cell hbs h1, fr1.cell hbs h2, fr1.cell hbx c0, fr1.cell hbx c1, fr1.cell hbx c2⟩)
      (first
        | (go_at_call 105; go_must (refine (implSame_any _ _ _ _ p o _ (HU.out.grow fr1) ((HO.out.grow FR5.out).grow fr1) (by omega) (by omega)).mono ?_; rintro e w6 ⟨rfl, fr⟩; have fr1 : Fr w5.heap.size [] w5 w6 := fr1.trans fr)))
    | fail
    go_wp2
    go_ret2
    refine ⟨.slice (some ⟨b, off, none⟩) os.length cap3, ?_, (OWN5.out.grow fr1).lower (by omega), F5.out.trans fr1.nil⟩
    have e := HPB.out
    subst e
    rfl

set_option maxRecDepth 20000 in
set_option maxHeartbeats 4000000 in
theorem implAll_sep (K K' : Nat → Bool → Prop) (v vl : Value) (os list : List Ob) (w : World) (hv : ObsR K w v os) (hl : ObsR K' w vl list) (hok : stOk os = true) (hlo : ∀ o ∈ list, obOk o = true) (hll : list.length ≤ 1000000) :
    Calls Try.prog 54 #[v, vl] w fun e w' => ∃ v', e = .returned (.tuple #[v', .bool (putAll os list).isSome]) ∧ ObsSep w.heap.size w' v' ((putAll os list).getD []) ∧ Fr w.heap.size [] w w' := by
  obtain ⟨a, cap, rfl, hcap, -⟩ := hv.shape
  obtain ⟨a', cap', rfl, hcap', hcell⟩ := hl.shape
  have hl16 := (stOk_iff.1 hok).1
  have hob : ∀ p ∈ os, p.links.length ≤ 1000000000 := fun p hp => by have := (obOk_len ((stOk_iff.1 hok).2.1 p hp)).1; omega
  have HOB := hid hob
  have HV := hid hv
  have HC := hid hcell
  have OK := hid hok
  have LO := hid hlo
  have PE := hid (show putAll os list = putTo os list list.length from rfl)
  generalize putAll os list = R at *
  clear hv hl hcell hob hok hlo
  go_enter Try.func54, Try.ntmps54
  go_wp2_with (go_at_call 60; go_must (refine (copyObjects_sep _ _ os _ HV.out HOB.out (by omega)).mono ?_; rintro e w3 ⟨v3, rfl, own3, fr3⟩; have F3 := hid fr3; have OWN3 := hid own3; clear fr3 own3))
  go_loopw [6, 15] (fun vo vi wx => ∃ (k : Nat) (xs : List Ob), k ≤ list.length ∧ vi = .int .i64 k ∧ putTo os list k = some xs ∧ ObsSep w.heap.size wx vo xs ∧ Fr w.heap.size [] w wx) (fun _ vi _ => list.length - (intOf vi).toNat)
  case atStart => exact ⟨0, os, Nat.zero_le _, rfl, rfl, OWN3.out, F3.out⟩
  case round =>
    obtain ⟨k, xs, hk, rfl, hto, hown, hfr⟩ := hrel
    have TO := hid hto
    have OWN := hid hown
    have XOK := hid (putTo_ok OK.out LO.out hk hto).1
    have hwr := hfr.size
    obtain ⟨va, vcap, rfl, _, _⟩ := hown.own.reads.shape
    clear hto hown
    by_cases hlt : k < list.length
    · rcases HC.out with hh | ⟨b, off, rfl, hbs, hcell⟩
      · rw [hh] at hlt; cases hlt
      · obtain ⟨u, h0, h1, h2, hu⟩ := hcell k hlt
        obtain ⟨ua, ucap, rfl, _, _⟩ := hu.shape
        have c0 := hfr.cell hbs h0
        have c1 := hfr.cell hbs h1
        have c2 := hfr.cell hbs h2
        have HU := hid (hu.grow hfr)
        have hki : (k : Int) < (list.length : Int) := by omega
        have OO := hid (LO.out _ (List.getElem_mem hlt))
        have SU := hid (putTo_succ hlt TO.out)
        have NN := hid (fun h => putTo_none (os := os) (list := list) (k := k + 1) h list.length hlt)
        clear h0 h1 h2 hu hcell
        generalize list[k] = o at *
        have FB := hid ((Fr.refl wr.heap.size [] wr).alloc (.cells #[.int .i64 o.kind, .slice ua o.links.length ucap, .string (tx o.text)] 40))
        obtain ⟨px, pb, hpp⟩ : ∃ px pb, put xs o = (px, pb) := ⟨_, _, rfl⟩
        have SU := hid (show putTo os list (k + 1) = if pb = true then some px else none by rw [SU.out, hpp])
        cases pb
        · have NO := hid (show R = none from by rw [PE.out]; exact NN.out (by rw [SU.out]; rfl))
          clear SU NN
          go_wp2_with (go_at_call 85; go_must (refine (implPut_sep _ _ _ _ xs o _ (OWN.out.grow FB.out).own.reads (HU.out.grow FB.out) XOK.out OO.out).mono ?_; rintro e w4 ⟨v4, rfl, own4, fr4⟩; rw [hpp]; have F4 := hid (hfr.trans (FB.out.trans fr4.nil).nil); clear fr4 own4))
          go_ret2
          refine ⟨.slice none 0 0, ?_, ?_, F4.out⟩
          · rw [NO.out]; rfl
          · rw [NO.out]; exact ObsSep.nil _ _
        · have NX := hid (show putTo os list (k + 1) = some px from by rw [SU.out]; rfl)
          clear SU NN
          go_wp2_with (go_at_call 85; go_must (refine (implPut_sep _ _ _ _ xs o _ (OWN.out.grow FB.out).own.reads (HU.out.grow FB.out) XOK.out OO.out).mono ?_; rintro e w4 ⟨v4, rfl, own4, fr4⟩; rw [hpp] at own4; rw [hpp]; have OWN4 := hid own4; have F4 := hid (hfr.trans (FB.out.trans fr4.nil).nil); clear fr4 own4))
          go_roundw
          case rel => exact ⟨k + 1, px, by omega, by go_num, NX.out, OWN4.out.lower (by simp; omega), F4.out⟩
          case measure => simp [intOf]; omega
    · obtain rfl : k = list.length := by omega
      have RS := hid (show R = some xs from by rw [PE.out, TO.out])
      go_wp2
      go_ret2
      refine ⟨.slice va xs.length vcap, ?_, ?_, hfr⟩
      · have e := RS.out
        subst e
        rfl
      · rw [RS.out]; exact OWN.out

set_option maxRecDepth 20000 in
set_option maxHeartbeats 4000000 in
theorem implFetch_sep (K K' : Nat → Bool → Prop) (v vp : Value) (os : List Ob) (es : List En) (w : World) (hv : ObsR K w v os) (hp : EnsR K' w vp es) (hm : Mild K' w.heap.size) (hob : ∀ p ∈ os, p.links.length ≤ 1000000000) (hol : os.length ≤ 1000000000) (hbl : ∀ e ∈ es, e.links.length ≤ 1000000000) :
    Calls Try.prog 18 #[v, vp] w fun e w' => ∃ v', e = .returned (.tuple #[v', .bool (fetch os es).isSome]) ∧ ObsSep w.heap.size w' v' ((fetch os es).getD []) ∧ Fr w.heap.size [] w w' := by
  obtain ⟨a, cap, rfl, hcap, -⟩ := hv.shape
  obtain ⟨a', cap', rfl, hcap', -⟩ := hp.shape
  have HV := hid hv
  have HP := hid hp
  have HOB := hid hob
  have HBL := hid hbl
  have FE := hid (show fetch os es = (match unpack es with | some list => if stOk os = true then putAll os list else none | none => none) from rfl)
  generalize fetch os es = R at *
  clear hv hp hob hbl
  cases hu : unpack es with
  | none =>
    have HU := hid hu
    have NO := hid (show R = none by rw [FE.out, hu])
    clear FE hu
    go_enter Try.func18, Try.ntmps18
    go_wp2_with (go_at_call 13; go_must (refine (implPackObjects_any K' _ es _ HP.out hm HBL.out).mono ?_; rintro e w1 ⟨fr1, hres⟩; obtain rfl := none_of HU.out hres; have F1 := hid fr1; clear fr1 hres))
    go_ret2
    refine ⟨.slice none 0 0, ?_, ?_, F1.out⟩
    · rw [NO.out]; rfl
    · rw [NO.out]; exact ObsSep.nil _ _
  | some list =>
    obtain ⟨hl, hll, hlok⟩ := unpack_ok hu
    have HU := hid hu
    have LOK := hid hlok
    have FE2 := hid (show R = if stOk os = true then putAll os list else none by rw [FE.out, hu])
    clear FE hu hlok
    cases hok : stOk os
    · have OK := hid hok
      have NO := hid (show R = none by rw [FE2.out, hok]; rfl)
      clear FE2 hok
      go_enter Try.func18, Try.ntmps18
      go_wp2_with (first
        | (go_at_call 13; go_must (refine (implPackObjects_any K' _ es _ HP.out hm HBL.out).mono ?_; rintro e w1 ⟨fr1, hres⟩; obtain ⟨v1, rfl, own1⟩ := unpacked_of HU.out hres; have F1 := hid fr1; clear fr1 hres own1))
        | (go_at_call 23; go_must (refine (implStoreValid_any _ _ os _ (HV.out.grow F1.out) HOB.out hol).mono ?_; rintro e w2 ⟨rfl, fr2⟩; rw [OK.out]; have F2 := hid (F1.out.trans fr2.nil); clear fr2)))
      go_ret2
      refine ⟨.slice none 0 0, ?_, ?_, F2.out⟩
      · rw [NO.out]; rfl
      · rw [NO.out]; exact ObsSep.nil _ _
    · have OK := hid hok
      have RS := hid (show R = putAll os list by rw [FE2.out, hok]; rfl)
      clear FE2 hok
      go_enter Try.func18, Try.ntmps18
      go_wp2_with (first
        | (go_at_call 13; go_must (refine (implPackObjects_any K' _ es _ HP.out hm HBL.out).mono ?_; rintro e w1 ⟨fr1, hres⟩; obtain ⟨v1, rfl, own1⟩ := unpacked_of HU.out hres; have F1 := hid fr1; have OWN1 := hid own1; clear fr1 hres own1))
        | (go_at_call 23; go_must (refine (implStoreValid_any _ _ os _ (HV.out.grow F1.out) HOB.out hol).mono ?_; rintro e w2 ⟨rfl, fr2⟩; rw [OK.out]; have F2 := hid (F1.out.trans fr2.nil); have OWN2 := hid (OWN1.out.grow fr2); clear fr2))
        | (go_at_call 54; go_must (refine (implAll_sep _ _ _ _ os list _ (HV.out.grow F2.out) OWN2.out.reads OK.out LOK.out (by omega)).mono ?_; rintro e w3 ⟨v3, rfl, own3, fr3⟩; have F3 := hid (F2.out.trans fr3.nil); have OWN3 := hid own3; have hs := F2.out.size; clear fr3 own3)))
      go_ret2
      refine ⟨v3, ?_, ?_, F3.out⟩
      · have e := RS.out
        subst e
        rfl
      · rw [RS.out]; exact OWN3.out.lower hs

end Go.Proofs.Ytjgbconlpolddaa
