/- The reference's l1Put. -/
import Derived.Test.YtjgbconlpolddaaGreatQM7
set_option linter.unusedVariables false
set_option linter.unusedSimpArgs false
namespace Go.Proofs.YtjgbconlpolddaaGreat
open Go.RowKit
set_option linter.unusedVariables false

/-- append as one step of a region that draws, with what grew. -/
theorem step_apG {P : Program} {w : World} {ops : Array Oper} {o : Oper} {a : Act} {K' : Act → World → Prop} {Q : Exit → Act → World → Prop} {E0 : Prop} (hgd : o.guard = none) (s x : Operand) (t : TypeId)
    (ho : o.op = .call { callee := .builtin .append, args := #[s, x], argTypes := #[t, t] })
    (lo : Nat) (e : TypeId) (i : TypeInfo) (z : Value) (size bytes : Nat) (ht : P.underlying t = some (.slice e)) (hi : P.info? e = some i) (hz : i.zero = some z)
    (hsize : i.size = size) (hby : i.bytes = bytes) (hzs : z.cells.size = size) (hsz : 0 < size)
    (v : Value) (n : Nat) (xs : List Value) (hs : a.eval s = v) (hown : w.ownsRow lo e size v n xs)
    (K : Nat → Bool → Prop) (E' : Nat) (vx : Value) (m : Nat) (news : List Value) (hx : a.eval x = vx) (hsrc : SlR K E' size w vx m news) (h1 : ∀ u ∈ news, u.oneCell' = true)
    (h63 : n + m ≤ maxLen) (hbytes : (n + m) * bytes ≤ 140737488355328) (hlo : lo ≤ w.heap.size)
    (h : ∀ v' w', w'.ownsRow lo e size v' (n + m) (xs ++ news) → w.grownBy w' v.ownBlock → True → K' (a.put o.dst v') w') :
    if Region.wanted o (yielded ops a.tmps) = true then Oper.wp P o a w K' Q else E0 := by
  have hw : Region.wanted o (yielded ops a.tmps) = true := by simp [Region.wanted, hgd]
  rw [if_pos hw]
  obtain ⟨ad, cap, rfl, hl, hcap, hnone, hc⟩ := hsrc
  cases ad with
  | none =>
    obtain ⟨rfl, rfl⟩ := hnone rfl
    have hnn : news = [] := List.eq_nil_of_length_eq_zero (by simpa using hl)
    subst hnn
    have hrun := run_append_owned_none (P := P) (w := w) lo t o.type e i size ht hi v n xs hown
    unfold Oper.wp
    simp [execOp, ho, resolve, invoke, builtin, hs, hx, hrun, Result.andThen]
    exact h v w (by simpa using hown) ⟨rfl, rfl, rfl, Nat.le_refl _, fun _ _ _ => rfl⟩ trivial
  | some ad =>
    have hnews : ∀ j u, news[j]? = some u → w.cell? (ad.add j) = some u := by
      intro j u hu
      have hm : 0 < m := by
        rcases Nat.eq_zero_or_pos m with rfl | h
        · have : news = [] := List.eq_nil_of_length_eq_zero (by simpa using hl)
          subst this; simp at hu
        · exact h
      obtain ⟨b, off, cur, e2, fr, g1, g2, g3, g4⟩ := hc hm
      cases g1
      have hadd : (⟨b, off, none⟩ : Addr).add j = ⟨b, off + j, none⟩ := by unfold Addr.add; split <;> simp_all
      rw [hadd]; simp [World.cell?, g3]; exact g4 j u hu
    obtain ⟨v', w', hr, h2, h3, _⟩ := run_append_own (P := P) w lo t o.type e i z size bytes ht hi hz hsize hby hzs hsz v n xs hown ad m cap news hl hnews h1 h63 hbytes hlo
    unfold Oper.wp execOp
    simp only [ho, resolve, invoke, builtin, Sem.run_bind, Sem.run_pure, Result.andThen_ok, List.map_toArray, List.map_cons, List.map_nil, hs, hx, hr]
    exact h v' w' h2 h3 trivial

/-- Whatever memory. -/
def KT : Nat → Bool → Prop := fun _ _ => True

theorem litAt {w : World} {X : Nat} {vs : List Value} {sz e : Nat} (h : w.heap[X]? = some (.cells vs.toArray e (0, 0))) (hl : vs.length = sz) : SlR (new 0) e sz w (.slice (some ⟨X, 0, none⟩) 1 1) 1 vs :=
  SlR.ofOwns ⟨by simp [hl], .inr ⟨X, 1, vs.toArray, rfl, Nat.zero_le _, h, Nat.le_refl _, by decide, by simp [hl], by simp [List.take_of_length_le, hl]⟩⟩

theorem SlR.takeK {K : Nat → Bool → Prop} {E sz : Nat} {w : World} {a : Option Addr} {n c : Nat} {cs : List Value} (h : SlR K E sz w (.slice a n c) n cs) {k : Nat} (hk : k ≤ n) : SlR K E sz w (.slice a k c) k (cs.take (k * sz)) := by
  obtain ⟨a', c', h1, h2, h3, h4, h5⟩ := h
  cases h1
  refine ⟨a, c, rfl, by rw [List.length_take, h2, Nat.min_eq_left (Nat.mul_le_mul_right _ hk)], by omega, fun e => ⟨by have := (h4 e).1; omega, (h4 e).2⟩, fun hp => ?_⟩
  obtain ⟨b, off, cur, e, fr, g1, g2, g3, g4⟩ := h5 (by omega)
  refine ⟨b, off, cur, e, fr, g1, g2, g3, fun j u hj => ?_⟩
  rw [List.getElem?_take] at hj
  split at hj
  · exact g4 j u hj
  · cases hj

theorem SlR.dropK {K : Nat → Bool → Prop} {E sz : Nat} {w : World} {b off n c : Nat} {cs : List Value} (h : SlR K E sz w (.slice (some ⟨b, off, none⟩) n c) n cs) {k : Nat} (hk : k ≤ n) : SlR K E sz w (.slice (some ⟨b, off + k * sz, none⟩) (n - k) (c - k)) (n - k) (cs.drop (k * sz)) := by
  obtain ⟨a', c', h1, h2, h3, h4, h5⟩ := h
  cases h1
  refine ⟨_, c - k, rfl, by rw [List.length_drop, h2, Nat.sub_mul], by omega, fun e => (by cases e), fun hp => ?_⟩
  obtain ⟨b', off', cur, e, fr, g1, g2, g3, g4⟩ := h5 (by omega)
  cases g1
  refine ⟨b, off + k * sz, cur, e, fr, rfl, g2, g3, fun j u hj => ?_⟩
  rw [List.getElem?_drop] at hj
  rw [Nat.add_assoc]
  exact g4 _ u hj

theorem SlR.zero {K : Nat → Bool → Prop} {E sz : Nat} {w : World} {ad : Addr} {c : Nat} {cs : List Value} (h : cs = []) : SlR K E sz w (.slice (some ad) 0 c) 0 cs := by
  subst h
  exact ⟨some ad, c, rfl, by simp, Nat.zero_le _, fun e => (by cases e), fun h => absurd h (Nat.lt_irrefl _)⟩

theorem mixed {K K' : Nat → Bool → Prop} {lo : Nat} {w : World} {v : Value} {os : List Ob} {o : Ob} {vo : Value} {zs : List (Ob × Value)} {cs : List Value} {k : Nat} (hk : k ≤ os.length) (g1 : zs.map (·.1) = os) (hcs : cs = zs.flatMap encOb) (g3 : ∀ z ∈ zs, IntsR K w z.2 z.1.links) (hu : IntsR K' w vo o.links)
    (hown : w.ownsRow lo 37 3 v (k + 1 + (os.length - k)) (cs.take (k * 3) ++ [.int .i64 o.kind, vo, .string (tx o.text)] ++ cs.drop (k * 3))) : ObsR KT w v (os.take k ++ o :: os.drop k) := by
  subst g1 hcs
  have hl : k ≤ zs.length := by simpa using hk
  refine ⟨zs.take k ++ (o, vo) :: zs.drop k, by simp, ?_, fun z hz => ?_⟩
  · have e : (List.take k (zs.map (·.1)) ++ o :: List.drop k (zs.map (·.1))).length = k + 1 + ((zs.map (·.1)).length - k) := by simp; omega
    rw [e]
    rw [flat_take, flat_drop] at hown
    have := (SlR.ofOwns hown).weak (K' := KT) (fun _ _ _ _ => trivial)
    simpa [encOb] using this
  · rcases List.mem_append.1 hz with hz | hz
    · exact (g3 z (List.mem_of_mem_take hz)).weak (fun _ _ _ _ => trivial)
    · rcases List.mem_cons.1 hz with rfl | hz
      · exact hu.weak (fun _ _ _ _ => trivial)
      · exact (g3 z (List.mem_of_mem_drop hz)).weak (fun _ _ _ _ => trivial)

set_option maxRecDepth 20000 in
set_option maxHeartbeats 4000000 in
theorem l1Put_any (lo : Nat) (K' : Nat → Bool → Prop) (v vo : Value) (os : List Ob) (o : Ob) (w : World) (hv : ObsOwn lo w v os) (ho : IntsR K' w vo o.links) (hok : stOk os = true) (hoo : obOk o = true) (hnn : v ≠ .slice none 0 0) :
    Calls Tryz.prog 88 #[v, .agg #[.int .i64 o.kind, vo, .string (tx o.text)]] w fun e w' => ∃ v', e = .returned (.tuple #[v', .bool (put os o).2]) ∧ ObsOwn w.heap.size w' v' (put os o).1 ∧ v' ≠ .slice none 0 0 ∧ Fr w.heap.size [] w w' := by
  obtain ⟨a', cap', rfl, hcap', -⟩ := ho.shape
  have hkt := hv.reads
  obtain ⟨zs, z1, z2, z3⟩ := hv
  have hl16 := (stOk_iff.1 hok).1
  have hol := (obOk_len hoo).1
  obtain ⟨iob, hoi, hoz0, hoz1, hoz2⟩ := info_parts infoOb
  obtain ⟨cs, hcs⟩ : ∃ cs, cs = zs.flatMap encOb := ⟨_, rfl⟩
  rw [← hcs] at z2
  have H1C := hid (show ∀ u ∈ cs, u.oneCell' = true from by rw [hcs]; exact oneObs z3)
  rcases z2.2 with ⟨rfl, hn0⟩ | ⟨g, cap, cur, rfl, hlg, hcur, hnc, hcm, hcsz, htake⟩
  · exact absurd rfl hnn
  have SLR := hid (show SlR KT 37 3 w (.slice (some ⟨g, 0, none⟩) os.length cap) os.length cs from (SlR.ofOwns z2).weak (fun _ _ _ _ => trivial))
  have SLRL := hid z2.1
  have Z1 := hid z1
  have Z3 := hid z3
  have CS := hid hcs
  have hbs0 : g < w.heap.size := lt_of_get hcur
  have HCELL := hid (show ∀ i (hi : i < os.length), ∃ u, w.cell? ⟨g, i * 3, none⟩ = some (.int .i64 os[i].kind) ∧ w.cell? ⟨g, i * 3 + 1, none⟩ = some u ∧ w.cell? ⟨g, i * 3 + 2, none⟩ = some (.string (tx os[i].text)) ∧ IntsR (new lo) w u os[i].links from fun i hi => by
    obtain ⟨a2, cap2, hva, -, hcell⟩ := hkt.shape
    cases hva
    rcases hcell with hh | ⟨b, off, hae, -, hcell⟩
    · rw [hh] at hi; cases hi
    · cases hae
      obtain ⟨u, q0, q1, q2, q3⟩ := hcell i hi
      rw [Nat.zero_add] at q0 q1 q2
      exact ⟨u, q0, q1, q2, q3⟩)
  have hob : ∀ p ∈ os, p.links.length ≤ 1000000000 := fun p hp => by have := (obOk_len ((stOk_iff.1 hok).2.1 p hp)).1; omega
  have HBM := hid (show ∀ k, ∀ p ∈ os.take k ++ o :: os.drop k, p.links.length ≤ 1000000000 from fun k p hp => by
    rcases List.mem_append.1 hp with hp | hp
    · exact hob p (List.mem_of_mem_take hp)
    · rcases List.mem_cons.1 hp with rfl | hp
      · omega
      · exact hob p (List.mem_of_mem_drop hp))
  have HKT := hid hkt
  have HOB := hid hob
  have HO0 := hid ho
  have F0 := hid ((Fr.refl w.heap.size [] w).alloc (.cells #[.int .i64 o.kind, .slice a' o.links.length cap', .string (tx o.text)] 37))
  have B0 := hid (heap_alloc_new w (.cells #[.int .i64 o.kind, .slice a' o.links.length cap', .string (tx o.text)] 37))
  have OK := hid hok
  have OO := hid hoo
  have PS := hid (fun h hk => put_same (os := os) (o := o) h hk)
  have PF := hid (fun h hl => put_full (os := os) (o := o) h hl)
  have PN := hid (fun h hl => put_new (os := os) (o := o) h hl)
  obtain ⟨pl, pb, hpp⟩ : ∃ pl pb, put os o = (pl, pb) := ⟨_, _, rfl⟩
  rw [hpp]
  have HPP := hid hpp
  have hoi2 := oid_in hoo
  clear hkt z1 z2 z3 hcs hcur hcsz htake hob ho hok hoo hpp hnn
  dsimp only
  go_enter Tryz.func88, Tryz.ntmps88
  go_wp2_with (go_at_call 55; go_must (refine (l1Of_any _ _ o _ (HO0.out.grow F0.out) OO.out).mono ?_; rintro e w1 ⟨rfl, fr1⟩; have F1 := hid (F0.out.trans fr1.nil); have BX1 := hid (fr1.keep _ _ B0.out (.inr (by simp))); clear fr1))
  go_loopw [7] (fun vi wx => ∃ k : Nat, k ≤ os.length ∧ vi = .int .i64 k ∧ (∀ j (hj : j < os.length), j < k → oid os[j] < oid o) ∧ wx.heap[w.heap.size]? = some (.cells #[.int .i64 o.kind, .slice a' o.links.length cap', .string (tx o.text)] 37 (0, 0)) ∧ Fr w.heap.size [] w wx) (fun vi _ => os.length - (intOf vi).toNat)
  case atStart => exact ⟨0, Nat.zero_le _, rfl, fun j hj h => absurd h (Nat.not_lt_zero _), BX1.out, F1.out⟩
  case round =>
    obtain ⟨k, hk, rfl, hlo, hbx, hfr⟩ := hrel
    have LO := hid hlo
    have BX := hid hbx
    have b0 := cell_of (o := 0) hbx rfl
    have b1 := cell_of (o := 1) hbx rfl
    have b2 := cell_of (o := 2) hbx rfl
    have hbxl := lt_of_get hbx
    clear hlo hbx
    by_cases hlt : k < os.length
    · obtain ⟨u, q0, q1, q2, hu⟩ := HCELL.out k hlt
      obtain ⟨ua, ucap, rfl, _, _⟩ := hu.shape
      have c0 := hfr.cell hbs0 q0
      have c1 := hfr.cell hbs0 q1
      have c2 := hfr.cell hbs0 q2
      have HU := hid (hu.grow hfr)
      have hki : (k : Int) < (os.length : Int) := by omega
      have hbs := Nat.lt_of_lt_of_le hbs0 hfr.size
      have OKp := hid (stOk_at OK.out hlt)
      have NX := hid (fun (h : oid os[k] < oid o) => show ∀ j (hj : j < os.length), j < k + 1 → oid os[j] < oid o from fun j hj hjk => by
        by_cases e : j = k
        · subst e; exact h
        · exact LO.out j hj (by omega))
      have EKF := hid (fun (h : ¬ oid os[k] < oid o) => show findK os (oid o) = k from findK_eq hk (fun j hj h => LO.out j hj h) (fun _ => by omega))
      have HKF := hid (fun (h : findK os (oid o) = k) => show hasK os (oid o) = decide (oid os[k] = oid o) by
        have := hasK_lt (os := os) (id := oid o) (by rw [h]; exact hlt)
        simp only [h] at this
        exact this)
      have PSK := hid (fun (h : findK os (oid o) = k) (h2 : hasK os (oid o) = true) => show put os o = (os, decide (os[k] = o)) by
        have := PS.out h2 (by rw [h]; exact hlt)
        simp only [h] at this
        exact this)
      have hil := (obOk_len OKp.out).1
      clear q0 q1 q2 hu
      generalize os[k] = p at *
      by_cases hlow : oid p < oid o
      · have NX2 := hid (NX.out hlow)
        clear NX EKF HKF PSK
        have fr1 : Fr wr.heap.size [] wr wr := Fr.refl _ _ _
        go_wp2_with (go_at_call 55; go_must (refine (l1Of_any _ _ p _ (HU.out.grow fr1) OKp.out).mono ?_; rintro e w2 ⟨rfl, fr⟩; have fr1 : Fr wr.heap.size [] wr w2 := fr1.trans fr.nil; have e0 := fr1.cell hbs c0; have e1 := fr1.cell hbs c1; have e2 := fr1.cell hbs c2; clear fr))
        go_roundw
        case rel => exact ⟨k + 1, by omega, by go_num, NX2.out, fr1.keep _ _ BX.out (.inr (by simp)), hfr.trans fr1.nil⟩
        case measure => simp [intOf]; omega
      · have EK := hid (EKF.out hlow)
        have HK := hid (HKF.out EK.out)
        clear NX EKF HKF
        by_cases heq : oid p = oid o
        · have HK2 := hid (show hasK os (oid o) = true by rw [HK.out]; simp [heq])
          have PP := hid (show (pl, pb) = (os, decide (p = o)) by rw [← HPP.out]; exact PSK.out EK.out HK2.out)
          have i1 : (oid p == oid o) = true := by simp [heq]
          clear HK EK PSK heq
          have fr1 : Fr wr.heap.size [] wr wr := Fr.refl _ _ _
          go_wp2_with (go_at_call 55; go_must (refine (l1Of_any _ _ p _ (HU.out.grow fr1) OKp.out).mono ?_; rintro e w2 ⟨rfl, fr⟩; have fr1 : Fr wr.heap.size [] wr w2 := fr1.trans fr.nil; have e0 := fr1.cell hbs c0; have e1 := fr1.cell hbs c1; have e2 := fr1.cell hbs c2; clear fr))
          have fr2 := fr1.drew
          have hbxl2 := Nat.lt_of_lt_of_le hbxl fr1.size
          have b0' := fr1.cell hbxl b0
          first
          | go_region_held3 (fun x => x.cell? ⟨g, k * 3, none⟩ = some (.int .i64 p.kind) ∧ x.cell? ⟨g, k * 3 + 1, none⟩ = some (.slice ua p.links.length ucap) ∧ x.cell? ⟨g, k * 3 + 2, none⟩ = some (.string (tx p.text)) ∧ x.cell? ⟨w.heap.size, 0, none⟩ = some (.int .i64 o.kind) ∧ x.cell? ⟨w.heap.size, 1, none⟩ = some (.slice a' o.links.length cap') ∧ x.cell? ⟨w.heap.size, 2, none⟩ = some (.string (tx o.text)))
            (exact ⟨fr2.cell hbs c0, fr2.cell hbs c1, fr2.cell hbs c2, fr2.cell hbxl b0, fr2.cell hbxl b1, fr2.cell hbxl b2⟩)
            (first
              | (go_at_call 107; go_must (refine (l1Copy_any _ _ os _ (HKT.out.grow (hfr.trans fr2.nil)) HOB.out (by omega)).mono ?_; rintro e w4 ⟨v4, rfl, own4, hv4, fr4⟩; have hq4 := fr2.size; have OWN4 := hid own4; have V4 := hid hv4; have fr2 := fr2.trans fr4.nil; clear own4 hv4 fr4))
              | (go_at_call 108; go_must (refine (l1Same_any _ _ _ _ p o _ (HU.out.grow fr2) (HO0.out.grow (hfr.trans fr2.nil)) (by omega) (by omega)).mono ?_; rintro e w5 ⟨rfl, fr5⟩; have OWN5 := hid (OWN4.out.grow fr5); have fr2 := fr2.trans fr5.nil; clear fr5)))
          | fail
          go_wp2
          go_ret2
          refine ⟨v4, ?_, ?_, V4.out, hfr.trans fr2.nil⟩
          · have e := PP.out
            simp only [Prod.mk.injEq] at e
            rw [e.2]
            rfl
          · have e := PP.out
            simp only [Prod.mk.injEq] at e
            rw [e.1]
            exact OWN5.out.lower (by have := hfr.size; omega)
        · have HK2 := hid (show hasK os (oid o) = false by rw [HK.out]; simp [heq])
          have i1 : (oid p == oid o) = false := by simp [heq]
          clear HK PSK
          by_cases h16 : os.length < 16
          · have i16 : ¬ (16 : Int) ≤ (os.length : Int) := by omega
            have PP := hid (show (pl, pb) = (os.take k ++ o :: os.drop k, true) by rw [← HPP.out, PN.out HK2.out h16, EK.out])
            have PPL := hid (show pl = os.take k ++ o :: os.drop k from by have e := PP.out; simp only [Prod.mk.injEq] at e; exact e.1)
            have PPB := hid (show pb = true from by have e := PP.out; simp only [Prod.mk.injEq] at e; exact e.2)
            clear PP EK HK2
            have sk0 : (0 : Int) ≤ (k : Int) := by omega
            have sk1 : (k : Int) ≤ (cap : Int) := by omega
            have hcap1 : ¬ cap = k := by omega
            have fr1 : Fr wr.heap.size [] wr wr := Fr.refl _ _ _
            go_wp2_with (go_at_call 55; go_must (refine (l1Of_any _ _ p _ (HU.out.grow fr1) OKp.out).mono ?_; rintro e w2 ⟨rfl, fr⟩; have fr1 : Fr wr.heap.size [] wr w2 := fr1.trans fr.nil; have e0 := fr1.cell hbs c0; have e1 := fr1.cell hbs c1; have e2 := fr1.cell hbs c2; clear fr))
            obtain ⟨wq, rfl⟩ : ∃ W : World, W = w2 := ⟨_, rfl⟩
            have FQ := hid (hfr.trans fr1.nil)
            have BXQ := hid (fr1.keep _ _ BX.out (.inr (by simp)))
            have KB := hid (fun (x : World) (f : Fr wq.heap.size [] wq x) => (⟨cell_of (f.keep _ _ BXQ.out (.inr (by simp))) rfl, cell_of (f.keep _ _ BXQ.out (.inr (by simp))) rfl, cell_of (f.keep _ _ BXQ.out (.inr (by simp))) rfl⟩ : x.cell? ⟨w.heap.size, 0, none⟩ = some (.int .i64 o.kind) ∧ x.cell? ⟨w.heap.size, 1, none⟩ = some (.slice a' o.links.length cap') ∧ x.cell? ⟨w.heap.size, 2, none⟩ = some (.string (tx o.text))))
            have SA := hid (show SlR KT 37 3 wq (.slice (some ⟨g, 0, none⟩) k cap) k (cs.take (k * 3)) from (SLR.out.takeK hk).grow FQ.out)
            have SB := hid (show SlR KT 37 3 wq (.slice (some ⟨g, k * 3, none⟩) (os.length - k) (cap - k)) (os.length - k) (cs.drop (k * 3)) from (by have := (SLR.out.dropK hk).grow FQ.out; rwa [Nat.zero_add] at this))
            have MIX := hid (fun (w5 : World) (v5 : Value) (h : w5.ownsRow wq.heap.size 37 3 v5 (k + 1 + (os.length - k)) (cs.take (k * 3) ++ [.int .i64 o.kind, .slice a' o.links.length cap', .string (tx o.text)] ++ cs.drop (k * 3))) (f : Fr wq.heap.size [] wq w5) => mixed hk Z1.out CS.out (fun z hz => (Z3.out z hz).grow (FQ.out.trans f.nil)) (HO0.out.grow (FQ.out.trans f.nil)) h)
            have hq := FQ.out.size
            have FA := hid ((Fr.refl wq.heap.size [] wq).drew)
            have FB := hid (((Fr.refl wq.heap.size [] wq).alloc (.cells #[] 37)).drew)
            have FC := hid (((Fr.refl wq.heap.size [] wq).alloc (.cells #[.int .i64 o.kind, .slice a' o.links.length cap', .string (tx o.text)] 37)).drew)
            have FD := hid ((((Fr.refl wq.heap.size [] wq).alloc (.cells #[] 37)).alloc (.cells #[.int .i64 o.kind, .slice a' o.links.length cap', .string (tx o.text)] 37)).drew)
            have FE := hid ((((Fr.refl wq.heap.size [] wq).alloc (.cells #[.int .i64 o.kind, .slice a' o.links.length cap', .string (tx o.text)] 37)).alloc (.cells #[] 37)).drew)
            have RB := hid (show (wq.alloc (.cells #[] 37)).drew.ownsRow wq.heap.size 37 3 (.slice (some ⟨wq.heap.size, 0, none⟩) 0 0) 0 [] from ownsRow_keep (World.ownsRow_made wq #[] 0 (Nat.le_refl _) (by decide) (by simp)) (Fr.refl 0 [] _).drew (by simp))
            have RD := hid (show ((wq.alloc (.cells #[] 37)).alloc (.cells #[.int .i64 o.kind, .slice a' o.links.length cap', .string (tx o.text)] 37)).drew.ownsRow wq.heap.size 37 3 (.slice (some ⟨wq.heap.size, 0, none⟩) 0 0) 0 [] from ownsRow_keep (World.ownsRow_made wq #[] 0 (Nat.le_refl _) (by decide) (by simp)) ((Fr.refl 0 [] _).alloc (.cells #[.int .i64 o.kind, .slice a' o.links.length cap', .string (tx o.text)] 37)).drew (by simp))
            have RE := hid (show ((wq.alloc (.cells #[.int .i64 o.kind, .slice a' o.links.length cap', .string (tx o.text)] 37)).alloc (.cells #[] 37)).drew.ownsRow wq.heap.size 37 3 (.slice (some ⟨wq.heap.size + 1, 0, none⟩) 0 0) 0 [] from ownsRow_keep (ownsRow_lo (by have := World.ownsRow_made (base := (wq.alloc (.cells #[.int .i64 o.kind, .slice a' o.links.length cap', .string (tx o.text)] 37)).heap.size) (e := 37) (size := 3) (wq.alloc (.cells #[.int .i64 o.kind, .slice a' o.links.length cap', .string (tx o.text)] 37)) #[] 0 (Nat.le_refl _) (by decide) (by simp); simpa using this) (Nat.le_succ _)) (Fr.refl 0 [] _).drew (by simp))
            have XD := hid (show ((wq.alloc (.cells #[] 37)).alloc (.cells #[.int .i64 o.kind, .slice a' o.links.length cap', .string (tx o.text)] 37)).drew.heap[wq.heap.size + 1]? = some (.cells #[.int .i64 o.kind, .slice a' o.links.length cap', .string (tx o.text)] 37) from heap_alloc_eq (wq.alloc (.cells #[] 37)) _ (by simp))
            have XE := hid (show ((wq.alloc (.cells #[.int .i64 o.kind, .slice a' o.links.length cap', .string (tx o.text)] 37)).alloc (.cells #[] 37)).drew.heap[wq.heap.size]? = some (.cells #[.int .i64 o.kind, .slice a' o.links.length cap', .string (tx o.text)] 37) from heap_up (heap_alloc_new wq _) _)
            first
            | go_region_held3 (fun x => x.cell? ⟨w.heap.size, 0, none⟩ = some (.int .i64 o.kind) ∧ x.cell? ⟨w.heap.size, 1, none⟩ = some (.slice a' o.links.length cap') ∧ x.cell? ⟨w.heap.size, 2, none⟩ = some (.string (tx o.text)))
              (first
                | with_reducible exact KB.out _ FA.out
                | with_reducible exact KB.out _ FB.out
                | with_reducible exact KB.out _ FC.out
                | with_reducible exact KB.out _ FD.out
                | with_reducible exact KB.out _ FE.out
                | with_reducible exact KB.out _ G6.out
                | with_reducible exact KB.out _ G5.out
                | with_reducible exact KB.out _ G4.out
                | with_reducible exact KB.out _ G3.out
                | with_reducible exact KB.out _ (G3.out.alloc _))
              (first
                | (refine step_apG rfl (.tmp 51) (.tmp 54) 23 rfl wq.heap.size 37 iob (.agg #[.int .i64 0, .slice none 0 0, .string ⟨#[]⟩]) 3 48 Tryz.underlying23 hoi hoz0 hoz1 hoz2 rfl (by decide) (.slice (some ⟨wq.heap.size, 0, none⟩) 0 0) 0 [] (by rfl) RB.out KT 37 _ k (cs.take (k * 3)) (by rfl) (SA.out.grow FB.out) (fun u hu => H1C.out u (List.mem_of_mem_take hu)) (by unfold maxLen; omega) (by omega) (by simp; try omega) ?_; intro v3 w3 own3 gr3 _; rw [Nat.zero_add, List.nil_append] at own3; obtain ⟨a3, cap3, rfl⟩ := own_any own3; have G3 := hid (FB.out.after (Fr.ofOwnGrown (B := wq.heap.size) (T := [37]) RB.out gr3 (Nat.le_refl _) (List.mem_singleton.2 rfl))); have OWN3 := hid own3;  clear own3 gr3)
                | (refine step_apG rfl (.tmp 51) (.tmp 54) 23 rfl wq.heap.size 37 iob (.agg #[.int .i64 0, .slice none 0 0, .string ⟨#[]⟩]) 3 48 Tryz.underlying23 hoi hoz0 hoz1 hoz2 rfl (by decide) (.slice (some ⟨wq.heap.size, 0, none⟩) 0 0) 0 [] (by rfl) RD.out KT 37 _ k (cs.take (k * 3)) (by rfl) (SA.out.grow FD.out) (fun u hu => H1C.out u (List.mem_of_mem_take hu)) (by unfold maxLen; omega) (by omega) (by simp; try omega) ?_; intro v3 w3 own3 gr3 _; rw [Nat.zero_add, List.nil_append] at own3; obtain ⟨a3, cap3, rfl⟩ := own_any own3; have G3 := hid (FD.out.after (Fr.ofOwnGrown (B := wq.heap.size) (T := [37]) RD.out gr3 (Nat.le_refl _) (List.mem_singleton.2 rfl))); have OWN3 := hid own3; have BB3 := hid ((gr3.block _ (lt_of_get XD.out) (by simp [Value.ownBlock])).trans XD.out); clear own3 gr3)
                | (refine step_apG rfl (.tmp 51) (.tmp 54) 23 rfl wq.heap.size 37 iob (.agg #[.int .i64 0, .slice none 0 0, .string ⟨#[]⟩]) 3 48 Tryz.underlying23 hoi hoz0 hoz1 hoz2 rfl (by decide) (.slice (some ⟨wq.heap.size + 1, 0, none⟩) 0 0) 0 [] (by rfl) RE.out KT 37 _ k (cs.take (k * 3)) (by rfl) (SA.out.grow FE.out) (fun u hu => H1C.out u (List.mem_of_mem_take hu)) (by unfold maxLen; omega) (by omega) (by simp; try omega) ?_; intro v3 w3 own3 gr3 _; rw [Nat.zero_add, List.nil_append] at own3; obtain ⟨a3, cap3, rfl⟩ := own_any own3; have G3 := hid (FE.out.after (Fr.ofOwnGrown (B := wq.heap.size) (T := [37]) RE.out gr3 (Nat.le_refl _) (List.mem_singleton.2 rfl))); have OWN3 := hid own3; have BB3 := hid ((gr3.block _ (lt_of_get XE.out) (by simp [Value.ownBlock])).trans XE.out); clear own3 gr3)
                | (refine step_apG rfl (.tmp 55) (.tmp 57) 23 rfl wq.heap.size 37 iob (.agg #[.int .i64 0, .slice none 0 0, .string ⟨#[]⟩]) 3 48 Tryz.underlying23 hoi hoz0 hoz1 hoz2 rfl (by decide) _ k (cs.take (k * 3)) (by rfl) (ownsRow_grow OWN3.out ((Fr.refl 0 [] _).alloc (.cells #[.int .i64 o.kind, .slice a' o.links.length cap', .string (tx o.text)] 37))) (new 0) 37 _ 1 [.int .i64 o.kind, .slice a' o.links.length cap', .string (tx o.text)] (by rfl) (SlR.lit rfl |>.weak (fun b t _ hb => ⟨Nat.zero_le _, hb.2⟩)) (oneOb3 _ _ _ _ _) (by unfold maxLen; omega) (by omega) (by have := G3.out.size; simp; try omega) ?_; intro v4 w4 own4 gr4 _; obtain ⟨a4, cap4, rfl⟩ := own_any own4; have G4 := hid ((G3.out.alloc (.cells #[.int .i64 o.kind, .slice a' o.links.length cap', .string (tx o.text)] 37)).after (Fr.ofOwnGrown (B := wq.heap.size) (T := [37]) (ownsRow_grow OWN3.out ((Fr.refl 0 [] _).alloc (.cells #[.int .i64 o.kind, .slice a' o.links.length cap', .string (tx o.text)] 37))) gr4 (Nat.le_refl _) (List.mem_singleton.2 rfl))); have OWN4 := hid own4; clear own4 gr4)
                | (refine step_apG rfl (.tmp 55) (.tmp 57) 23 rfl wq.heap.size 37 iob (.agg #[.int .i64 0, .slice none 0 0, .string ⟨#[]⟩]) 3 48 Tryz.underlying23 hoi hoz0 hoz1 hoz2 rfl (by decide) _ k (cs.take (k * 3)) (by rfl) OWN3.out (new 0) 37 _ 1 [.int .i64 o.kind, .slice a' o.links.length cap', .string (tx o.text)] (by rfl) (litAt (by with_reducible exact BB3.out) rfl) (oneOb3 _ _ _ _ _) (by unfold maxLen; omega) (by omega) (by have := G3.out.size; simp; try omega) ?_; intro v4 w4 own4 gr4 _; obtain ⟨a4, cap4, rfl⟩ := own_any own4; have G4 := hid (G3.out.after (Fr.ofOwnGrown (B := wq.heap.size) (T := [37]) OWN3.out gr4 (Nat.le_refl _) (List.mem_singleton.2 rfl))); have OWN4 := hid own4; clear own4 gr4)
                | (refine step_apG rfl (.tmp 55) (.tmp 57) 23 rfl wq.heap.size 37 iob (.agg #[.int .i64 0, .slice none 0 0, .string ⟨#[]⟩]) 3 48 Tryz.underlying23 hoi hoz0 hoz1 hoz2 rfl (by decide) _ k (cs.take (k * 3)) (by rfl) OWN3.out (new 0) 37 _ 1 [.int .i64 o.kind, .slice a' o.links.length cap', .string (tx o.text)] (by rfl) (litAt BB3.out rfl) (oneOb3 _ _ _ _ _) (by unfold maxLen; omega) (by omega) (by have := G3.out.size; simp; try omega) ?_; intro v4 w4 own4 gr4 _; obtain ⟨a4, cap4, rfl⟩ := own_any own4; have G4 := hid (G3.out.after (Fr.ofOwnGrown (B := wq.heap.size) (T := [37]) OWN3.out gr4 (Nat.le_refl _) (List.mem_singleton.2 rfl))); have OWN4 := hid own4; clear own4 gr4)
                | (refine step_apG rfl (.tmp 58) (.tmp 61) 23 rfl wq.heap.size 37 iob (.agg #[.int .i64 0, .slice none 0 0, .string ⟨#[]⟩]) 3 48 Tryz.underlying23 hoi hoz0 hoz1 hoz2 rfl (by decide) _ (k + 1) (cs.take (k * 3) ++ [.int .i64 o.kind, .slice a' o.links.length cap', .string (tx o.text)]) (by rfl) OWN4.out KT 37 _ (os.length - k) (cs.drop (k * 3)) (by rfl) (SB.out.grow G4.out) (fun u hu => H1C.out u (List.mem_of_mem_drop hu)) (by unfold maxLen; omega) (by omega) (by have := G4.out.size; omega) ?_; intro v5 w5 own5 gr5 _; obtain ⟨a5, cap5, rfl⟩ := own_any own5; have G5 := hid (G4.out.after (Fr.ofOwnGrown (B := wq.heap.size) (T := [37]) OWN4.out gr5 (Nat.le_refl _) (List.mem_singleton.2 rfl))); have OWN5 := hid own5; have hs5 := G5.out.size; clear own5 gr5)
                | (go_at_call 107; go_must (refine (l1Copy_any KT _ (os.take k ++ o :: os.drop k) _ (MIX.out _ _ OWN5.out G5.out) (HBM.out k) (by simp; omega)).mono ?_; rintro e w6 ⟨v6, rfl, own6, hv6, fr6⟩; have V6 := hid hv6; clear hv6; have G6 := hid (G5.out.trans fr6.nil); have OWN6 := hid own6; clear own6 fr6)))
            | fail
            all_goals
              go_wp2
              go_ret2
              refine ⟨v6, ?_, (by rw [PPL.out]; exact OWN6.out.lower (by omega)), V6.out, FQ.out.trans G6.out.nil⟩
              have e := PPB.out
              subst e
              rfl
          · have i16 : (16 : Int) ≤ (os.length : Int) := by omega
            have PP := hid (show (pl, pb) = (os, false) by rw [← HPP.out, PF.out HK2.out h16])
            clear EK HK2 h16
            have fr1 : Fr wr.heap.size [] wr wr := Fr.refl _ _ _
            go_wp2_with (first
              | (go_at_call 55; go_must (refine (l1Of_any _ _ p _ (HU.out.grow fr1) OKp.out).mono ?_; rintro e w2 ⟨rfl, fr⟩; have fr1 : Fr wr.heap.size [] wr w2 := fr1.trans fr.nil; have e0 := fr1.cell hbs c0; have e1 := fr1.cell hbs c1; have e2 := fr1.cell hbs c2; clear fr))
              | (go_at_call 107; go_must (refine (l1Copy_any _ _ os _ (HKT.out.grow (hfr.trans fr1.nil)) HOB.out (by omega)).mono ?_; rintro e w4 ⟨v4, rfl, own4, hv4, fr4⟩; have hq4 := fr1.size; have OWN4 := hid own4; have V4 := hid hv4; have fr1 := fr1.trans fr4.nil; clear own4 hv4 fr4)))
            go_ret2
            refine ⟨v4, ?_, ?_, V4.out, hfr.trans fr1.nil⟩
            · have e := PP.out
              simp only [Prod.mk.injEq] at e
              rw [e.2]
              rfl
            · have e := PP.out
              simp only [Prod.mk.injEq] at e
              rw [e.1]
              exact OWN4.out.lower (by have := hfr.size; omega)
    · obtain rfl : k = os.length := by omega
      have EK := hid (show findK os (oid o) = os.length from findK_eq (Nat.le_refl _) (fun j hj h => LO.out j hj h) (fun h => absurd h (Nat.lt_irrefl _)))
      have HK2 := hid (hasK_end EK.out)
      by_cases h16 : os.length < 16
      · have i16 : ¬ (16 : Int) ≤ (os.length : Int) := by omega
        have PP := hid (show (pl, pb) = (os.take os.length ++ o :: os.drop os.length, true) by rw [← HPP.out, PN.out HK2.out h16, EK.out])
        have PPL := hid (show pl = os.take os.length ++ o :: os.drop os.length from by have e := PP.out; simp only [Prod.mk.injEq] at e; exact e.1)
        have PPB := hid (show pb = true from by have e := PP.out; simp only [Prod.mk.injEq] at e; exact e.2)
        clear PP EK HK2
        have CSL := hid (show cs.drop (os.length * 3) = [] from List.drop_eq_nil_of_le (by rw [SLRL.out]; exact Nat.le_refl _))
        by_cases hce : cap = os.length
        · subst hce
          go_wp2
          obtain ⟨wq, rfl⟩ : ∃ W : World, W = wr := ⟨_, rfl⟩
          have FQ := hid (hfr)
          have BXQ := hid (BX.out)
          have KB := hid (fun (x : World) (f : Fr wq.heap.size [] wq x) => (⟨cell_of (f.keep _ _ BXQ.out (.inr (by simp))) rfl, cell_of (f.keep _ _ BXQ.out (.inr (by simp))) rfl, cell_of (f.keep _ _ BXQ.out (.inr (by simp))) rfl⟩ : x.cell? ⟨w.heap.size, 0, none⟩ = some (.int .i64 o.kind) ∧ x.cell? ⟨w.heap.size, 1, none⟩ = some (.slice a' o.links.length cap') ∧ x.cell? ⟨w.heap.size, 2, none⟩ = some (.string (tx o.text))))
          have SA := hid (show SlR KT 37 3 wq (.slice (some ⟨g, 0, none⟩) os.length os.length) os.length (cs.take (os.length * 3)) from (SLR.out.takeK (Nat.le_refl _)).grow FQ.out)
          have SB := hid (show SlR KT 37 3 wq (.slice (some ⟨g, 0, none⟩) 0 0) 0 (cs.drop (os.length * 3)) from (by rw [CSL.out]; exact SlR.zero rfl))
          have MIX := hid (fun (w5 : World) (v5 : Value) (h : w5.ownsRow wq.heap.size 37 3 v5 (os.length + 1 + 0) (cs.take (os.length * 3) ++ [.int .i64 o.kind, .slice a' o.links.length cap', .string (tx o.text)] ++ cs.drop (os.length * 3))) (f : Fr wq.heap.size [] wq w5) => mixed (k := os.length) (Nat.le_refl _) Z1.out CS.out (fun z hz => (Z3.out z hz).grow (FQ.out.trans f.nil)) (HO0.out.grow (FQ.out.trans f.nil)) (by rw [Nat.sub_self]; exact h))
          have hq := FQ.out.size
          have FA := hid ((Fr.refl wq.heap.size [] wq).drew)
          have FB := hid (((Fr.refl wq.heap.size [] wq).alloc (.cells #[] 37)).drew)
          have FC := hid (((Fr.refl wq.heap.size [] wq).alloc (.cells #[.int .i64 o.kind, .slice a' o.links.length cap', .string (tx o.text)] 37)).drew)
          have FD := hid ((((Fr.refl wq.heap.size [] wq).alloc (.cells #[] 37)).alloc (.cells #[.int .i64 o.kind, .slice a' o.links.length cap', .string (tx o.text)] 37)).drew)
          have FE := hid ((((Fr.refl wq.heap.size [] wq).alloc (.cells #[.int .i64 o.kind, .slice a' o.links.length cap', .string (tx o.text)] 37)).alloc (.cells #[] 37)).drew)
          have RB := hid (show (wq.alloc (.cells #[] 37)).drew.ownsRow wq.heap.size 37 3 (.slice (some ⟨wq.heap.size, 0, none⟩) 0 0) 0 [] from ownsRow_keep (World.ownsRow_made wq #[] 0 (Nat.le_refl _) (by decide) (by simp)) (Fr.refl 0 [] _).drew (by simp))
          have RD := hid (show ((wq.alloc (.cells #[] 37)).alloc (.cells #[.int .i64 o.kind, .slice a' o.links.length cap', .string (tx o.text)] 37)).drew.ownsRow wq.heap.size 37 3 (.slice (some ⟨wq.heap.size, 0, none⟩) 0 0) 0 [] from ownsRow_keep (World.ownsRow_made wq #[] 0 (Nat.le_refl _) (by decide) (by simp)) ((Fr.refl 0 [] _).alloc (.cells #[.int .i64 o.kind, .slice a' o.links.length cap', .string (tx o.text)] 37)).drew (by simp))
          have RE := hid (show ((wq.alloc (.cells #[.int .i64 o.kind, .slice a' o.links.length cap', .string (tx o.text)] 37)).alloc (.cells #[] 37)).drew.ownsRow wq.heap.size 37 3 (.slice (some ⟨wq.heap.size + 1, 0, none⟩) 0 0) 0 [] from ownsRow_keep (ownsRow_lo (by have := World.ownsRow_made (base := (wq.alloc (.cells #[.int .i64 o.kind, .slice a' o.links.length cap', .string (tx o.text)] 37)).heap.size) (e := 37) (size := 3) (wq.alloc (.cells #[.int .i64 o.kind, .slice a' o.links.length cap', .string (tx o.text)] 37)) #[] 0 (Nat.le_refl _) (by decide) (by simp); simpa using this) (Nat.le_succ _)) (Fr.refl 0 [] _).drew (by simp))
          have XD := hid (show ((wq.alloc (.cells #[] 37)).alloc (.cells #[.int .i64 o.kind, .slice a' o.links.length cap', .string (tx o.text)] 37)).drew.heap[wq.heap.size + 1]? = some (.cells #[.int .i64 o.kind, .slice a' o.links.length cap', .string (tx o.text)] 37) from heap_alloc_eq (wq.alloc (.cells #[] 37)) _ (by simp))
          have XE := hid (show ((wq.alloc (.cells #[.int .i64 o.kind, .slice a' o.links.length cap', .string (tx o.text)] 37)).alloc (.cells #[] 37)).drew.heap[wq.heap.size]? = some (.cells #[.int .i64 o.kind, .slice a' o.links.length cap', .string (tx o.text)] 37) from heap_up (heap_alloc_new wq _) _)
          first
          | go_region_held3 (fun x => x.cell? ⟨w.heap.size, 0, none⟩ = some (.int .i64 o.kind) ∧ x.cell? ⟨w.heap.size, 1, none⟩ = some (.slice a' o.links.length cap') ∧ x.cell? ⟨w.heap.size, 2, none⟩ = some (.string (tx o.text)))
            (first
              | with_reducible exact KB.out _ FA.out
              | with_reducible exact KB.out _ FB.out
              | with_reducible exact KB.out _ FC.out
              | with_reducible exact KB.out _ FD.out
              | with_reducible exact KB.out _ FE.out
              | with_reducible exact KB.out _ G6.out
              | with_reducible exact KB.out _ G5.out
              | with_reducible exact KB.out _ G4.out
              | with_reducible exact KB.out _ G3.out
              | with_reducible exact KB.out _ (G3.out.alloc _))
            (first
              | (refine step_apG rfl (.tmp 51) (.tmp 54) 23 rfl wq.heap.size 37 iob (.agg #[.int .i64 0, .slice none 0 0, .string ⟨#[]⟩]) 3 48 Tryz.underlying23 hoi hoz0 hoz1 hoz2 rfl (by decide) (.slice (some ⟨wq.heap.size, 0, none⟩) 0 0) 0 [] (by rfl) RB.out KT 37 _ os.length (cs.take (os.length * 3)) (by rfl) (SA.out.grow FB.out) (fun u hu => H1C.out u (List.mem_of_mem_take hu)) (by unfold maxLen; omega) (by omega) (by simp; try omega) ?_; intro v3 w3 own3 gr3 _; rw [Nat.zero_add, List.nil_append] at own3; obtain ⟨a3, cap3, rfl⟩ := own_any own3; have G3 := hid (FB.out.after (Fr.ofOwnGrown (B := wq.heap.size) (T := [37]) RB.out gr3 (Nat.le_refl _) (List.mem_singleton.2 rfl))); have OWN3 := hid own3;  clear own3 gr3)
              | (refine step_apG rfl (.tmp 51) (.tmp 54) 23 rfl wq.heap.size 37 iob (.agg #[.int .i64 0, .slice none 0 0, .string ⟨#[]⟩]) 3 48 Tryz.underlying23 hoi hoz0 hoz1 hoz2 rfl (by decide) (.slice (some ⟨wq.heap.size, 0, none⟩) 0 0) 0 [] (by rfl) RD.out KT 37 _ os.length (cs.take (os.length * 3)) (by rfl) (SA.out.grow FD.out) (fun u hu => H1C.out u (List.mem_of_mem_take hu)) (by unfold maxLen; omega) (by omega) (by simp; try omega) ?_; intro v3 w3 own3 gr3 _; rw [Nat.zero_add, List.nil_append] at own3; obtain ⟨a3, cap3, rfl⟩ := own_any own3; have G3 := hid (FD.out.after (Fr.ofOwnGrown (B := wq.heap.size) (T := [37]) RD.out gr3 (Nat.le_refl _) (List.mem_singleton.2 rfl))); have OWN3 := hid own3; have BB3 := hid ((gr3.block _ (lt_of_get XD.out) (by simp [Value.ownBlock])).trans XD.out); clear own3 gr3)
              | (refine step_apG rfl (.tmp 51) (.tmp 54) 23 rfl wq.heap.size 37 iob (.agg #[.int .i64 0, .slice none 0 0, .string ⟨#[]⟩]) 3 48 Tryz.underlying23 hoi hoz0 hoz1 hoz2 rfl (by decide) (.slice (some ⟨wq.heap.size + 1, 0, none⟩) 0 0) 0 [] (by rfl) RE.out KT 37 _ os.length (cs.take (os.length * 3)) (by rfl) (SA.out.grow FE.out) (fun u hu => H1C.out u (List.mem_of_mem_take hu)) (by unfold maxLen; omega) (by omega) (by simp; try omega) ?_; intro v3 w3 own3 gr3 _; rw [Nat.zero_add, List.nil_append] at own3; obtain ⟨a3, cap3, rfl⟩ := own_any own3; have G3 := hid (FE.out.after (Fr.ofOwnGrown (B := wq.heap.size) (T := [37]) RE.out gr3 (Nat.le_refl _) (List.mem_singleton.2 rfl))); have OWN3 := hid own3; have BB3 := hid ((gr3.block _ (lt_of_get XE.out) (by simp [Value.ownBlock])).trans XE.out); clear own3 gr3)
              | (refine step_apG rfl (.tmp 55) (.tmp 57) 23 rfl wq.heap.size 37 iob (.agg #[.int .i64 0, .slice none 0 0, .string ⟨#[]⟩]) 3 48 Tryz.underlying23 hoi hoz0 hoz1 hoz2 rfl (by decide) _ os.length (cs.take (os.length * 3)) (by rfl) (ownsRow_grow OWN3.out ((Fr.refl 0 [] _).alloc (.cells #[.int .i64 o.kind, .slice a' o.links.length cap', .string (tx o.text)] 37))) (new 0) 37 _ 1 [.int .i64 o.kind, .slice a' o.links.length cap', .string (tx o.text)] (by rfl) (SlR.lit rfl |>.weak (fun b t _ hb => ⟨Nat.zero_le _, hb.2⟩)) (oneOb3 _ _ _ _ _) (by unfold maxLen; omega) (by omega) (by have := G3.out.size; simp; try omega) ?_; intro v4 w4 own4 gr4 _; obtain ⟨a4, cap4, rfl⟩ := own_any own4; have G4 := hid ((G3.out.alloc (.cells #[.int .i64 o.kind, .slice a' o.links.length cap', .string (tx o.text)] 37)).after (Fr.ofOwnGrown (B := wq.heap.size) (T := [37]) (ownsRow_grow OWN3.out ((Fr.refl 0 [] _).alloc (.cells #[.int .i64 o.kind, .slice a' o.links.length cap', .string (tx o.text)] 37))) gr4 (Nat.le_refl _) (List.mem_singleton.2 rfl))); have OWN4 := hid own4; clear own4 gr4)
              | (refine step_apG rfl (.tmp 55) (.tmp 57) 23 rfl wq.heap.size 37 iob (.agg #[.int .i64 0, .slice none 0 0, .string ⟨#[]⟩]) 3 48 Tryz.underlying23 hoi hoz0 hoz1 hoz2 rfl (by decide) _ os.length (cs.take (os.length * 3)) (by rfl) OWN3.out (new 0) 37 _ 1 [.int .i64 o.kind, .slice a' o.links.length cap', .string (tx o.text)] (by rfl) (litAt (by with_reducible exact BB3.out) rfl) (oneOb3 _ _ _ _ _) (by unfold maxLen; omega) (by omega) (by have := G3.out.size; simp; try omega) ?_; intro v4 w4 own4 gr4 _; obtain ⟨a4, cap4, rfl⟩ := own_any own4; have G4 := hid (G3.out.after (Fr.ofOwnGrown (B := wq.heap.size) (T := [37]) OWN3.out gr4 (Nat.le_refl _) (List.mem_singleton.2 rfl))); have OWN4 := hid own4; clear own4 gr4)
              | (refine step_apG rfl (.tmp 55) (.tmp 57) 23 rfl wq.heap.size 37 iob (.agg #[.int .i64 0, .slice none 0 0, .string ⟨#[]⟩]) 3 48 Tryz.underlying23 hoi hoz0 hoz1 hoz2 rfl (by decide) _ os.length (cs.take (os.length * 3)) (by rfl) OWN3.out (new 0) 37 _ 1 [.int .i64 o.kind, .slice a' o.links.length cap', .string (tx o.text)] (by rfl) (litAt BB3.out rfl) (oneOb3 _ _ _ _ _) (by unfold maxLen; omega) (by omega) (by have := G3.out.size; simp; try omega) ?_; intro v4 w4 own4 gr4 _; obtain ⟨a4, cap4, rfl⟩ := own_any own4; have G4 := hid (G3.out.after (Fr.ofOwnGrown (B := wq.heap.size) (T := [37]) OWN3.out gr4 (Nat.le_refl _) (List.mem_singleton.2 rfl))); have OWN4 := hid own4; clear own4 gr4)
              | (refine step_apG rfl (.tmp 58) (.tmp 61) 23 rfl wq.heap.size 37 iob (.agg #[.int .i64 0, .slice none 0 0, .string ⟨#[]⟩]) 3 48 Tryz.underlying23 hoi hoz0 hoz1 hoz2 rfl (by decide) _ (os.length + 1) (cs.take (os.length * 3) ++ [.int .i64 o.kind, .slice a' o.links.length cap', .string (tx o.text)]) (by rfl) OWN4.out KT 37 _ 0 (cs.drop (os.length * 3)) (by rfl) (SB.out.grow G4.out) (fun u hu => H1C.out u (List.mem_of_mem_drop hu)) (by unfold maxLen; omega) (by omega) (by have := G4.out.size; omega) ?_; intro v5 w5 own5 gr5 _; obtain ⟨a5, cap5, rfl⟩ := own_any own5; have G5 := hid (G4.out.after (Fr.ofOwnGrown (B := wq.heap.size) (T := [37]) OWN4.out gr5 (Nat.le_refl _) (List.mem_singleton.2 rfl))); have OWN5 := hid own5; have hs5 := G5.out.size; clear own5 gr5)
              | (go_at_call 107; go_must (refine (l1Copy_any KT _ (os.take os.length ++ o :: os.drop os.length) _ (MIX.out _ _ OWN5.out G5.out) (HBM.out os.length) (by simp; omega)).mono ?_; rintro e w6 ⟨v6, rfl, own6, hv6, fr6⟩; have V6 := hid hv6; clear hv6; have G6 := hid (G5.out.trans fr6.nil); have OWN6 := hid own6; clear own6 fr6)))
          | fail
          all_goals
            go_wp2
            go_ret2
            refine ⟨v6, ?_, (by rw [PPL.out]; exact OWN6.out.lower (by omega)), V6.out, FQ.out.trans G6.out.nil⟩
            have e := PPB.out
            subst e
            rfl
        · go_wp2
          obtain ⟨wq, rfl⟩ : ∃ W : World, W = wr := ⟨_, rfl⟩
          have FQ := hid (hfr)
          have BXQ := hid (BX.out)
          have KB := hid (fun (x : World) (f : Fr wq.heap.size [] wq x) => (⟨cell_of (f.keep _ _ BXQ.out (.inr (by simp))) rfl, cell_of (f.keep _ _ BXQ.out (.inr (by simp))) rfl, cell_of (f.keep _ _ BXQ.out (.inr (by simp))) rfl⟩ : x.cell? ⟨w.heap.size, 0, none⟩ = some (.int .i64 o.kind) ∧ x.cell? ⟨w.heap.size, 1, none⟩ = some (.slice a' o.links.length cap') ∧ x.cell? ⟨w.heap.size, 2, none⟩ = some (.string (tx o.text))))
          have SA := hid (show SlR KT 37 3 wq (.slice (some ⟨g, 0, none⟩) os.length cap) os.length (cs.take (os.length * 3)) from (SLR.out.takeK (Nat.le_refl _)).grow FQ.out)
          have SB := hid (show SlR KT 37 3 wq (.slice (some ⟨g, os.length * 3, none⟩) 0 (cap - os.length)) 0 (cs.drop (os.length * 3)) from (by rw [CSL.out]; exact SlR.zero rfl))
          have MIX := hid (fun (w5 : World) (v5 : Value) (h : w5.ownsRow wq.heap.size 37 3 v5 (os.length + 1 + 0) (cs.take (os.length * 3) ++ [.int .i64 o.kind, .slice a' o.links.length cap', .string (tx o.text)] ++ cs.drop (os.length * 3))) (f : Fr wq.heap.size [] wq w5) => mixed (k := os.length) (Nat.le_refl _) Z1.out CS.out (fun z hz => (Z3.out z hz).grow (FQ.out.trans f.nil)) (HO0.out.grow (FQ.out.trans f.nil)) (by rw [Nat.sub_self]; exact h))
          have hq := FQ.out.size
          have FA := hid ((Fr.refl wq.heap.size [] wq).drew)
          have FB := hid (((Fr.refl wq.heap.size [] wq).alloc (.cells #[] 37)).drew)
          have FC := hid (((Fr.refl wq.heap.size [] wq).alloc (.cells #[.int .i64 o.kind, .slice a' o.links.length cap', .string (tx o.text)] 37)).drew)
          have FD := hid ((((Fr.refl wq.heap.size [] wq).alloc (.cells #[] 37)).alloc (.cells #[.int .i64 o.kind, .slice a' o.links.length cap', .string (tx o.text)] 37)).drew)
          have FE := hid ((((Fr.refl wq.heap.size [] wq).alloc (.cells #[.int .i64 o.kind, .slice a' o.links.length cap', .string (tx o.text)] 37)).alloc (.cells #[] 37)).drew)
          have RB := hid (show (wq.alloc (.cells #[] 37)).drew.ownsRow wq.heap.size 37 3 (.slice (some ⟨wq.heap.size, 0, none⟩) 0 0) 0 [] from ownsRow_keep (World.ownsRow_made wq #[] 0 (Nat.le_refl _) (by decide) (by simp)) (Fr.refl 0 [] _).drew (by simp))
          have RD := hid (show ((wq.alloc (.cells #[] 37)).alloc (.cells #[.int .i64 o.kind, .slice a' o.links.length cap', .string (tx o.text)] 37)).drew.ownsRow wq.heap.size 37 3 (.slice (some ⟨wq.heap.size, 0, none⟩) 0 0) 0 [] from ownsRow_keep (World.ownsRow_made wq #[] 0 (Nat.le_refl _) (by decide) (by simp)) ((Fr.refl 0 [] _).alloc (.cells #[.int .i64 o.kind, .slice a' o.links.length cap', .string (tx o.text)] 37)).drew (by simp))
          have RE := hid (show ((wq.alloc (.cells #[.int .i64 o.kind, .slice a' o.links.length cap', .string (tx o.text)] 37)).alloc (.cells #[] 37)).drew.ownsRow wq.heap.size 37 3 (.slice (some ⟨wq.heap.size + 1, 0, none⟩) 0 0) 0 [] from ownsRow_keep (ownsRow_lo (by have := World.ownsRow_made (base := (wq.alloc (.cells #[.int .i64 o.kind, .slice a' o.links.length cap', .string (tx o.text)] 37)).heap.size) (e := 37) (size := 3) (wq.alloc (.cells #[.int .i64 o.kind, .slice a' o.links.length cap', .string (tx o.text)] 37)) #[] 0 (Nat.le_refl _) (by decide) (by simp); simpa using this) (Nat.le_succ _)) (Fr.refl 0 [] _).drew (by simp))
          have XD := hid (show ((wq.alloc (.cells #[] 37)).alloc (.cells #[.int .i64 o.kind, .slice a' o.links.length cap', .string (tx o.text)] 37)).drew.heap[wq.heap.size + 1]? = some (.cells #[.int .i64 o.kind, .slice a' o.links.length cap', .string (tx o.text)] 37) from heap_alloc_eq (wq.alloc (.cells #[] 37)) _ (by simp))
          have XE := hid (show ((wq.alloc (.cells #[.int .i64 o.kind, .slice a' o.links.length cap', .string (tx o.text)] 37)).alloc (.cells #[] 37)).drew.heap[wq.heap.size]? = some (.cells #[.int .i64 o.kind, .slice a' o.links.length cap', .string (tx o.text)] 37) from heap_up (heap_alloc_new wq _) _)
          first
          | go_region_held3 (fun x => x.cell? ⟨w.heap.size, 0, none⟩ = some (.int .i64 o.kind) ∧ x.cell? ⟨w.heap.size, 1, none⟩ = some (.slice a' o.links.length cap') ∧ x.cell? ⟨w.heap.size, 2, none⟩ = some (.string (tx o.text)))
            (first
              | with_reducible exact KB.out _ FA.out
              | with_reducible exact KB.out _ FB.out
              | with_reducible exact KB.out _ FC.out
              | with_reducible exact KB.out _ FD.out
              | with_reducible exact KB.out _ FE.out
              | with_reducible exact KB.out _ G6.out
              | with_reducible exact KB.out _ G5.out
              | with_reducible exact KB.out _ G4.out
              | with_reducible exact KB.out _ G3.out
              | with_reducible exact KB.out _ (G3.out.alloc _))
            (first
              | (refine step_apG rfl (.tmp 51) (.tmp 54) 23 rfl wq.heap.size 37 iob (.agg #[.int .i64 0, .slice none 0 0, .string ⟨#[]⟩]) 3 48 Tryz.underlying23 hoi hoz0 hoz1 hoz2 rfl (by decide) (.slice (some ⟨wq.heap.size, 0, none⟩) 0 0) 0 [] (by rfl) RB.out KT 37 _ os.length (cs.take (os.length * 3)) (by rfl) (SA.out.grow FB.out) (fun u hu => H1C.out u (List.mem_of_mem_take hu)) (by unfold maxLen; omega) (by omega) (by simp; try omega) ?_; intro v3 w3 own3 gr3 _; rw [Nat.zero_add, List.nil_append] at own3; obtain ⟨a3, cap3, rfl⟩ := own_any own3; have G3 := hid (FB.out.after (Fr.ofOwnGrown (B := wq.heap.size) (T := [37]) RB.out gr3 (Nat.le_refl _) (List.mem_singleton.2 rfl))); have OWN3 := hid own3;  clear own3 gr3)
              | (refine step_apG rfl (.tmp 51) (.tmp 54) 23 rfl wq.heap.size 37 iob (.agg #[.int .i64 0, .slice none 0 0, .string ⟨#[]⟩]) 3 48 Tryz.underlying23 hoi hoz0 hoz1 hoz2 rfl (by decide) (.slice (some ⟨wq.heap.size, 0, none⟩) 0 0) 0 [] (by rfl) RD.out KT 37 _ os.length (cs.take (os.length * 3)) (by rfl) (SA.out.grow FD.out) (fun u hu => H1C.out u (List.mem_of_mem_take hu)) (by unfold maxLen; omega) (by omega) (by simp; try omega) ?_; intro v3 w3 own3 gr3 _; rw [Nat.zero_add, List.nil_append] at own3; obtain ⟨a3, cap3, rfl⟩ := own_any own3; have G3 := hid (FD.out.after (Fr.ofOwnGrown (B := wq.heap.size) (T := [37]) RD.out gr3 (Nat.le_refl _) (List.mem_singleton.2 rfl))); have OWN3 := hid own3; have BB3 := hid ((gr3.block _ (lt_of_get XD.out) (by simp [Value.ownBlock])).trans XD.out); clear own3 gr3)
              | (refine step_apG rfl (.tmp 51) (.tmp 54) 23 rfl wq.heap.size 37 iob (.agg #[.int .i64 0, .slice none 0 0, .string ⟨#[]⟩]) 3 48 Tryz.underlying23 hoi hoz0 hoz1 hoz2 rfl (by decide) (.slice (some ⟨wq.heap.size + 1, 0, none⟩) 0 0) 0 [] (by rfl) RE.out KT 37 _ os.length (cs.take (os.length * 3)) (by rfl) (SA.out.grow FE.out) (fun u hu => H1C.out u (List.mem_of_mem_take hu)) (by unfold maxLen; omega) (by omega) (by simp; try omega) ?_; intro v3 w3 own3 gr3 _; rw [Nat.zero_add, List.nil_append] at own3; obtain ⟨a3, cap3, rfl⟩ := own_any own3; have G3 := hid (FE.out.after (Fr.ofOwnGrown (B := wq.heap.size) (T := [37]) RE.out gr3 (Nat.le_refl _) (List.mem_singleton.2 rfl))); have OWN3 := hid own3; have BB3 := hid ((gr3.block _ (lt_of_get XE.out) (by simp [Value.ownBlock])).trans XE.out); clear own3 gr3)
              | (refine step_apG rfl (.tmp 55) (.tmp 57) 23 rfl wq.heap.size 37 iob (.agg #[.int .i64 0, .slice none 0 0, .string ⟨#[]⟩]) 3 48 Tryz.underlying23 hoi hoz0 hoz1 hoz2 rfl (by decide) _ os.length (cs.take (os.length * 3)) (by rfl) (ownsRow_grow OWN3.out ((Fr.refl 0 [] _).alloc (.cells #[.int .i64 o.kind, .slice a' o.links.length cap', .string (tx o.text)] 37))) (new 0) 37 _ 1 [.int .i64 o.kind, .slice a' o.links.length cap', .string (tx o.text)] (by rfl) (SlR.lit rfl |>.weak (fun b t _ hb => ⟨Nat.zero_le _, hb.2⟩)) (oneOb3 _ _ _ _ _) (by unfold maxLen; omega) (by omega) (by have := G3.out.size; simp; try omega) ?_; intro v4 w4 own4 gr4 _; obtain ⟨a4, cap4, rfl⟩ := own_any own4; have G4 := hid ((G3.out.alloc (.cells #[.int .i64 o.kind, .slice a' o.links.length cap', .string (tx o.text)] 37)).after (Fr.ofOwnGrown (B := wq.heap.size) (T := [37]) (ownsRow_grow OWN3.out ((Fr.refl 0 [] _).alloc (.cells #[.int .i64 o.kind, .slice a' o.links.length cap', .string (tx o.text)] 37))) gr4 (Nat.le_refl _) (List.mem_singleton.2 rfl))); have OWN4 := hid own4; clear own4 gr4)
              | (refine step_apG rfl (.tmp 55) (.tmp 57) 23 rfl wq.heap.size 37 iob (.agg #[.int .i64 0, .slice none 0 0, .string ⟨#[]⟩]) 3 48 Tryz.underlying23 hoi hoz0 hoz1 hoz2 rfl (by decide) _ os.length (cs.take (os.length * 3)) (by rfl) OWN3.out (new 0) 37 _ 1 [.int .i64 o.kind, .slice a' o.links.length cap', .string (tx o.text)] (by rfl) (litAt (by with_reducible exact BB3.out) rfl) (oneOb3 _ _ _ _ _) (by unfold maxLen; omega) (by omega) (by have := G3.out.size; simp; try omega) ?_; intro v4 w4 own4 gr4 _; obtain ⟨a4, cap4, rfl⟩ := own_any own4; have G4 := hid (G3.out.after (Fr.ofOwnGrown (B := wq.heap.size) (T := [37]) OWN3.out gr4 (Nat.le_refl _) (List.mem_singleton.2 rfl))); have OWN4 := hid own4; clear own4 gr4)
              | (refine step_apG rfl (.tmp 55) (.tmp 57) 23 rfl wq.heap.size 37 iob (.agg #[.int .i64 0, .slice none 0 0, .string ⟨#[]⟩]) 3 48 Tryz.underlying23 hoi hoz0 hoz1 hoz2 rfl (by decide) _ os.length (cs.take (os.length * 3)) (by rfl) OWN3.out (new 0) 37 _ 1 [.int .i64 o.kind, .slice a' o.links.length cap', .string (tx o.text)] (by rfl) (litAt BB3.out rfl) (oneOb3 _ _ _ _ _) (by unfold maxLen; omega) (by omega) (by have := G3.out.size; simp; try omega) ?_; intro v4 w4 own4 gr4 _; obtain ⟨a4, cap4, rfl⟩ := own_any own4; have G4 := hid (G3.out.after (Fr.ofOwnGrown (B := wq.heap.size) (T := [37]) OWN3.out gr4 (Nat.le_refl _) (List.mem_singleton.2 rfl))); have OWN4 := hid own4; clear own4 gr4)
              | (refine step_apG rfl (.tmp 58) (.tmp 61) 23 rfl wq.heap.size 37 iob (.agg #[.int .i64 0, .slice none 0 0, .string ⟨#[]⟩]) 3 48 Tryz.underlying23 hoi hoz0 hoz1 hoz2 rfl (by decide) _ (os.length + 1) (cs.take (os.length * 3) ++ [.int .i64 o.kind, .slice a' o.links.length cap', .string (tx o.text)]) (by rfl) OWN4.out KT 37 _ 0 (cs.drop (os.length * 3)) (by rfl) (SB.out.grow G4.out) (fun u hu => H1C.out u (List.mem_of_mem_drop hu)) (by unfold maxLen; omega) (by omega) (by have := G4.out.size; omega) ?_; intro v5 w5 own5 gr5 _; obtain ⟨a5, cap5, rfl⟩ := own_any own5; have G5 := hid (G4.out.after (Fr.ofOwnGrown (B := wq.heap.size) (T := [37]) OWN4.out gr5 (Nat.le_refl _) (List.mem_singleton.2 rfl))); have OWN5 := hid own5; have hs5 := G5.out.size; clear own5 gr5)
              | (go_at_call 107; go_must (refine (l1Copy_any KT _ (os.take os.length ++ o :: os.drop os.length) _ (MIX.out _ _ OWN5.out G5.out) (HBM.out os.length) (by simp; omega)).mono ?_; rintro e w6 ⟨v6, rfl, own6, hv6, fr6⟩; have V6 := hid hv6; clear hv6; have G6 := hid (G5.out.trans fr6.nil); have OWN6 := hid own6; clear own6 fr6)))
          | fail
          all_goals
            go_wp2
            go_ret2
            refine ⟨v6, ?_, (by rw [PPL.out]; exact OWN6.out.lower (by omega)), V6.out, FQ.out.trans G6.out.nil⟩
            have e := PPB.out
            subst e
            rfl
      · have i16 : (16 : Int) ≤ (os.length : Int) := by omega
        have PP := hid (show (pl, pb) = (os, false) by rw [← HPP.out, PF.out HK2.out h16])
        clear EK HK2 h16
        have fr1 : Fr wr.heap.size [] wr wr := Fr.refl _ _ _
        go_wp2_with (go_at_call 107; go_must (refine (l1Copy_any _ _ os _ (HKT.out.grow (hfr.trans fr1.nil)) HOB.out (by omega)).mono ?_; rintro e w4 ⟨v4, rfl, own4, hv4, fr4⟩; have hq4 := fr1.size; have OWN4 := hid own4; have V4 := hid hv4; have fr1 := fr1.trans fr4.nil; clear own4 hv4 fr4))
        go_ret2
        refine ⟨v4, ?_, ?_, V4.out, hfr.trans fr1.nil⟩
        · have e := PP.out
          simp only [Prod.mk.injEq] at e
          rw [e.2]
          rfl
        · have e := PP.out
          simp only [Prod.mk.injEq] at e
          rw [e.1]
          exact OWN4.out.lower (by have := hfr.size; omega)

end Go.Proofs.YtjgbconlpolddaaGreat
