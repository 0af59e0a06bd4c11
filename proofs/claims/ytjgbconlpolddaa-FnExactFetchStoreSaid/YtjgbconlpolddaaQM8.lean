/- Rows under way: a made row of which the first cells are laid; what the sizes say. -/
import Derived.Test.YtjgbconlpolddaaQStSep
import Derived.Laws.MakeOwn
import Derived.Laws.OwnMore
import Derived.Test.YtjgbconlpolddaaQStPutS
import Derived.Test.YtjgbconlpolddaaQM7
import Derived.Test.YtjgbconlpolddaaQPkSpecC
import Derived.Test.YtjgbconlpolddaaQM5
set_option linter.unusedVariables false
set_option linter.unusedSimpArgs false
namespace Go.Proofs.Ytjgbconlpolddaa
open Go.RowKit
set_option linter.unusedVariables false

/-- A row of n elements of which the first cells are laid. -/
def HalfRow (lo E sz : Nat) (w : World) (v : Value) (n : Nat) (done : List Value) : Prop :=
  ∃ cs, w.ownsRow lo E sz v n cs ∧ cs.length = n * sz ∧ done = cs.take done.length

theorem HalfRow.start {lo E sz n : Nat} {w : World} {v : Value} {cs : List Value} (h : w.ownsRow lo E sz v n cs) : HalfRow lo E sz w v n [] := ⟨cs, h, h.1, rfl⟩

theorem HalfRow.keep {lo E sz n B : Nat} {T : List Nat} {w w' : World} {v : Value} {d : List Value} (h : HalfRow lo E sz w v n d) (hf : Fr B T w w') (hT : E ∉ T) : HalfRow lo E sz w' v n d := by
  obtain ⟨cs, h1, h2, h3⟩ := h
  exact ⟨cs, ownsRow_keep h1 hf hT, h2, h3⟩

theorem HalfRow.grow {lo E sz n B : Nat} {w w' : World} {v : Value} {d : List Value} (h : HalfRow lo E sz w v n d) (hf : Fr B [] w w') : HalfRow lo E sz w' v n d := h.keep hf (by simp)

theorem HalfRow.all {lo E sz n : Nat} {w : World} {v : Value} {d : List Value} (h : HalfRow lo E sz w v n d) (hd : d.length = n * sz) : w.ownsRow lo E sz v n d := by
  obtain ⟨cs, h1, h2, h3⟩ := h
  rw [h3, hd, ← h2, List.take_length]
  exact h1

theorem HalfRow.cell {lo E sz n g cap : Nat} {w : World} {d : List Value} (h : HalfRow lo E sz w (.slice (some ⟨g, 0, none⟩) n cap) n d) {j : Nat} (hj : j < n * sz) : ∃ u, w.cell? ⟨g, j, none⟩ = some u := by
  obtain ⟨cs, h1, h2, h3⟩ := h
  exact ⟨cs[j]'(by omega), by rw [h1.cellAt j (by omega), List.getElem?_eq_getElem (by omega)]⟩

theorem HalfRow.free {lo E sz n g cap : Nat} {w : World} {d : List Value} (h : HalfRow lo E sz w (.slice (some ⟨g, 0, none⟩) n cap) n d) (j : Nat) : w.frozen? ⟨g, j, none⟩ = false := by
  obtain ⟨cs, h1, h2, h3⟩ := h
  exact h1.frozenAt j

theorem HalfRow.lo {lo E sz n g cap : Nat} {w : World} {d : List Value} (h : HalfRow lo E sz w (.slice (some ⟨g, 0, none⟩) n cap) n d) : lo ≤ g ∧ g < w.heap.size := by
  obtain ⟨cs, h1, h2, h3⟩ := h
  exact h1.lt g rfl

/-- The next cell is laid. -/
theorem HalfRow.next {lo E sz n g cap : Nat} {w : World} {d : List Value} (h : HalfRow lo E sz w (.slice (some ⟨g, 0, none⟩) n cap) n d) {j : Nat} (hj : d.length = j) (hn : j < n * sz) (u : Value) :
    HalfRow lo E sz (w.setCell ⟨g, j, none⟩ u) (.slice (some ⟨g, 0, none⟩) n cap) n (d ++ [u]) ∧ w.grownBy (w.setCell ⟨g, j, none⟩ u) (some g) ∧ Fr lo [E] w (w.setCell ⟨g, j, none⟩ u) := by
  obtain ⟨cs, h1, h2, h3⟩ := h
  subst hj
  obtain ⟨s1, s2⟩ := h1.stored d.length u
  refine ⟨⟨cs.set d.length u, s1, by rw [List.length_set]; exact h2, ?_⟩, s2, Fr.ofOwnGrown h1 s2 (Nat.le_refl _) (by simp)⟩
  rw [List.length_append, List.length_singleton, List.take_add_one, List.getElem?_set_self (by omega), List.take_set_of_le (Nat.le_refl _), ← h3]
  rfl

/-- What a size says: negative, or not more than what was left, and then P. -/
def Sz (P : Prop) (left : Int) (e : Ending) : Prop := ∃ n : Int, e = .returned (.int .i64 n) ∧ -1 ≤ n ∧ (0 ≤ n → n ≤ left ∧ P)

theorem Sz.no (P : Prop) (left : Int) : Sz P left (.returned (.int .i64 (-1))) := ⟨-1, rfl, Int.le_refl _, fun h => by omega⟩

end Go.Proofs.Ytjgbconlpolddaa

/- The reference's l13All and FetchStore. -/
namespace Go.Proofs.Ytjgbconlpolddaa
open Go.RowKit
set_option linter.unusedVariables false

set_option maxRecDepth 20000 in
set_option maxHeartbeats 4000000 in
theorem specAll_any (K K' : Nat → Bool → Prop) (v vl : Value) (os list : List Ob) (w : World) (hv : ObsR K w v os) (hl : ObsR K' w vl list) (hok : stOk os = true) (hlo : ∀ o ∈ list, obOk o = true) (hll : list.length ≤ 1000000) :
    Calls Try.prog 57 #[v, vl] w fun e w' => ∃ v', e = .returned (.tuple #[v', .bool (putAll os list).isSome]) ∧ ObsOwn w.heap.size w' v' ((putAll os list).getD []) ∧ Fr w.heap.size [] w w' := by
  obtain ⟨a, cap, rfl, hcap, -⟩ := hv.shape
  obtain ⟨a', cap', rfl, hcap', hcell⟩ := hl.shape
  have hl16 := (stOk_iff.1 hok).1
  have hob : ∀ p ∈ os, p.links.length ≤ 1000000000 := fun p hp => by have := (obOk_len ((stOk_iff.1 hok).2.1 p hp)).1; omega
  have HOB := hid hob
  have HV := hid hv
  have HC := hid hcell
  have OK := hid hok
  have LO := hid hlo
  have PE := hid (show putAll os list = putTo os list list.length from rfl)
  generalize putAll os list = R at *
  clear hv hl hcell hob hok hlo
  go_enter Try.func57, Try.ntmps57
  go_wp2_with (go_at_call 89; go_must (refine (l1Copy_any _ _ os _ HV.out HOB.out (by omega)).mono ?_; rintro e w3 ⟨v3, rfl, own3, hv3, fr3⟩; have F3 := hid fr3; have OWN3 := hid own3; have V3 := hid hv3; clear fr3 own3 hv3))
  go_loopw [6, 7] (fun vo vi wx => ∃ (k : Nat) (xs : List Ob), k ≤ list.length ∧ vi = .int .i64 k ∧ putTo os list k = some xs ∧ ObsOwn w.heap.size wx vo xs ∧ vo ≠ .slice none 0 0 ∧ Fr w.heap.size [] w wx) (fun _ vi _ => list.length - (intOf vi).toNat)
  case atStart => exact ⟨0, os, Nat.zero_le _, rfl, rfl, OWN3.out, V3.out, F3.out⟩
  case round =>
    obtain ⟨k, xs, hk, rfl, hto, hown, hvn, hfr⟩ := hrel
    have TO := hid hto
    have OWN := hid hown
    have XOK := hid (putTo_ok OK.out LO.out hk hto).1
    have hwr := hfr.size
    obtain ⟨va, vcap, rfl, _, _⟩ := hown.reads.shape
    have VN := hid hvn
    clear hto hown hvn
    by_cases hlt : k < list.length
    · rcases HC.out with hh | ⟨b, off, rfl, hbs, hcell⟩
      · rw [hh] at hlt; cases hlt
      · obtain ⟨u, h0, h1, h2, hu⟩ := hcell k hlt
        obtain ⟨ua, ucap, rfl, _, _⟩ := hu.shape
        have c0 := hfr.cell hbs h0
        have c1 := hfr.cell hbs h1
        have c2 := hfr.cell hbs h2
        have HU := hid (hu.grow hfr)
        have hki : (k : Int) < (list.length : Int) := by omega
        have OO := hid (LO.out _ (List.getElem_mem hlt))
        have SU := hid (putTo_succ hlt TO.out)
        have NN := hid (fun h => putTo_none (os := os) (list := list) (k := k + 1) h list.length hlt)
        clear h0 h1 h2 hu hcell
        generalize list[k] = o at *
        obtain ⟨px, pb, hpp⟩ : ∃ px pb, put xs o = (px, pb) := ⟨_, _, rfl⟩
        have SU := hid (show putTo os list (k + 1) = if pb = true then some px else none by rw [SU.out, hpp])
        cases pb
        · have NO := hid (show R = none from by rw [PE.out]; exact NN.out (by rw [SU.out]; rfl))
          clear SU NN
          go_wp2_with (go_at_call 90; go_must (refine (l1Put_any _ _ _ _ xs o _ OWN.out HU.out XOK.out OO.out VN.out).mono ?_; rintro e w4 ⟨v4, rfl, own4, hv4, fr4⟩; rw [hpp]; have F4 := hid (hfr.trans fr4.nil); have hs4 := F4.out.size; clear fr4 own4 hv4))
          go_ret2
          refine ⟨.slice (some ⟨w4.heap.size, 0, none⟩) 0 0, ?_, ?_, F4.out.alloc _⟩
          · rw [NO.out]; rfl
          · rw [NO.out]; exact (ObsOwn.empty rfl).lower hs4
        · have NX := hid (show putTo os list (k + 1) = some px from by rw [SU.out]; rfl)
          clear SU NN
          go_wp2_with (go_at_call 90; go_must (refine (l1Put_any _ _ _ _ xs o _ OWN.out HU.out XOK.out OO.out VN.out).mono ?_; rintro e w4 ⟨v4, rfl, own4, hv4, fr4⟩; rw [hpp] at own4; rw [hpp]; have OWN4 := hid own4; have V4 := hid hv4; have F4 := hid (hfr.trans fr4.nil); clear fr4 own4 hv4))
          go_roundw
          case rel => exact ⟨k + 1, px, by omega, by go_num, NX.out, OWN4.out.lower hwr, V4.out, F4.out⟩
          case measure => simp [intOf]; omega
    · obtain rfl : k = list.length := by omega
      have RS := hid (show R = some xs from by rw [PE.out, TO.out])
      go_wp2
      go_ret2
      refine ⟨.slice va xs.length vcap, ?_, ?_, hfr⟩
      · have e := RS.out
        subst e
        rfl
      · rw [RS.out]; exact OWN.out

theorem specPackObjects_some (K : Nat → Bool → Prop) (v : Value) (es : List En) (list : List Ob) (w : World) (hv : EnsR K w v es) (hl : es.length ≤ 2000000) (hbl : ∀ e ∈ es, e.links.length ≤ 1000000000) (hu : unpack es = some list) :
    Calls Try.prog 55 #[v] w fun e w' => ∃ a cap, e = .returned (.tuple #[.slice a list.length cap, .bool true]) ∧ ObsOwn w.heap.size w' (.slice a list.length cap) list ∧ Fr w.heap.size [] w w' := by
  refine (specPackObjects_any K v es w hv hl hbl).mono ?_
  rintro e w1 ⟨v1, he, own1, fr1⟩
  rw [hu] at he own1
  have own2 : ObsOwn w.heap.size w1 v1 list := own1
  obtain ⟨a, cap, rfl, _, _⟩ := own2.reads.shape
  exact ⟨a, cap, he, own2, fr1⟩

theorem specPackObjects_none (K : Nat → Bool → Prop) (v : Value) (es : List En) (w : World) (hv : EnsR K w v es) (hl : es.length ≤ 2000000) (hbl : ∀ e ∈ es, e.links.length ≤ 1000000000) (hu : unpack es = none) :
    Calls Try.prog 55 #[v] w fun e w' => ∃ v', e = .returned (.tuple #[v', .bool false]) ∧ Fr w.heap.size [] w w' := by
  refine (specPackObjects_any K v es w hv hl hbl).mono ?_
  rintro e w1 ⟨v1, he, own1, fr1⟩
  rw [hu] at he
  exact ⟨v1, he, fr1⟩

set_option maxRecDepth 20000 in
set_option maxHeartbeats 4000000 in
theorem specFetch_any (K K' : Nat → Bool → Prop) (v vp : Value) (os : List Ob) (es : List En) (w : World) (hv : ObsR K w v os) (hp : EnsR K' w vp es) (hob : ∀ p ∈ os, p.links.length ≤ 1000000000) (hol : os.length ≤ 1000000000) (hel : es.length ≤ 2000000) (hbl : ∀ e ∈ es, e.links.length ≤ 1000000000) :
    Calls Try.prog 19 #[v, vp] w fun e w' => ∃ v', e = .returned (.tuple #[v', .bool (fetch os es).isSome]) ∧ ObsOwn w.heap.size w' v' ((fetch os es).getD []) ∧ Fr w.heap.size [] w w' := by
  obtain ⟨a, cap, rfl, hcap, -⟩ := hv.shape
  obtain ⟨a', cap', rfl, hcap', -⟩ := hp.shape
  have HV := hid hv
  have HP := hid hp
  have HOB := hid hob
  have HBL := hid hbl
  have FE := hid (show fetch os es = (match unpack es with | some list => if stOk os = true then putAll os list else none | none => none) from rfl)
  generalize fetch os es = R at *
  clear hv hp hob hbl
  cases hu : unpack es with
  | none =>
    have HU := hid hu
    have NO := hid (show R = none by rw [FE.out, hu])
    clear FE hu
    go_enter Try.func19, Try.ntmps19
    go_wp2_with (go_at_call 55; go_must (refine (specPackObjects_none K' _ es _ HP.out hel HBL.out HU.out).mono ?_; rintro e w1 ⟨v1, rfl, fr1⟩; have F1 := hid fr1; have hs1 := fr1.size; clear fr1))
    go_ret2
    refine ⟨.slice (some ⟨w1.heap.size, 0, none⟩) 0 0, ?_, ?_, F1.out.alloc _⟩
    · rw [NO.out]; rfl
    · rw [NO.out]; exact (ObsOwn.empty rfl).lower hs1
  | some list =>
    obtain ⟨hl, hll, hlok⟩ := unpack_ok hu
    have HU := hid hu
    have LOK := hid hlok
    have HLL := hid (show list.length ≤ 1000000 by omega)
    clear hll
    have FE2 := hid (show R = if stOk os = true then putAll os list else none by rw [FE.out, hu])
    clear FE hu hlok
    cases hok : stOk os
    · have OK := hid hok
      have NO := hid (show R = none by rw [FE2.out, hok]; rfl)
      clear FE2 hok
      go_enter Try.func19, Try.ntmps19
      go_wp2_with (first
        | (go_at_call 55; go_must (refine (specPackObjects_some K' _ es list _ HP.out hel HBL.out HU.out).mono ?_; rintro e w1 ⟨la, lcap, rfl, own1, fr1⟩; have F1 := hid fr1; clear fr1 own1))
        | (go_at_call 56; go_must (refine (specStoreValid_any _ _ os _ (HV.out.grow F1.out) HOB.out hol).mono ?_; rintro e w2 ⟨rfl, fr2⟩; rw [OK.out]; have F2 := hid (F1.out.trans fr2.nil); have hs2 := F2.out.size; clear fr2)))
      go_ret2
      refine ⟨.slice (some ⟨w2.heap.size, 0, none⟩) 0 0, ?_, ?_, F2.out.alloc _⟩
      · rw [NO.out]; rfl
      · rw [NO.out]; exact (ObsOwn.empty rfl).lower hs2
    · have OK := hid hok
      have RS := hid (show R = putAll os list by rw [FE2.out, hok]; rfl)
      clear FE2 hok
      go_enter Try.func19, Try.ntmps19
      go_wp2_with (first
        | (go_at_call 55; go_must (refine (specPackObjects_some K' _ es list _ HP.out hel HBL.out HU.out).mono ?_; rintro e w1 ⟨la, lcap, rfl, own1, fr1⟩; have F1 := hid fr1; have OWN1 := hid own1; clear fr1 own1))
        | (go_at_call 56; go_must (refine (specStoreValid_any _ _ os _ (HV.out.grow F1.out) HOB.out hol).mono ?_; rintro e w2 ⟨rfl, fr2⟩; rw [OK.out]; have F2 := hid (F1.out.trans fr2.nil); have OWN2 := hid (OWN1.out.grow fr2); clear fr2))
        | (go_at_call 57; go_must (refine (specAll_any _ _ _ _ os list _ (HV.out.grow F2.out) OWN2.out.reads OK.out LOK.out HLL.out).mono ?_; rintro e w3 ⟨v3, rfl, own3, fr3⟩; have F3 := hid (F2.out.trans fr3.nil); have OWN3 := hid own3; have hs := F2.out.size; clear fr3 own3)))
      go_ret2
      refine ⟨v3, ?_, ?_, F3.out⟩
      · have e := RS.out
        subst e
        rfl
      · rw [RS.out]; exact OWN3.out.lower hs

end Go.Proofs.Ytjgbconlpolddaa

/- Draws of stores. -/
namespace Go.Proofs.Ytjgbconlpolddaa
open Go.RowKit
set_option linter.unusedVariables false

/-- A reading stays where the one block that changed is none of its own. -/
theorem SlR.grown {K : Nat → Bool → Prop} {E sz n : Nat} {w w' : World} {v : Value} {cs : List Value} {row : Option Nat} (h : SlR K E sz w v n cs) (hg : w.grownBy w' row) (hK : ∀ b t, K b t → row ≠ some b) : SlR K E sz w' v n cs := by
  obtain ⟨a, cap, h1, h2, h3, h4, h5⟩ := h
  refine ⟨a, cap, h1, h2, h3, h4, fun hn => ?_⟩
  obtain ⟨b, off, cur, e, fr, g1, g2, g3, g4⟩ := h5 hn
  exact ⟨b, off, cur, e, fr, g1, g2, by rw [hg.block b (lt_of_get g3) (fun h => hK _ _ g2 h.symm)]; exact g3, g4⟩

theorem ObsOwn.grown {lo : Nat} {w w' : World} {v : Value} {os : List Ob} {row : Option Nat} (h : ObsOwn lo w v os) (hg : w.grownBy w' row) (hr : ∀ b, row = some b → b < lo) : ObsOwn lo w' v os := by
  obtain ⟨zs, h1, h2, h3⟩ := h
  have hK : ∀ b (t : Bool), new lo b t → row ≠ some b := fun b t hb he => by have := hr b he; have := hb.1; omega
  refine ⟨zs, h1, h2.kept hg ?_, fun z hz => (h3 z hz).grown hg hK⟩
  cases ho : v.ownBlock with
  | none => exact .inl rfl
  | some x =>
    refine .inr fun he => ?_
    have h5 := hr x he.symm
    obtain ⟨_, hh⟩ := h2
    rcases hh with ⟨rfl, _⟩ | ⟨g, cap, cur, rfl, hb, _⟩
    · cases ho
    · have hx : g = x := by simpa [Value.ownBlock] using ho
      omega

theorem ids_in {ids : List Int} (h : ∀ x ∈ ids, 0 ≤ x ∧ x ≤ 990) : ∀ (i : Nat) (h : i < ids.length), -1000 ≤ ids[i] ∧ ids[i] ≤ 1000 := fun i hi => by
  have := h _ (List.getElem_mem hi)
  omega

theorem ids_snoc {ids : List Int} {n : Int} (h : ∀ x ∈ ids, 0 ≤ x ∧ x ≤ 990) (hn : 0 ≤ n ∧ n ≤ 990) : ∀ x ∈ ids ++ [n], 0 ≤ x ∧ x ≤ 990 := fun x hx => by
  rcases List.mem_append.1 hx with hx | hx
  · exact h x hx
  · simp at hx; subst hx; exact hn

set_option maxRecDepth 20000 in
set_option maxHeartbeats 4000000 in
theorem l91Store_any {B r p : Nat} {w : World} (hR : Rdr B w r p) (hp : p ≤ 999900000) :
    Calls Try.prog 82 #[.pointer (some ⟨r, 0, none⟩)] w fun e w' => ∃ (v : Value) (os : List Ob) (q : Nat), e = .returned v ∧ ObsOwn w.heap.size w' v os ∧ stOk os = true ∧ Rdr B w' r q ∧ q ≤ p + 3 + 70 * 20 ∧ Fr B [102] w w' := by
  have hB : B ≤ w.heap.size := Nat.le_trans hR.1 (Nat.le_of_lt hR.lt)
  have HR0 := hid hR
  obtain ⟨i0, hi, hz0, hz1, hz2⟩ := info_parts infoI
  go_enter Try.func82, Try.ntmps82
  have OW0 := hid ((ObsOwn.empty (w := w) rfl).grow ((Fr.refl 0 [] (w.alloc (.cells #[] 40))).alloc (.cells #[] 3)))
  have ID0 := hid (show ((w.alloc (.cells #[] 40)).alloc (.cells #[] 3)).ownsRow w.heap.size 3 1 (.slice (some ⟨w.heap.size + 1, 0, none⟩) 0 0) 0 [] from by
    have h := World.ownsRow_made (w.alloc (.cells #[] 40)) (e := 3) (size := 1) #[] 0 (Nat.le_refl _) (by decide) (by simp)
    exact ownsRow_lo (by simpa using h) (by simp))
  have F0 := hid (((Fr.refl B [102] w).alloc (.cells #[] 40)).alloc (.cells #[] 3))
  go_upto_if 16 with (first
    | (go_at_call 71; (with_reducible refine (pick_at (n := 10) ((HR0.out.alloc _).alloc _) (by omega)).mono ?_); go_must (rintro e w1 ⟨k1, rfl, hk1, hR1, hf1⟩; have HR1 := hid hR1; have F1 := hid (F0.out.trans hf1); have OW1 := hid (OW0.out.keep hf1 (by simp) (by simp)); have ID1 := hid (ownsRow_keep ID0.out hf1 (by simp)); clear hR1 hf1))
    | (go_at_call 71; (with_reducible refine (pick_at (n := 12) HR1.out (by omega)).mono ?_); go_must (rintro e w2 ⟨k2, rfl, hk2, hR2, hf2⟩; have HR2 := hid hR2; have F2 := hid (F1.out.trans hf2); have OW2 := hid (OW1.out.keep hf2 (by simp) (by simp)); have ID2 := hid (ownsRow_keep ID1.out hf2 (by simp)); clear hR2 hf2)))
  clear HR0 F0 OW0 OW1 F1 HR1 ID0 ID1
  go_cut [5] (fun vn wx => ∃ N : Nat, vn = .int .i64 N ∧ N ≤ 20 ∧ wx = w2)
  case first =>
    go_wp2
    · go_meet
      exact ⟨20, rfl, by omega, rfl⟩
    · go_meet
      exact ⟨k1, rfl, by omega, rfl⟩
  case rest =>
    obtain ⟨N, rfl, hN, rfl⟩ := hcut
    go_wp2
    go_loopw [3, 4, 6] (fun vo vi vn wx => ∃ (k q : Nat) (os : List Ob) (ids : List Int), k ≤ N ∧ vn = .int .i64 k ∧ ids.length ≤ k ∧ (∀ x ∈ ids, 0 ≤ x ∧ x ≤ 990) ∧ stOk os = true ∧ vo ≠ .slice none 0 0 ∧ ObsOwn w.heap.size wx vo os ∧ wx.ownsRow w.heap.size 3 1 vi ids.length (ids.map (Value.int .i64)) ∧ Rdr B wx r q ∧ q ≤ p + 2 + 70 * k ∧ Fr B [102] w wx) (fun _ _ vn _ => N - (intOf vn).toNat)
    case atStart => exact ⟨0, _, [], [], Nat.zero_le _, rfl, Nat.zero_le _, fun x hx => (by cases hx), rfl, (by simp), OW2.out, ID2.out, HR2.out, by omega, F2.out⟩
    case round =>
      obtain ⟨k, q, os, ids, hk, rfl, hil, hids, hok, hnn, hown, hidr, hR5, hq5, hfr⟩ := hrel
      have HR5 := hid hR5
      have OK5 := hid hok
      have NN5 := hid hnn
      have IN5 := hid hids
      have OW5 := hid hown
      have ID5 := hid hidr
      obtain ⟨va, vcap, rfl, hvc, hsh⟩ := hown.reads.shape
      obtain ⟨ia, icap, rfl⟩ := own_any hidr
      have hls := hfr.size
      clear hR5 hown hidr hok hnn hids hsh OW2 ID2 HR2 F2
      by_cases hlt : k < N
      · have hki : (k : Int) < (N : Int) := by omega
        go_upto_region 10 with (go_at_call 72; go_must (refine (l91Object_any (new w.heap.size) HR5.out (by omega) _ ids (SlR.ofOwns ID5.out) (by omega) (Safe.new (by simp)) (ids_in IN5.out)).mono ?_; rintro e w3 ⟨o, vl, q6, rfl, hlo, hl1, hl2, hl3, hl4, hR6, hq6, hf6⟩; obtain ⟨la, lcap, rfl⟩ := own_any hlo))
        have FA := hid ((Fr.refl 0 [] w3).alloc (.cells #[.int .i64 o.kind, .slice la o.links.length lcap, .string (tx o.text)] 40))
        have LK := hid ((show IntsR (new wr.heap.size) w3 (.slice la o.links.length lcap) o.links from SlR.ofOwns hlo).grow FA.out)
        have XB := hid (heap_alloc_new w3 (.cells #[.int .i64 o.kind, .slice la o.links.length lcap, .string (tx o.text)] 40))
        have HR6 := hid (hR6.alloc (.cells #[.int .i64 o.kind, .slice la o.links.length lcap, .string (tx o.text)] 40))
        have F6 := hid ((hfr.trans hf6).alloc (.cells #[.int .i64 o.kind, .slice la o.links.length lcap, .string (tx o.text)] 40))
        have OW6 := hid ((OW5.out.keep hf6 (by simp) (by simp)).grow FA.out)
        have ID6 := hid (ownsRow_grow (ownsRow_keep ID5.out hf6 (by simp)) FA.out)
        have OKL := hid (show os.length ≤ 1000000000 ∧ ∀ p ∈ os, p.links.length ≤ 1000000000 from ⟨by have := (stOk_iff.1 OK5.out).1; omega, fun p hp => by have := (obOk_len ((stOk_iff.1 OK5.out).2.1 p hp)).1; omega⟩)
        clear hlo hR6 hf6 HR5 OW5 ID5
        have hcases : obOk o = true ∨ obOk o = false := by cases obOk o <;> simp
        rcases hcases with hob | hob
        · have OB := hid hob
          have OI := hid (oid_in hob)
          have PO := hid (put_ok OK5.out hob)
          clear hob
          obtain ⟨px, pb, hpp⟩ : ∃ px pb, put os o = (px, pb) := ⟨_, _, rfl⟩
          rw [hpp] at PO
          have PO := hid PO.out
          have PP := hid hpp
          clear hpp
          cases pb
          all_goals
            go_wp2_with (first
              | (go_at_call 42; go_must (refine (objectValid_any _ _ o _ LK.out (by omega)).mono ?_; rintro e w4 ⟨rfl, fr4⟩; rw [OB.out]; have X4 := hid (fr4.keep _ _ XB.out (.inr (by simp))); have F4 := hid (F6.out.trans fr4.nil); have O4 := hid (OW6.out.grow fr4); have L4 := hid (LK.out.grow fr4); have I4 := hid (ownsRow_grow ID6.out fr4); have R4 := hid (HR6.out.keep (fr4.nil (B' := B) (T := [])) (by simp)); clear fr4))
              | (go_at_call 56; go_must (refine (specStoreValid_any _ _ os _ O4.out.reads OKL.out.2 OKL.out.1).mono ?_; rintro e w5 ⟨rfl, fr5⟩; rw [OK5.out]; have X5 := hid (fr5.keep _ _ X4.out (.inr (by simp))); have x0 := cell_of (o := 0) X5.out rfl; have x1 := cell_of (o := 1) X5.out rfl; have x2 := cell_of (o := 2) X5.out rfl; have F5 := hid (F4.out.trans fr5.nil); have O5 := hid (O4.out.grow fr5); have L5 := hid (L4.out.grow fr5); have I5 := hid (ownsRow_grow I4.out fr5); have R5 := hid (R4.out.keep (fr5.nil (B' := B) (T := [])) (by simp)); clear fr5))
              | (go_at_call 90; go_must (refine (l1Put_any _ _ _ _ os o _ O5.out L5.out OK5.out OB.out NN5.out).mono ?_; rintro e w6 ⟨v6, rfl, own6, hv6, fr6⟩; rw [PP.out] at own6 ⊢; have X6 := hid (fr6.keep _ _ X5.out (.inr (by simp))); have x0 := cell_of (o := 0) X6.out rfl; have x1 := cell_of (o := 1) X6.out rfl; have x2 := cell_of (o := 2) X6.out rfl; have F6' := hid (F5.out.trans fr6.nil); have HF6 := hid fr6; have O6 := hid own6; have V6 := hid hv6; have L6 := hid (L5.out.grow fr6); have I6 := hid (ownsRow_grow I5.out fr6); have hs6 := fr6.size; have hs5 := F5.out.size; have R6 := hid (R5.out.keep (fr6.nil (B' := B) (T := [])) (by simp)); clear fr6 own6 hv6))
              | (go_at_call 88; go_must (refine (l1Of_any _ _ o _ L6.out OB.out).mono ?_; rintro e w7 ⟨rfl, fr7⟩; have F7 := hid (F6'.out.trans fr7.nil); have O7 := hid (O6.out.grow fr7); have I7 := hid (ownsRow_grow I6.out fr7); have hs7 := fr7.size; have R7 := hid (R6.out.keep (fr7.nil (B' := B) (T := [])) (by simp)); clear fr7))
              | (at_builtin; go_must (refine wpList_push rfl (.tmp 41) (.tmp 44) 29 rfl w.heap.size 3 i0 (.int .i64 0) 1 8 Try.underlying29 hi hz0 hz1 hz2 rfl (by decide) _ _ _ I7.out rfl (oneInt _) (by unfold maxLen; omega) (by omega) (by omega) (by rfl) _ (by rfl) (by simp [World.setCell]) ?_; intro v8 w8 own8 fr8 hgr; have OWN8 := hid own8; have F8 := hid fr8; have G8 := hid hgr; clear own8 fr8 hgr)))
            go_roundw
            case rel => first
              | exact ⟨k + 1, q6, os, ids, by omega, by go_num, by omega, IN5.out, OK5.out, NN5.out, O5.out.grow HF6.out, I6.out, R6.out, by omega, F6'.out⟩
              | exact ⟨k + 1, q6, px, ids ++ [oid o], by omega, by go_num, (by rw [List.length_append]; simp; omega), ids_snoc IN5.out OI.out, PO.out.1, V6.out, ((O7.out.grown G8.out.1 (fun b hb => (I5.out.lt _ hb).2)).lower hs5), by rw [List.length_append, List.map_append]; exact OWN8.out, R7.out.keep (F8.out.mono hB (fun _ x => x)) (by simp), by omega, F7.out.after F8.out⟩
            case measure => simp [intOf]; omega
        · have OB := hid hob
          clear hob
          go_wp2_with (go_at_call 42; go_must (refine (objectValid_any _ _ o _ LK.out (by omega)).mono ?_; rintro e w4 ⟨rfl, fr4⟩; rw [OB.out]))
          go_roundw
          case rel => exact ⟨k + 1, q6, os, ids, by omega, by go_num, by omega, IN5.out, OK5.out, NN5.out, OW6.out.grow fr4, ownsRow_grow ID6.out fr4, HR6.out.keep (fr4.nil (B' := B) (T := [])) (by simp), by omega, F6.out.trans fr4.nil⟩
          case measure => simp [intOf]; omega
      · obtain rfl : k = N := by omega
        go_wp2
        go_ret
        exact ⟨_, os, q, rfl, OW5.out, OK5.out, HR5.out, by omega, hfr⟩

/-- An object of a row of one's own. -/
theorem ObsOwn.atS {lo : Nat} {W : World} {b off n cap : Nat} {os : List Ob} (h : ObsOwn lo W (.slice (some ⟨b, off, none⟩) n cap) os) (i : Nat) (hi : i < os.length) :
    ∃ ua ucap, W.cell? ⟨b, off + i * 3, none⟩ = some (.int .i64 os[i].kind) ∧ W.cell? ⟨b, off + i * 3 + 1, none⟩ = some (.slice ua os[i].links.length ucap) ∧ W.cell? ⟨b, off + i * 3 + 2, none⟩ = some (.string (tx os[i].text)) ∧ IntsR (new lo) W (.slice ua os[i].links.length ucap) os[i].links := by
  obtain ⟨a2, cap2, hva2, -, hcell2⟩ := h.reads.shape
  cases hva2
  rcases hcell2 with hh | ⟨b2, off2, hae, -, hcell2⟩
  · subst hh; simp at hi
  · cases hae
    obtain ⟨u, h0, h1, h2, hu⟩ := hcell2 i hi
    obtain ⟨ua, ucap, rfl, _, _⟩ := hu.shape
    exact ⟨ua, ucap, h0, h1, h2, hu⟩

set_option maxRecDepth 20000 in
set_option maxHeartbeats 4000000 in
theorem l91Spoilt_any {B r p : Nat} {w : World} (hR : Rdr B w r p) (hp : p ≤ 999900000) :
    Calls Try.prog 52 #[.pointer (some ⟨r, 0, none⟩)] w fun e w' => ∃ (v : Value) (os : List Ob) (q : Nat), e = .returned v ∧ ObsOwn w.heap.size w' v os ∧ os.length ≤ 17 ∧ (∀ o ∈ os, obOk o = true) ∧ Rdr B w' r q ∧ q ≤ p + 1500 ∧ Fr B [102] w w' := by
  have hB : B ≤ w.heap.size := Nat.le_trans hR.1 (Nat.le_of_lt hR.lt)
  obtain ⟨i0, hi, hz0, hz1, hz2⟩ := info_parts infoOb
  have HR0 := hid hR
  go_enter Try.func52, Try.ntmps52
  go_upto_region 2 with (go_at_call 82; go_must (refine (l91Store_any HR0.out hp).mono ?_; rintro e w1 ⟨v1, os, q1, rfl, own1, hok, hR1, hq1, hf1⟩; have O1 := hid own1; have OK := hid hok; have R1 := hid hR1; have F1 := hid hf1; clear hok hR1 hf1))
  have AL := hid ((stOk_iff.1 OK.out).2.1)
  have hl16 := (stOk_iff.1 OK.out).1
  have hs1 := F1.out.size
  obtain ⟨va, vcap, rfl, hvc, hsh⟩ := own1.reads.shape
  clear own1
  by_cases hl0 : os.length = 0
  · have hl00 : ((os.length : Int) == 0) = true := by simp [hl0]
    clear hl0 hsh
    go_wp2
    go_ret
    exact ⟨_, os, q1, rfl, O1.out, by omega, AL.out, R1.out, by omega, F1.out⟩
  · have hl00 : ((os.length : Int) == 0) = false := beq_eq_false_iff_ne.2 (by omega)
    have hlp : 0 < os.length := by omega
    have hlpi : (0 : Int) < (os.length : Int) := by omega
    obtain ⟨b, off, rfl⟩ : ∃ b off, va = some ⟨b, off, none⟩ := by
      rcases hsh with hh | ⟨b, off, hh, _⟩
      · exact absurd (by rw [hh]; rfl) hl0
      · exact ⟨b, off, hh⟩
    clear hl0 hsh
    go_wp2_with (first
      | (go_at_call 71; (with_reducible refine (pick_at (n := 20) R1.out (by omega)).mono ?_); go_must (rintro e w2 ⟨k2, rfl, hk2, hR2, hf2⟩; have R2 := hid hR2; have F2 := hid (F1.out.trans hf2); have O2 := hid (O1.out.keep hf2 (by simp) (by simp)); clear hR2 hf2))
      | (go_at_call 71; go_must (refine (pick_at R2.out (by omega)).mono ?_; rintro e w3 ⟨k3, rfl, hk3, hR3, hf3⟩; have hlt : k3 < os.length := (by omega); have hlti : (k3 : Int) < (os.length : Int) := (by omega); have F3 := hid (F2.out.trans hf3); have O3 := hid (O2.out.keep hf3 (by simp) (by simp)); obtain ⟨ua, ucap, h0, h1, h2, hu⟩ := O3.out.atS k3 hlt; have U3 := hid hu; obtain ⟨zs, z1, z2, z3⟩ := O3.out; have Z1 := hid z1; have Z2 := hid z2; have Z3 := hid z3; have R3 := hid hR3; have hs3 := F3.out.size; clear hR3 hf3 hu z1 z2 z3))
      | (at_builtin; go_must (refine wpList_push rfl (.tmp 15) (.tmp 23) 23 rfl w.heap.size 40 i0 (.agg #[.int .i64 0, .slice none 0 0, .string ⟨#[]⟩]) 3 48 Try.underlying23 hi hz0 hz1 hz2 rfl (by decide) _ _ _ Z2.out rfl (oneOb3 _ _ _ _ _) (by unfold maxLen; omega) (by omega) (by omega) (by rfl) _ (by rfl) (by simp [World.setCell]) ?_; intro v7 w7 own7 fr7 _; have OWN7 := hid own7; have F7 := hid fr7; clear own7 fr7)))
    · go_ret
      exact ⟨_, os, _, rfl, O2.out, by omega, AL.out, R2.out, by omega, F2.out⟩
    · go_ret
      refine ⟨_, os ++ [os[k3]], _, rfl, ObsOwn.snoc Z1.out (fun z hz => (Z3.out z hz).keep F7.out (Safe.new (by simp))) (U3.out.keep F7.out (Safe.new (by simp))) rfl OWN7.out, by simp; omega, fun o ho => ?_, R3.out.keep (F7.out.mono hB (fun _ x => x)) (by simp), by omega, F3.out.after F7.out⟩
      rcases List.mem_append.1 ho with ho | ho
      · exact AL.out o ho
      · simp at ho; subst ho; exact AL.out _ (List.getElem_mem hlt)

end Go.Proofs.Ytjgbconlpolddaa

/- Draws of packs. -/
namespace Go.Proofs.Ytjgbconlpolddaa
open Go.RowKit
set_option linter.unusedVariables false

theorem fmEn_len (zs : List (En × (Value × Value))) : (zs.flatMap encEn).length = zs.length * 4 := fm_length encEn 4 (fun _ => rfl) zs

theorem fmEn_setAt (zs : List (En × (Value × Value))) {k j : Nat} (hk : k < zs.length) (hj : j < 4) (x : Value) (z' : En × (Value × Value)) (hz : (encEn zs[k]).set j x = encEn z') : (zs.flatMap encEn).set (k * 4 + j) x = (zs.set k z').flatMap encEn := by
  induction zs generalizing k with
  | nil => simp at hk
  | cons z zs ih =>
    cases k with
    | zero =>
      simp only [List.getElem_cons_zero] at hz
      simp only [List.flatMap_cons, List.set_cons_zero, Nat.zero_mul, Nat.zero_add]
      rw [List.set_append_left _ _ (by simp [encEn]; omega), hz]
    | succ k =>
      have hk' : k < zs.length := by simpa using hk
      have e1 : (k + 1) * 4 + j = (encEn z).length + (k * 4 + j) := by simp [encEn]; omega
      simp only [List.flatMap_cons, List.set_cons_succ]
      rw [e1, List.set_append_right _ _ (by omega), Nat.add_sub_cancel_left, ih hk' (by simpa using hz)]

/-- One cell of an entry laid anew. -/
theorem EnsOwn.setAt {lo : Nat} {w : World} {g n cap : Nat} {es : List En} (h : EnsOwn lo w (.slice (some ⟨g, 0, none⟩) n cap) es) {k j : Nat} (hk : k < es.length) (hj : j < 4) (x : Value) (e' : En)
    (hx : ∀ vs : Value × Value, IntsR (new lo) w vs.1 es[k].links → OpsR (new lo) w vs.2 es[k].ops → ∃ vs', (encEn (es[k], vs)).set j x = encEn (e', vs') ∧ IntsR (new lo) w vs'.1 e'.links ∧ OpsR (new lo) w vs'.2 e'.ops) :
    EnsOwn lo (w.setCell ⟨g, k * 4 + j, none⟩ x) (.slice (some ⟨g, 0, none⟩) n cap) (es.set k e') ∧ Fr lo [32] w (w.setCell ⟨g, k * 4 + j, none⟩ x) := by
  obtain ⟨zs, g1, g2, g3⟩ := h
  have hn : n = es.length := by
    obtain ⟨_, _, he⟩ := own_any g2
    cases he; rfl
  subst hn
  have hz : k < zs.length := by have := congrArg List.length g1; simp at this; omega
  have hzk : zs[k].1 = es[k] := by subst g1; simp
  obtain ⟨vs', hs, hl, ho⟩ := hx zs[k].2 (by rw [← hzk]; exact (g3 _ (List.getElem_mem hz)).1) (by rw [← hzk]; exact (g3 _ (List.getElem_mem hz)).2)
  obtain ⟨s1, s2⟩ := g2.stored (k * 4 + j) x
  have F := Fr.ofOwnGrown (T := [32]) (B := lo) g2 s2 (Nat.le_refl _) (by simp)
  refine ⟨⟨zs.set k (e', vs'), ?_, ?_, fun z hz' => ?_⟩, F⟩
  · rw [List.map_set, g1]
  · rw [List.length_set, ← fmEn_setAt zs hz hj x (e', vs') (by rw [← hs, ← hzk])]
    exact s1
  · rcases List.mem_or_eq_of_mem_set hz' with hm | hm
    · exact ⟨(g3 z hm).1.keep F (Safe.new (by simp)), (g3 z hm).2.keep F (Safe.new (by simp))⟩
    · subst hm
      exact ⟨hl.keep F (Safe.new (by simp)), ho.keep F (Safe.new (by simp))⟩

theorem EnsOwn.cellsAt {lo : Nat} {w : World} {g n cap : Nat} {es : List En} (h : EnsOwn lo w (.slice (some ⟨g, 0, none⟩) n cap) es) {k j : Nat} (hk : k < es.length) (hj : j < 4) :
    (∃ u, w.cell? ⟨g, k * 4 + j, none⟩ = some u) ∧ w.frozen? ⟨g, k * 4 + j, none⟩ = false := by
  obtain ⟨zs, g1, g2, g3⟩ := h
  have hn : n = es.length := by
    obtain ⟨_, _, he⟩ := own_any g2
    cases he; rfl
  subst hn
  have hz : k < zs.length := by have := congrArg List.length g1; simp at this; omega
  have hl := fmEn_len zs
  refine ⟨⟨(zs.flatMap encEn)[k * 4 + j]'(by omega), ?_⟩, g2.frozenAt _⟩
  rw [g2.cellAt (k * 4 + j) (by omega), List.getElem?_eq_getElem (by omega)]

/-- What the draws of packs keep to. -/
def EnFew (es : List En) : Prop := es.length ≤ 17 ∧ ∀ e ∈ es, e.links.length ≤ 1000 ∧ e.ops.length ≤ 8

theorem packEn_few {os : List Ob} (h : Few os) (hl : os.length ≤ 17) (ok : Bool) : EnFew (if ok then pack os else []) := by
  cases ok
  · exact ⟨Nat.zero_le _, fun e he => by cases he⟩
  · refine ⟨by rw [if_pos rfl, pack_len]; omega, fun e he => ?_⟩
    rw [if_pos rfl] at he
    exact pk_few h (Nat.le_refl _) e he

theorem EnFew.set {es : List En} (h : EnFew es) (k : Nat) {e : En} (h1 : e.links.length ≤ 1000) (h2 : e.ops.length ≤ 8) : EnFew (es.set k e) := by
  refine ⟨by rw [List.length_set]; exact h.1, fun x hx => ?_⟩
  rcases List.mem_or_eq_of_mem_set hx with hx | rfl
  · exact h.2 x hx
  · exact ⟨h1, h2⟩

theorem EnsOwn.base1 {lo : Nat} {w : World} {g n cap : Nat} {es : List En} (h : EnsOwn lo w (.slice (some ⟨g, 0, none⟩) n cap) es) (hf : EnFew es) {k : Nat} (hk : k < es.length) (x : Int) :
    ∃ es', EnsOwn lo (w.setCell ⟨g, k * 4 + 2, none⟩ (.int .i64 x)) (.slice (some ⟨g, 0, none⟩) n cap) es' ∧ EnFew es' ∧ Fr lo [32] w (w.setCell ⟨g, k * 4 + 2, none⟩ (.int .i64 x)) := by
  have h1 := h.setAt hk (j := 2) (by omega) (.int .i64 x) { es[k] with base := x } (fun vs h1 h2 => ⟨vs, rfl, h1, h2⟩)
  exact ⟨_, h1.1, hf.set k (hf.2 _ (List.getElem_mem hk)).1 (hf.2 _ (List.getElem_mem hk)).2, h1.2⟩

theorem EnsOwn.kind1 {lo : Nat} {w : World} {g n cap : Nat} {es : List En} (h : EnsOwn lo w (.slice (some ⟨g, 0, none⟩) n cap) es) (hf : EnFew es) {k : Nat} (hk : k < es.length) (x : Int) :
    ∃ es', EnsOwn lo (w.setCell ⟨g, k * 4, none⟩ (.int .i64 x)) (.slice (some ⟨g, 0, none⟩) n cap) es' ∧ EnFew es' ∧ Fr lo [32] w (w.setCell ⟨g, k * 4, none⟩ (.int .i64 x)) := by
  have h1 := h.setAt hk (j := 0) (by omega) (.int .i64 x) { es[k] with kind := x } (fun vs h1 h2 => ⟨vs, rfl, h1, h2⟩)
  exact ⟨_, h1.1, hf.set k (hf.2 _ (List.getElem_mem hk)).1 (hf.2 _ (List.getElem_mem hk)).2, h1.2⟩

theorem EnsOwn.ops1 {lo lo' : Nat} {w : World} {g n cap : Nat} {es : List En} (h : EnsOwn lo w (.slice (some ⟨g, 0, none⟩) n cap) es) (hf : EnFew es) {k : Nat} (hk : k < es.length) (x : Value) (ops : List Opn) (hl : lo ≤ lo') (ho : w.ownsRow lo' 109 3 x ops.length (ops.flatMap encOp)) (h8 : ops.length ≤ 3) :
    ∃ es', EnsOwn lo (w.setCell ⟨g, k * 4 + 3, none⟩ x) (.slice (some ⟨g, 0, none⟩) n cap) es' ∧ EnFew es' ∧ Fr lo [32] w (w.setCell ⟨g, k * 4 + 3, none⟩ x) := by
  have h1 := h.setAt hk (j := 3) (by omega) x { es[k] with ops := ops } (fun vs h1 h2 => ⟨(vs.1, x), rfl, h1, SlR.ofOwns (ownsRow_lo ho hl)⟩)
  exact ⟨_, h1.1, hf.set k (hf.2 _ (List.getElem_mem hk)).1 (by show ops.length ≤ 8; omega), h1.2⟩

set_option maxRecDepth 20000 in
set_option maxHeartbeats 4000000 in
theorem l91Pack_any {B r p : Nat} {w : World} (hR : Rdr B w r p) (hp : p ≤ 999800000) :
    Calls Try.prog 53 #[.pointer (some ⟨r, 0, none⟩)] w fun e w' => ∃ (v : Value) (es : List En) (q : Nat), e = .returned v ∧ EnsOwn w.heap.size w' v es ∧ EnFew es ∧ Rdr B w' r q ∧ q ≤ p + 2000 ∧ Fr B [102] w w' := by
  have hB : B ≤ w.heap.size := Nat.le_trans hR.1 (Nat.le_of_lt hR.lt)
  have HR0 := hid hR
  go_enter Try.func53, Try.ntmps53
  go_upto_region 2 with (first
    | (go_at_call 33; go_must (refine (l91ListR_any HR0.out (by omega)).mono ?_; rintro e w1 ⟨v1, os, q1, rfl, own1, hlo, hfew, hR1, hq1, hf1⟩; have O1 := hid own1; have FEW := hid hfew; have R1 := hid hR1; have F1 := hid hf1; clear own1 hfew hR1 hf1))
    | (go_at_call 11; go_must (refine (specPackMake_any _ _ os _ O1.out.reads (FEW.out.b hlo)).mono ?_; rintro e w2 ⟨v2, rfl, own2, fr2⟩; have E2 := hid (own2.lower F1.out.size); have R2 := hid (R1.out.keep (fr2.nil (B' := B) (T := [])) (by simp)); have F2 := hid (F1.out.trans fr2.nil); clear own2 fr2)))
  have EF := hid (packEn_few FEW.out hlo (packOk os))
  obtain ⟨es, hES⟩ : ∃ es, (if packOk os then pack os else []) = es := ⟨_, rfl⟩
  rw [hES] at EF E2
  have EF := hid EF.out
  have E2 := hid E2.out
  clear hES FEW O1
  generalize packOk os = ok
  have hs2 := F2.out.size
  have hl17 := EF.out.1
  obtain ⟨a, cap, rfl, hcap, -⟩ := E2.out.reads.shape
  by_cases hl0 : es.length = 0
  · have hl00 : ((es.length : Int) == 0) = true := by simp [hl0]
    clear hl0
    go_wp2
    go_ret
    exact ⟨_, es, _, rfl, E2.out, EF.out, R2.out, by omega, F2.out⟩
  · have hl00 : ((es.length : Int) == 0) = false := beq_eq_false_iff_ne.2 (by omega)
    obtain ⟨g, rfl⟩ : ∃ g, a = some ⟨g, 0, none⟩ := by
      obtain ⟨zs, _, g2, _⟩ := E2.out
      obtain ⟨g, cap', he, _⟩ := own_shape g2 (by omega)
      cases he
      exact ⟨g, rfl⟩
    have hlp : 0 < es.length := by omega
    clear hl0
    go_upto_region 5 with (go_at_call 71; go_must (refine (pick_at R2.out (by omega)).mono ?_; rintro e w3 ⟨k, rfl, hk, hR3, hf3⟩; have R := hid hR3; have F := hid (F2.out.trans hf3); have EO := hid (E2.out.keep hf3 (by simp) (by simp) (by simp)); clear hR3 hf3))
    have hlt : k < es.length := by omega
    have hlti : (k : Int) < (es.length : Int) := by omega
    go_wp2_with (first
      | (go_at_call 71; go_must (refine (pick_at R.out (by omega)).mono ?_; rintro e w4 ⟨k4, rfl, hk4, hR4, hf4⟩; have R := hid hR4; have F := hid (F.out.trans hf4); have EO := hid (EO.out.keep hf4 (by simp) (by simp) (by simp)); obtain ⟨⟨c0, hc0⟩, hf0⟩ := EO.out.cellsAt hlt (j := 0) (by omega); rw [Nat.add_zero] at hc0 hf0; obtain ⟨⟨c2, hc2⟩, hf2⟩ := EO.out.cellsAt hlt (j := 2) (by omega); clear hR4 hf4))
      | (go_at_call 84; go_must (refine (l91Text_any R.out (by omega)).mono ?_; rintro e w5 ⟨t5, q5, rfl, htl, hR5, hq5, hf5⟩; have R := hid hR5; have F := hid (F.out.trans hf5); have EO := hid (EO.out.keep hf5 (by simp) (by simp) (by simp)); clear hR5 hf5))
      | (go_at_call 83; go_must (refine (l91Ops_any R.out (by omega) t5 htl).mono ?_; rintro e w6 ⟨v6, ops, q6, rfl, own6, hol, hR6, hq6, hf6⟩; have hs6 := F.out.size; have R := hid hR6; have F := hid (F.out.trans hf6); have EO := hid (EO.out.keep hf6 (by simp) (by simp) (by simp)); have OP := hid own6; obtain ⟨⟨c3, hc3⟩, hf3⟩ := EO.out.cellsAt hlt (j := 3) (by omega); obtain ⟨oa, ocap, rfl⟩ := own_any own6; clear hR6 hf6 own6)))
    all_goals go_ret
    all_goals first
      | exact ⟨_, es, _, rfl, EO.out, EF.out, R.out, by omega, F.out⟩
      | (obtain ⟨es', e1, e2, e3⟩ := EO.out.base1 EF.out hlt _; exact ⟨_, es', _, rfl, e1, e2, R.out.keep (e3.mono hB (fun _ x => x)) (by simp), by omega, F.out.after e3⟩)
      | (obtain ⟨es', e1, e2, e3⟩ := EO.out.kind1 EF.out hlt _; exact ⟨_, es', _, rfl, e1, e2, R.out.keep (e3.mono hB (fun _ x => x)) (by simp), by omega, F.out.after e3⟩)
      | (obtain ⟨es', e1, e2, e3⟩ := EO.out.ops1 EF.out hlt _ _ hs6 OP.out hol; exact ⟨_, es', _, rfl, e1, e2, R.out.keep (e3.mono hB (fun _ x => x)) (by simp), by omega, F.out.after e3⟩)

end Go.Proofs.Ytjgbconlpolddaa

/- DrawFetchStore. -/
namespace Go.Proofs.Ytjgbconlpolddaa
open Go.RowKit
set_option linter.unusedVariables false

set_option maxRecDepth 20000 in
set_option maxHeartbeats 1000000 in
theorem drawFetchStore_any {w : World} {a : Option Addr} {n cap : Nat} (hb : Bytes w.heap.size w a n cap) (hm : cap ≤ maxLen) :
    Calls Try.prog 17 #[.slice a n cap] w fun e w' => ∃ (v vp : Value) (os : List Ob) (es : List En), e = .returned (.tuple #[v, vp]) ∧ ObsOwn w.heap.size w' v os ∧ os.length ≤ 17 ∧ (∀ o ∈ os, obOk o = true) ∧ EnsOwn w.heap.size w' vp es ∧ EnFew es ∧ Fr w.heap.size [] w w' := by
  have HB := hid hb
  clear hb
  go_enter Try.func17, Try.ntmps17
  go_wp2_with (first
    | (go_at_call 34; go_must (refine (l6Open_any HB.out hm).mono ?_; rintro e w1 ⟨rfl, hR1, fr1⟩; have R1 := hid hR1; have F1 := hid fr1; clear hR1 fr1))
    | (go_at_call 52; go_must (refine (l91Spoilt_any R1.out (by omega)).mono ?_; rintro e w2 ⟨v2, os, q2, rfl, own2, hl2, hok2, hR2, hq2, fr2⟩; have O2 := hid own2; have OK2 := hid hok2; have R2 := hid hR2; have F2 := hid (F1.out.after fr2); have hs1 := F1.out.size; clear own2 hok2 hR2 fr2))
    | (go_at_call 53; go_must (refine (l91Pack_any R2.out (by omega)).mono ?_; rintro e w3 ⟨v3, es, q3, rfl, own3, hfew, hR3, hq3, fr3⟩; have O3 := hid (O2.out.keep fr3 (by simp) (by simp)); have E3 := hid own3; have EF := hid hfew; have F3 := hid (F2.out.after fr3); have hs2 := F2.out.size; clear own3 hfew hR3 fr3)))
  go_ret2
  exact ⟨v2, v3, os, es, rfl, O3.out.lower hs1, hl2, OK2.out, E3.out.lower hs2, EF.out, F3.out⟩

end Go.Proofs.Ytjgbconlpolddaa

/- The walk of FnFetchEmpty. -/
namespace Go.Proofs.Ytjgbconlpolddaa
open Go.RowKit
set_option linter.unusedVariables false

theorem fetch_some {os xs : List Ob} {es : List En} (h : fetch os es = some xs) : ∃ list, unpack es = some list ∧ stOk os = true ∧ putAll os list = some xs := by
  unfold fetch at h
  cases hu : unpack es with
  | none => rw [hu] at h; cases h
  | some list =>
    rw [hu] at h
    dsimp only at h
    by_cases ho : stOk os = true
    · rw [if_pos ho] at h; exact ⟨list, rfl, ho, h⟩
    · rw [if_neg ho] at h; cases h

theorem fetch_ok {os xs : List Ob} {es : List En} (h : fetch os es = some xs) : stOk xs = true := by
  obtain ⟨list, hu, ho, hp⟩ := fetch_some h
  exact (putTo_ok ho (unpack_ok hu).2.2 (Nat.le_refl _) hp).1

theorem fetch_nil {os : List Ob} (h : stOk os = true) : fetch os [] = some os := by
  have : unpack [] = some [] := rfl
  unfold fetch
  rw [this]
  simp [h, putAll, putTo]

theorem stOk_b {os : List Ob} (h : stOk os = true) : ObsB os := ⟨by have := (stOk_iff.1 h).1; omega, fun o ho => by have := (obOk_len ((stOk_iff.1 h).2.1 o ho)).1; omega⟩
theorem obs_b {os : List Ob} (hl : os.length ≤ 17) (h : ∀ o ∈ os, obOk o = true) : ObsB os := ⟨by omega, fun o ho => by have := (obOk_len (h o ho)).1; omega⟩

/-- A literal of no entries. -/
theorem ensEmpty (w : World) : EnsR (new w.heap.size) (w.alloc (.cells #[] 32)) (.slice (some ⟨w.heap.size, 0, none⟩) 0 0) [] :=
  EnsOwn.reads ⟨[], rfl, World.ownsRow_lit (e := 32) (size := 4) w #[] 0 (Nat.le_refl _) (by decide) rfl, fun z hz => by cases hz⟩

set_option maxRecDepth 20000 in
set_option maxHeartbeats 4000000 in
theorem fetchEmpty_walk {w : World} {a : Option Addr} {n cap : Nat} (hb : Bytes w.heap.size w a n cap) (hm : cap ≤ maxLen) :
    Calls Try.prog 6 #[.slice a n cap] w fun e w' => e = .returned (.bool true) ∧ Fr w.heap.size [] w w' := by
  have hnc := hb.1
  have HB := hid hb
  clear hb
  go_enter Try.func6, Try.ntmps6
  by_cases hn1 : n ≤ 1048576
  · have in1 : ¬ (1048576 : Int) < (n : Int) := by omega
    go_upto_region 4 with (go_at_call 17; go_must (refine (drawFetchStore_any HB.out hm).mono ?_; rintro e w1 ⟨v, vp, os, es, rfl, own1, hl, hok, ens1, hfew, fr1⟩; have O1 := hid own1.reads; have E1 := hid ens1.reads; have F1 := hid fr1; have OK := hid hok; have EF := hid hfew; clear own1 ens1 fr1 hok hfew))
    have OB := hid (obs_b hl OK.out)
    have EL := hid (show ∀ e ∈ es, e.links.length ≤ 1000000000 from fun e he => by have := (EF.out.2 e he).1; omega)
    have hel : es.length ≤ 2000000 := by have := EF.out.1; omega
    have OB1 := hid OB.out.1
    have OB2 := hid OB.out.2
    obtain ⟨R, hR⟩ : ∃ R, fetch os es = R := ⟨_, rfl⟩
    have HR := hid hR
    clear hR hl OK EF
    cases R with
    | none =>
      go_wp2_with (first
        | (go_at_call 18; go_must (refine (implFetch_any _ _ _ _ os es _ O1.out E1.out (Mild.new _ _) OB2.out OB1.out EL.out).mono ?_; rintro e w2 ⟨v2, rfl, own2, fr2⟩; rw [HR.out] at own2 ⊢; have R2 := hid own2.reads; have F2 := hid (F1.out.trans fr2.nil); have O2 := hid (O1.out.grow fr2); have E2 := hid (E1.out.grow fr2); clear own2 fr2))
        | (go_at_call 19; go_must (refine (specFetch_any _ _ _ _ os es _ O2.out E2.out OB2.out OB1.out hel EL.out).mono ?_; rintro e w3 ⟨v3, rfl, own3, fr3⟩; rw [HR.out] at own3 ⊢; have R3 := hid own3.reads; have R2 := hid (R2.out.grow fr3); have F3 := hid (F2.out.trans fr3.nil); clear own3 fr3))
        | (go_at_call 15; go_must (refine (sameObjects_eq _ _ _ _ [] _ R2.out R3.out ⟨Nat.zero_le _, fun o ho => (by cases ho)⟩).mono ?_; rintro e w4 ⟨rfl, fr4⟩; have F3 := hid (F3.out.trans fr4.nil); have R2 := hid (R2.out.grow fr4); have R3 := hid (R3.out.grow fr4); clear fr4)))
      go_ret
      exact ⟨rfl, F3.out⟩
    | some xs =>
      have SO := hid (fetch_some HR.out).choose_spec.2.1
      have XB := hid (stOk_b (fetch_ok HR.out))
      have FN := hid (fetch_nil SO.out)
      go_wp2_with (first
        | (go_at_call 18; (with_reducible refine (implFetch_any _ _ _ _ os es _ O1.out E1.out (Mild.new _ _) OB2.out OB1.out EL.out).mono ?_); go_must (rintro e w2 ⟨v2, rfl, own2, fr2⟩; rw [HR.out] at own2 ⊢; have own2 : ObsOwn _ _ _ xs := own2; have R2 := hid own2.reads; have F2 := hid (F1.out.trans fr2.nil); have O2 := hid (O1.out.grow fr2); have E2 := hid (E1.out.grow fr2); clear own2 fr2))
        | (go_at_call 19; go_must (refine (specFetch_any _ _ _ _ os es _ O2.out E2.out OB2.out OB1.out hel EL.out).mono ?_; rintro e w3 ⟨v3, rfl, own3, fr3⟩; rw [HR.out] at own3 ⊢; have own3 : ObsOwn _ _ _ xs := own3; have R3 := hid own3.reads; have R2 := hid (R2.out.grow fr3); have F3 := hid (F2.out.trans fr3.nil); have O3 := hid (O2.out.grow fr3); clear own3 fr3))
        | (go_at_call 15; (with_reducible refine (sameObjects_eq _ _ _ _ xs _ R2.out R3.out XB.out).mono ?_); go_must (rintro e w4 ⟨rfl, fr4⟩; have F4 := hid (F3.out.trans fr4.nil); have O4 := hid (O3.out.grow fr4); clear fr4))
        | (go_at_call 18; go_must (refine (implFetch_any _ _ _ _ os [] _ (O4.out.grow ((Fr.refl 0 [] w4).alloc _)) (ensEmpty w4) (Mild.new _ _) OB2.out OB1.out (fun e he => (by cases he))).mono ?_; rintro e w5 ⟨v5, rfl, own5, fr5⟩; rw [FN.out] at own5 ⊢; have own5 : ObsOwn _ _ _ os := own5; have R5 := hid own5.reads; have F5 := hid ((F4.out.alloc (.cells #[] 32)).trans fr5.nil); have O5 := hid (O4.out.grow (((Fr.refl 0 [] w4).alloc (.cells #[] 32)).trans fr5.nil)); clear own5 fr5))
        | (go_at_call 15; go_must (refine (sameObjects_eq _ _ _ _ os _ R5.out O5.out OB.out).mono ?_; rintro e w6 ⟨rfl, fr6⟩; have F6 := hid (F5.out.trans fr6.nil); clear fr6)))
      go_ret
      exact ⟨rfl, F6.out⟩
  · have in1 : (1048576 : Int) < (n : Int) := by omega
    go_wp2
    go_ret
    exact ⟨rfl, Fr.refl _ _ _⟩

end Go.Proofs.Ytjgbconlpolddaa
