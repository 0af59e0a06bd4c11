/- The program's FetchNeed. -/
import Derived.Test.YtjgbconlpolddaaGreatQM9
import Derived.Test.YtjgbconlpolddaaGreatQFeHeapD
import Derived.Test.YtjgbconlpolddaaGreatQM3
import Derived.Test.YtjgbconlpolddaaGreatQM6
set_option linter.unusedVariables false
set_option linter.unusedSimpArgs false
namespace Go.Proofs.YtjgbconlpolddaaGreat
open Go.RowKit
set_option linter.unusedVariables false

theorem HP.sorted {l : List Int} (h : l.Pairwise (· < ·)) : HP l l.length := fun p c hc hcn => by
  have hpc : p < c := by unfold chi at hc; omega
  rw [at0_get (by omega), at0_get hcn]
  have := List.pairwise_iff_getElem.1 h p c (by omega) hcn hpc
  omega

theorem HeapAt.low {lo b B : Nat} {T : List Nat} {w w' : World} {v : Value} {l : List Int} (h : HeapAt lo b w v l) (hf : Fr B T w w') (hb : b < B) (hv : ∀ k, v.ownBlock = some k → k < B) : HeapAt lo b w' v l := by
  obtain ⟨h1, h2, h3, h4⟩ := h
  refine ⟨h1, hf.keep _ _ h2 (.inl hb), h3, ?_⟩
  rcases h4 with h4 | ⟨g, cap, cur, rfl, h5, h6, h7⟩
  · exact .inl h4
  · exact .inr ⟨g, cap, cur, rfl, h5, hf.keep _ _ h6 (.inl (hv g rfl)), h7⟩

theorem HeapAt.lt {lo b : Nat} {w : World} {v : Value} {l : List Int} (h : HeapAt lo b w v l) : b < w.heap.size ∧ ∀ k, v.ownBlock = some k → k < w.heap.size := ⟨lt_of_get h.2.1, fun k hk => (h.2.2.lt k hk).2⟩

theorem filter_less {l : List Int} (hl : l.Pairwise (· < ·)) (p : Int → Bool) {k : Nat} (hk : k < l.length) : ∀ y ∈ (l.take k).filter p, y < l[k] := fun y hy => by
  have h1 : y ∈ l.take k := (List.mem_filter.1 hy).1
  obtain ⟨j, hj, rfl⟩ := List.getElem_of_mem h1
  rw [List.length_take] at hj
  rw [List.getElem_take]
  exact List.pairwise_iff_getElem.1 hl j k (by omega) hk (by omega)

/-- What the program's FetchNeed hands back. -/
def NeedP (w : World) (os : List Ob) (ws hs : List Int) (e : Ending) (w' : World) : Prop :=
  ∃ v', e = .returned (.tuple #[v', .bool (needOk os ws hs)]) ∧ (needOk os ws hs = true → OwnI w.heap.size w' v' (need os ws hs)) ∧ (needOk os ws hs = false → v' = .slice none 0 0) ∧ Fr w.heap.size [] w w'

theorem needP_bad {w : World} {os : List Ob} {ws hs : List Int} {w' : World} (h : needOk os ws hs = false) (hf : Fr w.heap.size [] w w') : NeedP w os ws hs (.returned (.tuple #[.slice none 0 0, .bool false])) w' :=
  ⟨_, by rw [h], fun h2 => (by rw [h] at h2; cases h2), fun _ => rfl, hf⟩

set_option maxRecDepth 20000 in
set_option maxHeartbeats 4000000 in
theorem need_bad (K K1 K2 : Nat → Bool → Prop) (v vw vh : Value) (os : List Ob) (ws hs : List Int) (w : World) (hv : ObsR K w v os) (h1 : IntsR K1 w vw ws) (h2 : IntsR K2 w vh hs) (hb : ObsB os) (hl : os.length ≤ 1000000000) (hl1 : ws.length ≤ 1000000000) (hl2 : hs.length ≤ 1000000000) (hno : needOk os ws hs = false) :
    Calls Tryz.prog 10 #[v, vw, vh] w (NeedP w os ws hs) := by
  obtain ⟨a, cap, rfl, hcap, hcell⟩ := hv.shape
  obtain ⟨wa, wcap, rfl, _, _⟩ := h1.shape
  obtain ⟨ha, hcap', rfl, _, _⟩ := h2.shape
  have HV := hid hv
  have HW := hid h1
  have HH := hid h2
  have HB := hid (show ∀ o ∈ os, o.links.length ≤ 1000000000 from fun o ho => hb.2 o ho)
  have NO := hid hno
  clear hv h1 h2 hcell hb hno
  go_enter Tryz.func10, Tryz.ntmps10
  rcases g1 : stOk os with _ | _
  · have OK := hid g1
    clear g1
    go_wp2_with (go_at_call 25; go_must (refine (implStoreValid_any K _ os _ HV.out HB.out (by omega)).mono ?_; rintro e w1 ⟨rfl, fr1⟩; rw [OK.out]; have F1 := hid fr1; clear fr1))
    go_ret2
    exact needP_bad NO.out F1.out
  · have OK := hid g1
    rcases g2 : idsB ws with _ | _
    · have IW := hid (show (asc ws && decide (ws.length ≤ 4)) = false from g2)
      clear g1 g2
      go_wp2_with (first
        | (go_at_call 25; go_must (refine (implStoreValid_any K _ os _ HV.out HB.out (by omega)).mono ?_; rintro e w1 ⟨rfl, fr1⟩; rw [OK.out]; have F1 := hid fr1; clear fr1))
        | (go_at_call 26; (with_reducible refine (idsOk_any K1 _ ws _ (HW.out.grow F1.out) (by omega)).mono ?_); go_must (rintro e w2 ⟨rfl, fr2⟩; rw [IW.out]; have F2 := hid (F1.out.trans fr2.nil); clear fr2)))
      go_ret2
      exact needP_bad NO.out F2.out
    · have IW := hid (show (asc ws && decide (ws.length ≤ 4)) = true from g2)
      rcases g3 : idsB hs with _ | _
      · have IH := hid (show (asc hs && decide (hs.length ≤ 4)) = false from g3)
        clear g1 g2 g3
        go_wp2_with (first
          | (go_at_call 25; go_must (refine (implStoreValid_any K _ os _ HV.out HB.out (by omega)).mono ?_; rintro e w1 ⟨rfl, fr1⟩; rw [OK.out]; have F1 := hid fr1; clear fr1))
          | (go_at_call 26; (with_reducible refine (idsOk_any K1 _ ws _ (HW.out.grow F1.out) (by omega)).mono ?_); go_must (rintro e w2 ⟨rfl, fr2⟩; rw [IW.out]; have F2 := hid (F1.out.trans fr2.nil); clear fr2))
          | (go_at_call 26; go_must (refine (idsOk_any K2 _ hs _ (HH.out.grow F2.out) (by omega)).mono ?_; rintro e w3 ⟨rfl, fr3⟩; rw [IH.out]; have F3 := hid (F2.out.trans fr3.nil); clear fr3)))
        go_ret2
        exact needP_bad NO.out F3.out
      · have IH := hid (show (asc hs && decide (hs.length ≤ 4)) = true from g3)
        have INW := hid (asc_in (idsB_asc g2).1)
        have hl4 := (idsB_asc g2).2
        obtain ⟨mL, hmL⟩ : ∃ l, l = rcM os ws := ⟨_, rfl⟩
        obtain ⟨L, hL⟩ : ∃ l, l = rcS os ws := ⟨_, rfl⟩
        have ME := hid hmL
        have LE := hid hL
        have hm0 : 0 < mL.length := by
          rcases Nat.eq_zero_or_pos mL.length with h0 | h0
          · have e0 : rcM os ws = [] := by rw [← hmL]; exact List.eq_nil_of_length_eq_zero h0
            have := NO.out
            rw [needOk_iff.2 ⟨g1, g2, g3, e0⟩] at this
            cases this
          · exact h0
        have hm1 : (0 : Int) < (mL.length : Int) := by omega
        clear g1 g2 g3 hmL hL
        go_wp2_with (first
          | (go_at_call 25; go_must (refine (implStoreValid_any K _ os _ HV.out HB.out (by omega)).mono ?_; rintro e w1 ⟨rfl, fr1⟩; rw [OK.out]; have F1 := hid fr1; clear fr1))
          | (go_at_call 26; (with_reducible refine (idsOk_any K1 _ ws _ (HW.out.grow F1.out) (by omega)).mono ?_); go_must (rintro e w2 ⟨rfl, fr2⟩; rw [IW.out]; have F2 := hid (F1.out.trans fr2.nil); clear fr2))
          | (go_at_call 26; go_must (refine (idsOk_any K2 _ hs _ (HH.out.grow F2.out) (by omega)).mono ?_; rintro e w3 ⟨rfl, fr3⟩; rw [IH.out]; have F3 := hid (F2.out.trans fr3.nil); clear fr3))
          | (go_at_call 27; go_must (have FB := hid (F3.out.alloc (.cells #[.slice a os.length cap] 23)); refine (byId_any K _ _ os _ (cell_of (heap_alloc_new w3 (.cells #[.slice a os.length cap] 23)) rfl) (HV.out.grow FB.out) OK.out).mono ?_; rintro e w4 ⟨m, rfl, hmo, fr4⟩; have MO := hid hmo; have F4 := hid (FB.out.trans fr4.nil); clear hmo fr4))
          | (go_at_call 28; (with_reducible refine (reach_any K K1 _ _ os ws _ MO.out (HW.out.grow F4.out) OK.out INW.out (by omega)).mono ?_); go_must (rintro e w5 ⟨v1, v2, rfl, own1, own2, fr5⟩; rw [← LE.out] at own1; rw [← ME.out] at own2; replace own1 : OwnI _ w5 v1 L := own1; replace own2 : OwnI _ w5 v2 mL := own2; obtain ⟨la, lcap, rfl⟩ := own1.any; obtain ⟨ma, mcap, rfl⟩ := own2.any; have L5 := hid (SlR.weak (K' := old w5.heap.size) own1.reads fun b t hb _ => hb); have F5 := hid (F4.out.trans fr5.nil); have G5 := hid fr5; clear own1 own2 fr5)))
        go_ret2
        exact needP_bad NO.out F5.out

set_option maxRecDepth 20000 in
set_option maxHeartbeats 4000000 in
theorem need_good (K K1 K2 : Nat → Bool → Prop) (v vw vh : Value) (os : List Ob) (ws hs : List Int) (w : World) (hv : ObsR K w v os) (h1 : IntsR K1 w vw ws) (h2 : IntsR K2 w vh hs) (hb : ObsB os) (hok : needOk os ws hs = true) :
    Calls Tryz.prog 10 #[v, vw, vh] w (NeedP w os ws hs) := by
  obtain ⟨a, cap, rfl, hcap, hcell⟩ := hv.shape
  obtain ⟨wa, wcap, rfl, _, _⟩ := h1.shape
  obtain ⟨ha, hcap', rfl, _, _⟩ := h2.shape
  obtain ⟨i0, hi, hz0, hz1, hz2⟩ := info_parts infoI
  obtain ⟨g1, g2, g3, g4⟩ := needOk_iff.1 hok
  have HV := hid hv
  have HW := hid h1
  have HH := hid h2
  have HB := hid (show ∀ o ∈ os, o.links.length ≤ 1000000000 from fun o ho => hb.2 o ho)
  have YES := hid hok
  have OK := hid g1
  have IW := hid (show (asc ws && decide (ws.length ≤ 4)) = true from g2)
  have IH := hid (show (asc hs && decide (hs.length ≤ 4)) = true from g3)
  have INW := hid (asc_in (idsB_asc g2).1)
  have INH := hid (asc_in (idsB_asc g3).1)
  have hl : os.length ≤ 16 := (stOk_iff.1 g1).1
  have hl1 := (idsB_asc g2).2
  have hl2 := (idsB_asc g3).2
  obtain ⟨mL, hmL⟩ : ∃ l, l = rcM os ws := ⟨_, rfl⟩
  obtain ⟨L, hL⟩ : ∃ l, l = rcS os ws := ⟨_, rfl⟩
  obtain ⟨M, hM⟩ : ∃ l, l = rcS os hs := ⟨_, rfl⟩
  have ME := hid hmL
  have LE := hid hL
  have TE := hid hM
  have hm0 : mL.length = 0 := by rw [hmL, g4]; rfl
  have hm1 : ¬ (0 : Int) < (mL.length : Int) := by omega
  have hLl : L.length ≤ 16 := by rw [hL]; exact Nat.le_trans (rcS_len g1 ws) hl
  have hMl : M.length ≤ 16 := by rw [hM]; exact Nat.le_trans (rcS_len g1 hs) hl
  have LP := hid (show L.Pairwise (· < ·) by rw [hL]; exact rcS_pw os ws)
  obtain ⟨p, hp⟩ : ∃ p : Int → Bool, p = fun n => !M.contains n := ⟨_, rfl⟩
  have PE := hid hp
  have NE := hid (show L.filter p = need os ws hs by rw [hp, hL, hM]; rfl)
  clear hv h1 h2 hcell hb hok g1 g2 g3 g4 hmL hL hM hp hm0
  go_enter Tryz.func10, Tryz.ntmps10
  go_wp2_with (first
    | (go_at_call 25; go_must (refine (implStoreValid_any K _ os _ HV.out HB.out (by omega)).mono ?_; rintro e w1 ⟨rfl, fr1⟩; rw [OK.out]; have F1 := hid fr1; clear fr1))
    | (go_at_call 26; (with_reducible refine (idsOk_any K1 _ ws _ (HW.out.grow F1.out) (by omega)).mono ?_); go_must (rintro e w2 ⟨rfl, fr2⟩; rw [IW.out]; have F2 := hid (F1.out.trans fr2.nil); clear fr2))
    | (go_at_call 26; go_must (refine (idsOk_any K2 _ hs _ (HH.out.grow F2.out) (by omega)).mono ?_; rintro e w3 ⟨rfl, fr3⟩; rw [IH.out]; have F3 := hid (F2.out.trans fr3.nil); clear fr3))
    | (go_at_call 27; go_must (have FB := hid (F3.out.alloc (.cells #[.slice a os.length cap] 23)); refine (byId_any K _ _ os _ (cell_of (heap_alloc_new w3 (.cells #[.slice a os.length cap] 23)) rfl) (HV.out.grow FB.out) OK.out).mono ?_; rintro e w4 ⟨m, rfl, hmo, fr4⟩; have MO := hid hmo; have F4 := hid (FB.out.trans fr4.nil); clear hmo fr4))
    | (go_at_call 28; (with_reducible refine (reach_any K K1 _ _ os ws _ MO.out (HW.out.grow F4.out) OK.out INW.out (by omega)).mono ?_); go_must (rintro e w5 ⟨v1, v2, rfl, own1, own2, fr5⟩; rw [← LE.out] at own1; rw [← ME.out] at own2; replace own1 : OwnI _ w5 v1 L := own1; replace own2 : OwnI _ w5 v2 mL := own2; obtain ⟨la, lcap, rfl⟩ := own1.any; obtain ⟨ma, mcap, rfl⟩ := own2.any; have L5 := hid (SlR.weak (K' := old w5.heap.size) own1.reads fun b t hb _ => hb); have F5 := hid (F4.out.trans fr5.nil); have G5 := hid fr5; clear own1 own2 fr5))
    | (go_at_call 28; go_must (refine (reach_any K K2 _ _ os hs _ (MO.out.grow G5.out) (HH.out.grow F5.out) OK.out INH.out (by omega)).mono ?_; rintro e w6 ⟨v3, v4, rfl, own3, own4, fr6⟩; rw [← TE.out] at own3; replace own3 : OwnI _ w6 v3 M := own3; obtain ⟨ta, tcap, rfl⟩ := own3.any; obtain ⟨ua, ucap, rfl⟩ := own4.any; have T6 := hid (SlR.weak (K' := old w6.heap.size) own3.reads fun b t hb _ => hb); have L6 := hid ((show IntsR _ w6 _ L from SlR.grow L5.out fr6).weak (K' := old w6.heap.size) fun b t hb _ => hb); have F6 := hid (F5.out.trans fr6.nil); clear own3 own4 fr6)))
  have hb0 : HeapAt w6.heap.size (w6.heap.size + 1) ((w6.alloc (.cells #[] 3)).alloc (.cells #[.slice (some ⟨w6.heap.size, 0, none⟩) 0 0] 59)) (.slice (some ⟨w6.heap.size, 0, none⟩) 0 0) [] :=
    ⟨Nat.le_succ _, by have := heap_alloc_new (w6.alloc (.cells #[] 3)) (.cells #[.slice (some ⟨w6.heap.size, 0, none⟩) 0 0] 59); simpa using this, ownsRow_grow (OwnI.lit (w := w6)) ((Fr.refl 0 [] _).alloc _)⟩
  have HB0 := hid hb0
  have FB0 := hid (((Fr.refl w6.heap.size [3, 59] w6).alloc (.cells #[] 3)).alloc (.cells #[.slice (some ⟨w6.heap.size, 0, none⟩) 0 0] 59))
  clear hb0 hm1
  go_loopw [52] (fun i wx => ∃ (k : Nat) (vv : Value), k ≤ L.length ∧ i = .int .i64 k ∧ HeapAt w6.heap.size (w6.heap.size + 1) wx vv ((L.take k).filter p) ∧ Fr w6.heap.size [3, 59] w6 wx) (fun i _ => L.length - (intOf i).toNat)
  case atStart => exact ⟨0, _, Nat.zero_le _, rfl, HB0.out, FB0.out⟩
  case round =>
    obtain ⟨wx, rfl⟩ : ∃ x, x = wr := ⟨wr, rfl⟩
    obtain ⟨k, vv, hk, rfl, hha, hfr⟩ := hrel
    have HA := hid hha
    have FR := hid hfr
    have hfl := filter_take_len L p k
    clear hha
    by_cases hlt : k < L.length
    · obtain ⟨a', cap', he, _, hcell⟩ := IntsR.shape (show IntsR (old w6.heap.size) wx (.slice la L.length lcap) L from SlR.keep L6.out hfr (Safe.old (Nat.le_refl _)))
      cases he
      rcases hcell with h | ⟨lb, loff, rfl, hlb, hcell⟩
      · rw [h] at hlt; simp at hlt
      have ck := hcell k hlt
      have hki : (k : Int) < (L.length : Int) := by omega
      have FT := hid (filter_take p hlt)
      have LS := hid (filter_less LP.out p hlt)
      obtain ⟨x, hx⟩ : ∃ x, x = L[k] := ⟨_, rfl⟩
      rw [← hx] at ck FT LS
      clear hx hcell hfr
      by_cases hh : M.contains x = true
      · have HX := hid hh
        have PX := hid (show p x = false by rw [PE.out]; show (!M.contains x) = false; rw [hh]; rfl)
        clear hh
        go_wp2_with (go_at_call 29; go_must (refine (containsI_any _ _ M x _ (show IntsR (old w6.heap.size) wx _ M from SlR.keep T6.out FR.out (Safe.old (Nat.le_refl _))) (by omega)).mono ?_; rintro e w7 ⟨rfl, fr7⟩; rw [HX.out]; have F7 := hid (FR.out.trans fr7.nil); have H7 := hid (HA.out.grow fr7); clear fr7))
        go_roundw
        case rel =>
          refine ⟨k + 1, vv, by omega, by go_num, ?_, F7.out⟩
          rw [FT.out, PX.out]
          exact H7.out
        case measure => simp [intOf]; omega
      · have hh' : M.contains x = false := by simpa using hh
        have HX := hid hh'
        have PX := hid (show p x = true by rw [PE.out]; show (!M.contains x) = true; rw [hh']; rfl)
        clear hh hh'
        go_wp2_with (first
          | (go_at_call 29; go_must (refine (containsI_any _ _ M x _ (show IntsR (old w6.heap.size) wx _ M from SlR.keep T6.out FR.out (Safe.old (Nat.le_refl _))) (by omega)).mono ?_; rintro e w7 ⟨rfl, fr7⟩; rw [HX.out]; have F7 := hid (FR.out.trans fr7.nil); have H7 := hid (HA.out.grow fr7); clear fr7))
          | (go_at_call 30; go_must (refine (heapPush_any H7.out (by omega) LS.out).mono ?_; rintro e w8 ⟨rfl, v8, h8, fr8⟩; have H8 := hid h8; have F8 := hid (F7.out.trans fr8); clear h8 fr8)))
        go_roundw
        case rel =>
          refine ⟨k + 1, v8, by omega, by go_num, ?_, F8.out⟩
          rw [FT.out, PX.out]
          exact H8.out
        case measure => simp [intOf]; omega
    · obtain rfl : k = L.length := by omega
      rw [List.take_length, NE.out] at HA
      have NP := hid (need_pw os ws hs)
      have hNl : (need os ws hs).length ≤ 16 := by rw [← NE.out]; exact Nat.le_trans (List.length_filter_le _ _) hLl
      obtain ⟨nd, hnd⟩ : ∃ nd, nd = need os ws hs := ⟨_, rfl⟩
      have ND := hid hnd
      rw [← hnd] at NP hNl
      have HA' := hid (show HeapAt w6.heap.size (w6.heap.size + 1) wx vv nd by rw [hnd]; exact HA.out)
      have BL := hid (HA'.out.lt).2
      have hbx := (HA'.out.lt).1
      have hsx := hfr.size
      clear HA hnd hfr hfl
      go_wp2
      go_loopw [16] (fun vo wy => ∃ (out l : List Int) (v2 : Value), OwnI wx.heap.size wy vo out ∧ HeapAt w6.heap.size (w6.heap.size + 1) wy v2 l ∧ (∀ k, v2.ownBlock = some k → k < wx.heap.size) ∧ HOut nd out l ∧ Fr w6.heap.size [3, 59] w6 wy ∧ wx.heap.size ≤ wy.heap.size) (fun vo _ => nd.length - sliceLen vo)
      case atStart => exact ⟨[], nd, vv, OwnI.nil _ _, HA'.out, BL.out, HOut.start (HP.sorted NP.out), FR.out, Nat.le_refl _⟩
      case round =>
        obtain ⟨wy, rfl⟩ : ∃ x, x = wr := ⟨wr, rfl⟩
        obtain ⟨out, l, v2, how, hha, hbl, hho, hfr2, hsy⟩ := hrel
        have hlen := hho.perm.length_eq
        rw [List.length_append] at hlen
        have OW2 := hid how
        have HA2 := hid hha
        have HO2 := hid hho
        have FR2 := hid hfr2
        have c0 := hha.cell
        obtain ⟨oa, ocap, rfl⟩ := how.any
        obtain ⟨a2, cap2, rfl⟩ := hha.row.any
        have hme := meth_len
        clear BL how hha hho hfr2
        have BL := hid hbl
        clear hbl
        cases l with
        | nil =>
          have DN := hid (HO2.out.done NP.out)
          go_wp2_with (go_at_call 31; (with_reducible refine (len_any _ _ _ _).mono ?_); go_must (rintro e w7 ⟨rfl, he7⟩; obtain rfl := he7.symm))
          go_ret2
          refine ⟨.slice oa out.length ocap, by rw [YES.out]; rfl, fun _ => ?_, fun h2 => (by rw [YES.out] at h2; cases h2), ?_⟩
          · rw [← ND.out, ← DN.out]
            exact OW2.out.lower (by have := F6.out.size; omega)
          · exact F6.out.after (FR2.out.mono F6.out.size (fun _ h => h))
        | cons y l =>
          simp only [List.length_cons] at hlen c0
          have hl0 : (0 : Int) < ((l.length + 1 : Nat) : Int) := by omega
          have NDU := hid (pw_nodup NP.out)
          go_wp2_with (first
            | (go_at_call 31; (with_reducible refine (len_any _ _ _ _).mono ?_); go_must (rintro e w7 ⟨rfl, he7⟩; obtain rfl := he7.symm))
            | (go_at_call 32; go_must (refine (heapPop_any HA2.out HO2.out.heap (Nat.succ_pos _) (by simp only [List.length_cons]; omega)).mono ?_; rintro e w8 ⟨x, rfl, v8, r, h8, p8, o8, x8⟩; have H8 := hid h8; have P8 := hid p8; have O8 := hid o8; have hta := assertI x; have F8 := hid (FR2.out.trans (HA2.out.fr x8)); have OW8 := hid (x8.own OW2.out fun k hk hp => (hp.elim (fun e => by have h1 := (OW2.out.lt k hk).1; omega) (fun e => by have h1 := (OW2.out.lt k hk).1; have := BL.out k e; omega))); have hs8 := Nat.le_trans hsy x8.size; clear h8 p8 o8 x8))
            | (at_builtin; go_must (refine wpList_push rfl (.tmp 71) (.tmp 76) 24 rfl wx.heap.size 3 i0 (.int .i64 0) 1 8 Tryz.underlying24 hi hz0 hz1 hz2 rfl (by decide) _ _ _ OW8.out rfl (oneInt _) (by unfold maxLen; omega) (by omega) (by omega) (by rfl) _ (by rfl) (by simp [World.setCell]) ?_; intro v9 w9 own9 fr9 gr9; have O9 := hid (OwnI.pushed own9); have F9 := hid (F8.out.trans (fr9.mono hsx (by simp))); have H9 := hid (H8.out.low fr9 hbx (fun k hk => BL.out k (by rw [← O8.out]; exact hk))); have hs9 := fr9.size; clear own9 fr9 gr9)))
          refine ⟨⟨out ++ [x], r, v8, O9.out, H9.out, fun k hk => BL.out k (by rw [← O8.out]; exact hk), HO2.out.pop NDU.out P8.out, F9.out, Nat.le_trans hs8 hs9⟩, ?_⟩
          obtain ⟨a9, c9, rfl⟩ := OwnI.any O9.out
          simp only [sliceLen, List.length_append, List.length_cons, List.length_nil]
          omega

set_option maxHeartbeats 400000 in
theorem implNeed_any (K K1 K2 : Nat → Bool → Prop) (v vw vh : Value) (os : List Ob) (ws hs : List Int) (w : World) (hv : ObsR K w v os) (h1 : IntsR K1 w vw ws) (h2 : IntsR K2 w vh hs) (hb : ObsB os) (hl : os.length ≤ 1000000000) (hl1 : ws.length ≤ 1000000000) (hl2 : hs.length ≤ 1000000000) :
    Calls Tryz.prog 10 #[v, vw, vh] w (NeedP w os ws hs) := by
  cases h : needOk os ws hs with
  | false => exact need_bad K K1 K2 v vw vh os ws hs w hv h1 h2 hb hl hl1 hl2 h
  | true => exact need_good K K1 K2 v vw vh os ws hs w hv h1 h2 hb h

end Go.Proofs.YtjgbconlpolddaaGreat
