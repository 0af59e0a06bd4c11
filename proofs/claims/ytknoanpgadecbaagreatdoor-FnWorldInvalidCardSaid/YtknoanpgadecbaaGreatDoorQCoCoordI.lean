/- The program's CoordinatorValid. -/
import Derived.Test.YtknoanpgadecbaaGreatDoorQCoTnOk
import Derived.Test.YtknoanpgadecbaaGreatDoorQCoSort
import Derived.Deep.DeepCutAuto
import Derived.Deep.DeepMust
set_option linter.unusedVariables false
set_option linter.unusedSimpArgs false
namespace Go.Proofs.YtknoanpgadecbaaGreatDoor
open Go.RowKit
set_option linter.unusedVariables false

theorem commTo_le (ts : List Tn) : ∀ k, (commTo ts k).length ≤ k
 | 0 => by simp [commTo]
 | k + 1 => by
  have := commTo_le ts k
  unfold commTo
  split
  ·simp; omega
  ·omega

theorem commTo_yes {ts : List Tn} {k : Nat} (hk : k < ts.length) (h : (ts[k].dec == 2) = true) : commTo ts (k + 1) = commTo ts k ++ [(k : Int)] := by
 have : ts[k].dec = 2 := by simpa using h
 simp [commTo, List.getElem?_eq_getElem hk, this]

theorem commTo_no {ts : List Tn} {k : Nat} (hk : k < ts.length) (h : (ts[k].dec == 2) = false) : commTo ts (k + 1) = commTo ts k := by
 have : ¬ ts[k].dec = 2 := by simpa using h
 simp [commTo, List.getElem?_eq_getElem hk, this]

set_option maxRecDepth 20000 in
set_option maxHeartbeats 4000000 in
theorem implCoordinatorValid_any (lo : Nat) (v1 v2 : Value) (c : Co) (w : World) (h : CoR lo w v1 v2 c) (hi : CoI c) :
  Calls Tryz.prog 13 #[.agg #[v1, v2]] w fun e w' => e = .returned (.bool (coOk c)) ∧ Fr w.heap.size [] w w' := by
 obtain ⟨i0, hio, hz0, hz1, hz2⟩ := info_parts infoI
 obtain ⟨h1, h2⟩ := h
 obtain ⟨a, cap, rfl, hc, hcell⟩ := h1.shape
 obtain ⟨oa, ocap, rfl, hoc, -⟩ := h2.shape
 have HC := hid hcell
 have HO := hid h2
 have HI := hid hi.1
 have hl := hi.2.1
 have hol := hi.2.2
 have BX := hid (heap_alloc_new w (.cells #[.slice a c.txns.length cap, .slice oa c.order.length ocap] 26))
 clear h1 h2 hcell hi
 have F0 := hid ((Fr.refl w.heap.size [] w).alloc (.cells #[.slice a c.txns.length cap, .slice oa c.order.length ocap] 26))
 go_enter Tryz.func13, Tryz.ntmps13
 go_wp2
 go_loopw [3, 10] (fun vo vi wx => ∃ k : Nat, k ≤ c.txns.length ∧ vi = .int .i64 k ∧ (∀ i (hi : i < c.txns.length), i < k → tnOk c.txns[i] = true) ∧ OwnI w.heap.size wx vo (commTo c.txns k) ∧ wx.heap[w.heap.size]? = some (.cells #[.slice a c.txns.length cap, .slice oa c.order.length ocap] 26 (0, 0)) ∧ Fr w.heap.size [] w wx) (fun _ vi _ => c.txns.length - (intOf vi).toNat)
 case atStart => exact ⟨0, Nat.zero_le _, rfl, fun i _ h => absurd h (Nat.not_lt_zero _), OwnI.nil _ _, BX.out, F0.out⟩
 case round =>
  obtain ⟨k, hk, rfl, hto, hown, hbx, hfr⟩ := hrel
  have TO := hid hto
  have O1 := hid hown
  have B1 := hid hbx
  have F1 := hid hfr
  have hcl := hid (commTo_le c.txns k)
  obtain ⟨va, vcap, rfl⟩ := hown.any
  clear hto hown hbx
  by_cases hlt : k < c.txns.length
  ·rcases HC.out with h | ⟨b, off, rfl, hbs, hcell⟩
   ·rw [h] at hlt; simp at hlt
   obtain ⟨pa, pcap, ta, tcap, x0, x1, x2, xp, xv⟩ := hcell k hlt
   have d0 := hfr.cell hbs x0
   have d1 := hfr.cell hbs x1
   have d2 := hfr.cell hbs x2
   have HP := hid (xp.grow hfr)
   have HV := hid (xv.grow hfr)
   have HT := hid (HI.out _ (List.getElem_mem hlt))
   have hki : (k : Int) < (c.txns.length : Int) := by omega
   have NO := hid (fun (hx : tnOk c.txns[k] = false) => show coOk c = false from by
    cases hh : coOk c with
    | false => rfl
    | true => rw [coOk_txn hh hlt] at hx; cases hx)
   have NX := hid (fun (hx : tnOk c.txns[k] = true) => show ∀ i (hi : i < c.txns.length), i < k + 1 → tnOk c.txns[i] = true from fun i hi hik => by
    by_cases e : i = k
    ·subst e; exact hx
    ·exact TO.out i hi (by omega))
   have CY := hid (commTo_yes hlt)
   have CN := hid (commTo_no hlt)
   clear x0 x1 x2 xp xv hcell hfr
   generalize c.txns[k] = T at *
   cases g1 : tnOk T
   ·have G1 := hid g1
    clear g1
    go_wp2_with (go_at_call 37; go_must (refine (implTxnOk_any lo T _ _ _ (HP.out.grow ((Fr.refl 0 [] wr).alloc _)) (HV.out.grow ((Fr.refl 0 [] wr).alloc _)) HT.out).mono ?_; rintro e w3 ⟨rfl, fr3⟩; rw [G1.out]; have F3 := hid ((F1.out.alloc _).trans fr3.nil)))
    go_ret
    exact ⟨ret_bool (NO.out G1.out).symm, F3.out⟩
   ·have G1 := hid g1
    clear g1
    cases g2 : T.dec == 2
    ·have G2 := hid (CN.out g2)
     go_wp2_with (go_at_call 37; go_must (refine (implTxnOk_any lo T _ _ _ (HP.out.grow ((Fr.refl 0 [] wr).alloc _)) (HV.out.grow ((Fr.refl 0 [] wr).alloc _)) HT.out).mono ?_; rintro e w3 ⟨rfl, fr3⟩; rw [G1.out]; have F3 := hid ((F1.out.alloc _).trans fr3.nil); have B3 := hid (fr3.keep _ _ (heap_up B1.out _) (.inr (by simp))); have O3 := hid ((O1.out.grow ((Fr.refl 0 [] wr).alloc _)).grow fr3); have V3 := hid (fr3.keep _ _ (heap_alloc_new wr (.cells #[.slice pa T.parts.length pcap, .slice ta T.votes.length tcap, .int .i64 T.dec] 74)) (.inr (by simp))); have c2 := cell_of (o := 2) V3.out rfl; have hs3 := F3.out.size))
     go_roundw
     case rel => exact ⟨k + 1, by omega, by go_num, NX.out G1.out, by rw [G2.out]; exact O3.out, B3.out, F3.out⟩
     case measure => simp [intOf]; omega
    ·have G2 := hid (CY.out g2)
     have hcl2 := hcl.out
     go_wp2_with (first
      | (go_at_call 37; go_must (refine (implTxnOk_any lo T _ _ _ (HP.out.grow ((Fr.refl 0 [] wr).alloc _)) (HV.out.grow ((Fr.refl 0 [] wr).alloc _)) HT.out).mono ?_; rintro e w3 ⟨rfl, fr3⟩; rw [G1.out]; have F3 := hid ((F1.out.alloc _).trans fr3.nil); have B3 := hid (fr3.keep _ _ (heap_up B1.out _) (.inr (by simp))); have O3 := hid ((O1.out.grow ((Fr.refl 0 [] wr).alloc _)).grow fr3); have V3 := hid (fr3.keep _ _ (heap_alloc_new wr (.cells #[.slice pa T.parts.length pcap, .slice ta T.votes.length tcap, .int .i64 T.dec] 74)) (.inr (by simp))); have c2 := cell_of (o := 2) V3.out rfl; have hs3 := F3.out.size))
      | (at_builtin; go_must (refine wpList_push rfl (.tmp 21) (.tmp 23) 24 rfl w.heap.size 3 i0 (.int .i64 0) 1 8 Tryz.underlying24 hio hz0 hz1 hz2 rfl (by decide) _ _ _ O3.out rfl (oneI [(k : Int)]) (by unfold maxLen; omega) (by omega) (by omega) (by rfl) _ (by rfl) (by simp [World.setCell]) ?_; intro v5 w5 own5 fr5 gr5; have O5 := hid (OwnI.pushed own5); have F5 := hid (F3.out.after fr5); have B5 := hid (fr5.keep _ _ B3.out (.inr (by simp [otag]))); clear own5 fr5 gr5)))
     go_roundw
     case rel => exact ⟨k + 1, by omega, by go_num, NX.out G1.out, by rw [G2.out]; exact O5.out, B5.out, F5.out⟩
     case measure => simp [intOf]; omega
  ·obtain rfl : k = c.txns.length := by omega
   have EN := hid (show coOk c = decide (msort c.order = commTo c.txns c.txns.length) from by
    rw [← coOkI_eq]
    unfold coOkI
    have e1 : c.txns.all tnOk = true := List.all_eq_true.2 fun t ht => by
     obtain ⟨i, hi, rfl⟩ := List.getElem_of_mem ht
     exact TO.out i hi hi
    rw [e1, decide_eq_true hl]; simp)
   have c1 := cell_of (o := 1) B1.out rfl
   have hll : (c.txns.length : Int) ≤ 12 := by omega
   have hL : (commTo c.txns c.txns.length).length ≤ 12 := by have := hcl.out; omega
   have hml : (msort c.order).length ≤ 1000 := by
    have : (msort c.order).length = c.order.length := List.length_mergeSort c.order
    omega
   have hsz := hfr.size
   clear HC hfr hcl
   generalize commTo c.txns c.txns.length = L at *
   have L1 := hid (O1.out.reads.weak (K' := old wr.heap.size) fun b t hb _ => hb)
   go_wp2_with (first
    | (go_at_call 38; go_must (refine (cloneI_any (new lo) 3 _ _ _ _ (HO.out.grow F1.out) (oneI _) (by omega)).mono ?_; rintro e w2 ⟨v2, rfl, own2, fr2⟩; have F2 := hid (F1.out.trans (fr2.nil (B' := w.heap.size) (T := []))); have O2 := hid (show OwnI wr.heap.size w2 v2 c.order from own2); obtain ⟨sa, scap, rfl⟩ := O2.out.any; have L2 := hid (L1.out.grow fr2); have B2 := hid (fr2.keep _ _ B1.out (.inr (by simp))); clear own2 fr2))
    | (go_at_call 39; go_must (refine (sortI_any O2.out (by omega)).mono ?_; rintro e w3 ⟨rfl, own3, gr3, fr3⟩; have F3 := hid (F2.out.after (fr3.mono hsz (fun _ x => x))); have S3 := hid own3.reads; have L3 := hid (L2.out.keep fr3 (Safe.old (Nat.le_refl _))); have B3 := hid (fr3.keep _ _ B2.out (.inr (by simp [otag]))); have c0 := cell_of (o := 0) B3.out rfl; clear own3 gr3 fr3))
    | (go_at_call 40; go_must (refine (equalI_any _ _ _ _ _ _ _ S3.out L3.out (by omega) (by omega)).mono ?_; rintro e w4 ⟨rfl, fr4⟩; have F4 := hid (F3.out.trans (fr4.nil (B' := w.heap.size) (T := []))))))
   go_ret
   exact ⟨ret_bool (by rw [EN.out]), F4.out⟩

end Go.Proofs.YtknoanpgadecbaaGreatDoor
