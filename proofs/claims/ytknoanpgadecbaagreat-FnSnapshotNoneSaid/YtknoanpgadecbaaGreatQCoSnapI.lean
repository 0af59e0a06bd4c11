/- The program's SnapshotReady. -/
import Derived.Test.YtknoanpgadecbaaGreatQM6
import Derived.Test.YtknoanpgadecbaaGreatQCoCoordI
set_option linter.unusedVariables false
set_option linter.unusedSimpArgs false
namespace Go.Proofs.YtknoanpgadecbaaGreat
open Go.RowKit
set_option linter.unusedVariables false

theorem all_takeI {α : Type} {p : α → Bool} {l : List α} {k : Nat} (hk : k < l.length) (h : (l.take k).all p = true) (hx : p l[k] = true) : (l.take (k + 1)).all p = true := by
 rw [List.take_succ_eq_append_getElem hk, List.all_append, h]; simp [hx]

set_option maxRecDepth 20000 in
set_option maxHeartbeats 4000000 in
theorem implReady_any (lo : Nat) (v1 v2 sv : Value) (c : Co) (ss : List (List Rc)) (w : World) (hv : CoR lo w v1 v2 c) (hsr : ShardsR lo w sv ss) (hi : CoI c) (hl : ss.length ≤ 1000) (hs : ∀ rs ∈ ss, Small rs ∧ NC rs) :
  Calls Tryz.prog 10 #[.agg #[v1, v2], sv] w fun e w' => e = .returned (.int .i64 (ready c ss)) ∧ Fr w.heap.size [] w w' := by
 obtain ⟨ta, tcap, rfl, -, htcell⟩ := hv.1.shape
 obtain ⟨oa, ocap, rfl, -, hocell⟩ := hv.2.shape
 obtain ⟨sa, scap, rfl, -⟩ := hsr.shape
 have HV := hid hv
 have HSR := hid hsr
 have HTC := hid htcell
 have HO := hid hocell
 have CI := hid hi
 have HS := hid hs
 have HL := hid hl
 have htl := hi.2.1
 have hol := hi.2.2
 have A0 := hid (heap_alloc_new w (.cells #[.slice ta c.txns.length tcap, .slice oa c.order.length ocap] 26))
 have FA := hid ((Fr.refl w.heap.size [] w).alloc (.cells #[.slice ta c.txns.length tcap, .slice oa c.order.length ocap] 26))
 have p0 := cell_of (o := 0) A0.out rfl
 have p1 := cell_of (o := 1) A0.out rfl
 clear hv hsr hocell htcell hi hs hl
 cases g1 : coOk c
 ·have G1 := hid g1
  clear g1
  go_enter Tryz.func10, Tryz.ntmps10
  go_wp2_with (go_at_call 26; go_must (refine (implCoordinatorValid_any lo _ _ c _ ⟨HV.out.1.grow FA.out, HV.out.2.grow FA.out⟩ CI.out).mono ?_; rintro e w1 ⟨rfl, fr1⟩; rw [G1.out]; have F1 := hid (FA.out.trans fr1.nil)))
  go_ret
  exact ⟨by unfold ready; rw [G1.out]; rfl, F1.out⟩
 ·cases g2 : shsOk ss
  ·have G1 := hid g1
   have G2 := hid g2
   clear g1 g2
   go_enter Tryz.func10, Tryz.ntmps10
   go_wp2_with (first
    | (go_at_call 26; go_must (refine (implCoordinatorValid_any lo _ _ c _ ⟨HV.out.1.grow FA.out, HV.out.2.grow FA.out⟩ CI.out).mono ?_; rintro e w1 ⟨rfl, fr1⟩; rw [G1.out]; have F1 := hid (FA.out.trans fr1.nil)))
    | (go_at_call 27; go_must (refine (implShardsOk_any lo _ ss _ (HSR.out.grow F1.out) HL.out HS.out).mono ?_; rintro e w2 ⟨rfl, fr2⟩; rw [G2.out]; have F2 := hid (F1.out.trans fr2.nil))))
   go_ret
   exact ⟨by unfold ready; rw [G1.out, G2.out]; rfl, F2.out⟩
  ·have G1 := hid g1
   have G2 := hid g2
   have VS := hid (show ∀ rs ∈ ss, valid rs = true ∧ Small rs ∧ NC rs from fun rs hrs => ⟨by
    have := g2
    unfold shsOk at this
    rw [Bool.and_eq_true, List.all_eq_true] at this
    exact this.1 rs hrs, HS.out rs hrs⟩)
   have H3 := hid (show ss.length = 3 by simp [shsOk] at g2; exact g2.2)
   have RE := hid (show ready c ss = (readyN c ss : Int) by unfold ready; rw [g1, g2]; rfl)
   clear g1 g2
   go_enter Tryz.func10, Tryz.ntmps10
   go_upto_region 3 with (first
    | (go_at_call 26; go_must (refine (implCoordinatorValid_any lo _ _ c _ ⟨HV.out.1.grow FA.out, HV.out.2.grow FA.out⟩ CI.out).mono ?_; rintro e w1 ⟨rfl, fr1⟩; rw [G1.out]; have F1 := hid (FA.out.trans fr1.nil); have B1 := hid (fr1.keep _ _ A0.out (.inr (by simp)))))
    | (go_at_call 27; go_must (refine (implShardsOk_any lo _ ss _ (HSR.out.grow F1.out) HL.out HS.out).mono ?_; rintro e w2 ⟨rfl, fr2⟩; rw [G2.out]; have F2 := hid (F1.out.trans fr2.nil); have B2 := hid (fr2.keep _ _ B1.out (.inr (by simp))); have p2 := cell_of (o := 1) B2.out rfl)))
   clear p0 p1 A0 FA F1 B1
   go_wp2
   clear p2
   go_loopw [18] (fun i wr => ∃ k : Nat, k ≤ c.order.length ∧ i = .int .i64 k ∧ (c.order.take k).all (haveTx c ss) = true ∧ wr.heap[w.heap.size]? = some (.cells #[.slice ta c.txns.length tcap, .slice oa c.order.length ocap] 26 (0, 0)) ∧ Fr w.heap.size [] w wr) (fun i _ => c.order.length - (intOf i).toNat)
   case atStart => exact ⟨0, Nat.zero_le _, rfl, by simp, B2.out, F2.out⟩
   case round =>
    obtain ⟨k, hk, rfl, hto, hb, hfr⟩ := hrel
    have HT := hid hto
    have HB := hid hb
    have p0 := cell_of (o := 0) hb rfl
    have p1 := cell_of (o := 1) hb rfl
    clear hto hb B2 F2
    by_cases hlt : k < c.order.length
    ·have hki : (k : Int) < (c.order.length : Int) := by omega
     rcases HO.out with h | ⟨ob, ooff, rfl, hob, hocell⟩
     ·rw [h] at hlt; simp at hlt
     have y0 := hocell k hlt
     have OA := hid (order_at G1.out (List.getElem_mem hlt))
     have AT := hid (fun h => all_takeI (p := haveTx c ss) hlt HT.out h)
     have AF := hid (fun h => tw_at (haveTx c ss) c.order k (List.all_eq_true.1 HT.out) hlt h)
     obtain ⟨i, hil, hxi, _⟩ := OA.out
     rw [hxi] at y0 AT AF
     have y1 := hfr.cell hob y0
     have CP := hid (coOk_parts G1.out hil)
     have CPL := (CI.out.1 _ (List.getElem_mem hil)).2.1
     rcases HTC.out with h | ⟨tb, toff, rfl, htb, htcell⟩
     ·rw [h] at hil; simp at hil
     obtain ⟨pa, pcap, va, vcap, x0, x1, x2, xp, xv⟩ := htcell i hil
     have d0 := hfr.cell htb x0
     have d1 := hfr.cell htb x1
     have d2 := hfr.cell htb x2
     have XP := hid (xp.grow hfr)
     have S1 := hid (HSR.out.grow hfr)
     have hii : (i : Int) < (c.txns.length : Int) := by omega
     have hin := hid (show inR (i : Int) 0 11 = true by rw [inR_iff]; omega)
     have hpl : c.txns[i].parts.length ≤ 1000000000 := by omega
     have HX := hid (show haveTx c ss (i : Int) = c.txns[i].parts.all (haveP ss (i : Int)) by unfold haveTx; simp [List.getElem?_eq_getElem hil])
     clear hocell y0 hxi OA htcell x0 x1 x2 xp xv CPL
     cases gh : haveTx c ss i
     ·have GV := hid (show c.txns[i].parts.all (haveP ss (i : Int)) = false by rw [← HX.out]; exact gh)
      have GH := hid gh
      clear gh HX
      generalize c.txns[i] = T at *
      go_wp2_with (go_at_call 28; go_must (refine (implTxnReady_any lo T _ _ _ _ ss _ _ XP.out hpl ⟨_, _, rfl⟩ S1.out H3.out CP.out hin.out VS.out).mono ?_; rintro e w3 ⟨rfl, fr3⟩; rw [GV.out]))
      go_ret
      exact ⟨ret_int (by rw [RE.out]; unfold readyN; rw [AF.out GH.out]), hfr.trans fr3.nil⟩
     ·have GV := hid (show c.txns[i].parts.all (haveP ss (i : Int)) = true by rw [← HX.out]; exact gh)
      have GH := hid gh
      clear gh HX
      generalize c.txns[i] = T at *
      go_wp2_with (go_at_call 28; go_must (refine (implTxnReady_any lo T _ _ _ _ ss _ _ XP.out hpl ⟨_, _, rfl⟩ S1.out H3.out CP.out hin.out VS.out).mono ?_; rintro e w3 ⟨rfl, fr3⟩; rw [GV.out]; have B3 := hid (fr3.keep _ _ HB.out (.inr (by simp)))))
      go_roundw
      case rel => exact ⟨k + 1, by omega, by go_num, AT.out GH.out, B3.out, hfr.trans fr3.nil⟩
      case measure => simp [intOf]; omega
    ·obtain rfl : k = c.order.length := by omega
     have EQ := hid (show readyN c ss = c.order.length by
      have := HT.out
      rw [List.take_length, List.all_eq_true] at this
      exact tw_all _ _ this)
     go_wp2
     go_ret
     exact ⟨ret_int (by rw [RE.out, EQ.out]), hfr⟩

end Go.Proofs.YtknoanpgadecbaaGreat
