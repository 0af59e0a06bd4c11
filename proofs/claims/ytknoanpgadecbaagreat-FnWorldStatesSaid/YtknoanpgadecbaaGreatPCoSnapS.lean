/- The reference's l31Shards, l31Have, SnapshotReady. -/
import Derived.Test.YtknoanpgadecbaaGreatPM4
import Derived.Test.YtknoanpgadecbaaGreatPM3
import Derived.Deep.RegionHeld3
import Derived.Deep.DeepCutAuto
import Derived.Deep.QuietTactic
import Derived.BigQuiet
set_option linter.unusedVariables false
set_option linter.unusedSimpArgs false
namespace Go.Proofs.YtknoanpgadecbaaGreat
open Go.RowKit
set_option linter.unusedVariables false

theorem all_false {α : Type} {p : α → Bool} {l : List α} {k : Nat} (hk : k < l.length) (h : p l[k] = false) : l.all p = false := by
 rw [List.all_eq_false]
 exact ⟨_, List.getElem_mem hk, by simp [h]⟩

theorem all_take {α : Type} {p : α → Bool} {l : List α} {k : Nat} (hk : k < l.length) (h : (l.take k).all p = true) (hp : p l[k] = true) : (l.take (k + 1)).all p = true := by
 rw [List.take_succ_eq_append_getElem hk, List.all_append, h]
 simp [hp]

set_option maxRecDepth 20000 in
set_option maxHeartbeats 2000000 in
theorem l31Shards_any (lo : Nat) (v : Value) (ss : List (List Rc)) (w : World) (hv : ShardsR lo w v ss) (hl : ss.length ≤ 1000) (hs : ∀ rs ∈ ss, Small rs) :
  Calls Tryz.prog 30 #[v] w fun e w' => e = .returned (.bool (shsOk ss)) ∧ Fr w.heap.size [] w w' := by
 obtain ⟨a, cap, rfl, hc, hcell⟩ := hv.shape
 have HC := hid hcell
 have HS := hid hs
 clear hv hcell hs
 go_enter Tryz.func30, Tryz.ntmps30
 go_wp2
 go_loopw [3] (fun i wr => ∃ k : Nat, k ≤ ss.length ∧ i = .int .i64 k ∧ (ss.take k).all valid = true ∧ Fr w.heap.size [] w wr) (fun i _ => ss.length - (intOf i).toNat)
 case atStart => exact ⟨0, Nat.zero_le _, rfl, by simp, Fr.refl _ _ _⟩
 case round =>
  obtain ⟨k, hk, rfl, hto, hfr⟩ := hrel
  have HT := hid hto
  clear hto
  by_cases hlt : k < ss.length
  ·rcases HC.out with h | ⟨b, off, rfl, hbs, hcell⟩
   ·rw [h] at hlt; simp at hlt
   obtain ⟨ra, rcap, c0, hr⟩ := hcell k hlt
   have d0 := hfr.cell hbs c0
   have HR := hid (hr.grow hfr)
   have SM := hid (HS.out _ (List.getElem_mem hlt))
   have hki : (k : Int) < (ss.length : Int) := by omega
   clear hcell c0 hr
   cases g : valid ss[k]
   ·have G := hid g
    have hz := hid (show shsOk ss = false by unfold shsOk; rw [all_false hlt g]; rfl)
    clear g
    go_wp2_with (go_at_call 55; go_must (refine (specShardValid_any (new lo) _ ss[k] _ HR.out SM.out).mono ?_; rintro e w1 ⟨rfl, fr1⟩; rw [G.out]))
    go_ret
    exact ⟨ret_bool hz.out.symm, hfr.trans fr1.nil⟩
   ·have hz := hid (all_take hlt HT.out g)
    have G := hid g
    clear g
    go_wp2_with (go_at_call 55; go_must (refine (specShardValid_any (new lo) _ ss[k] _ HR.out SM.out).mono ?_; rintro e w1 ⟨rfl, fr1⟩; rw [G.out]))
    go_roundw
    case rel => exact ⟨k + 1, by omega, by go_num, hz.out, hfr.trans fr1.nil⟩
    case measure => simp [intOf]; omega
  ·obtain rfl : k = ss.length := by omega
   rw [List.take_length] at HT
   have hz := hid (show shsOk ss = decide (ss.length = 3) by unfold shsOk; rw [HT.out]; rfl)
   go_wp2
   go_ret
   exact ⟨ret_bool (by rw [hz.out, Bool.eq_iff_iff]; simp; omega), hfr⟩

set_option maxRecDepth 20000 in
set_option maxHeartbeats 4000000 in
theorem l31Have_any (lo : Nat) (v1 v2 v3 : Value) (c : Co) (ss : List (List Rc)) (k : Nat) (w : World) (hv : CoR lo w v1 v2 c) (hsr : ShardsR lo w v3 ss) (h3 : ss.length = 3) (hs : ∀ rs ∈ ss, Small rs) (hk : k < c.txns.length) (hkl : c.txns.length ≤ 1000) (hpl : (c.txns[k]).parts.length ≤ 1000) (hp : ∀ p ∈ (c.txns[k]).parts, 0 ≤ p.shard ∧ p.shard ≤ 2) :
  Calls Tryz.prog 31 #[.agg #[v1, v2], v3, .int .i64 k] w fun e w' => e = .returned (.bool (haveTx c ss k)) ∧ Fr w.heap.size [] w w' := by
 obtain ⟨ta, tcap, rfl, _, hcell⟩ := hv.1.shape
 obtain ⟨oa, ocap, rfl, _, _⟩ := hv.2.shape
 obtain ⟨sa, scap, rfl, _, hscell⟩ := hsr.shape
 rcases hcell with h | ⟨b, off, rfl, hbs, hcell⟩
 ·rw [h] at hk; simp at hk
 rcases hscell with h | ⟨sb, soff, rfl, hsb, hscell⟩
 ·rw [h] at h3; simp at h3
 obtain ⟨pa, pcap, va, vcap, x0, x1, x2, hpp, hvv⟩ := hcell k hk
 obtain ⟨pa', pcap', hpe, _, hpc⟩ := hpp.shape
 cases hpe
 have HX := hid (show haveTx c ss k = (c.txns[k]).parts.all (haveP ss k) by unfold haveTx; simp [List.getElem?_eq_getElem hk])
 have HSC := hid hscell
 have HPC := hid hpc
 have HS := hid hs
 have HP := hid hp
 have hki : (k : Int) < (c.txns.length : Int) := by omega
 have FA := hid ((Fr.refl w.heap.size [] w).alloc (.cells #[.slice (some ⟨b, off, none⟩) c.txns.length tcap, .slice oa c.order.length ocap] 26))
 have H3 := hid h3
 clear hv hsr hcell hscell hpp hvv hpc hs hp x1 x2 h3
 generalize c.txns[k] = tn at *
 go_enter Tryz.func31, Tryz.ntmps31
 go_wp2
 go_loopw [8] (fun i wr => ∃ j : Nat, j ≤ tn.parts.length ∧ i = .int .i64 j ∧ (tn.parts.take j).all (haveP ss k) = true ∧ Fr w.heap.size [] w wr) (fun i _ => tn.parts.length - (intOf i).toNat)
 case atStart => exact ⟨0, Nat.zero_le _, rfl, by simp, FA.out⟩
 case round =>
  obtain ⟨j, hj, rfl, hto, hfr⟩ := hrel
  have HT := hid hto
  clear hto x0
  by_cases hlt : j < tn.parts.length
  ·rcases HPC.out with h | ⟨pb, poff, rfl, hpb, hpcell⟩
   ·rw [h] at hlt; simp at hlt
   obtain ⟨ua, ucap, y0, _, _⟩ := hpcell j hlt
   have d0 := hfr.cell hpb y0
   obtain ⟨g1, g2⟩ := HP.out _ (List.getElem_mem hlt)
   have hji : (j : Int) < (tn.parts.length : Int) := by omega
   have HE := hid (show haveP ss k tn.parts[j] = (ask (shAt ss tn.parts[j].shard) k == 2) from rfl)
   have AT := hid (fun h => all_take (p := haveP ss k) hlt HT.out h)
   have AF := hid (fun h => all_false (p := haveP ss k) hlt h)
   obtain ⟨x, hx⟩ := Int.eq_ofNat_of_zero_le g1
   rw [hx] at d0 HE g2
   have hxl : x < ss.length := by have := H3.out; omega
   obtain ⟨ra, rcap, z0, hr⟩ := HSC.out x hxl
   have e0 := hfr.cell hsb z0
   have HR := hid (hr.grow hfr)
   have SM := hid (HS.out _ (List.getElem_mem hxl)).1
   have hxi : (x : Int) < (ss.length : Int) := by omega
   have hsx : shAt ss (x : Int) = ss[x] := by simp [shAt, List.getElem?_eq_getElem hxl]
   rw [hsx] at HE
   clear hpcell y0 z0 hr hx hsx g1
   by_cases ga : ask ss[x] k = 2
   ·have hz := hid (AT.out (by rw [HE.out, ga]; rfl))
    have GA := hid ga
    clear ga
    go_wp2_with (go_at_call 45; go_must (refine (l21Ask_any (new lo) _ ss[x] _ _ HR.out SM.out).mono ?_; rintro e w1 ⟨rfl, hw1⟩; rw [GA.out]; subst hw1))
    go_roundw
    case rel => exact ⟨j + 1, by omega, by go_num, hz.out, hfr⟩
    case measure => simp [intOf]; omega
   ·have hz := hid (AF.out (by rw [HE.out]; simpa using ga))
    clear AT AF
    have ga2 : (ask ss[x] k != 2) = true := by simpa using ga
    have ga3 : (ask ss[x] k == 2) = false := by simpa using ga
    go_wp2_with (go_at_call 45; go_must (refine (l21Ask_any (new lo) _ ss[x] _ _ HR.out SM.out).mono ?_; rintro e w1 ⟨rfl, hw1⟩; subst hw1))
    go_ret
    exact ⟨ret_bool (by rw [HX.out, hz.out]), hfr⟩
  ·obtain rfl : j = tn.parts.length := by omega
   rw [List.take_length] at HT
   go_wp2
   go_ret
   exact ⟨ret_bool (by rw [HX.out, HT.out]), hfr⟩

set_option maxRecDepth 20000 in
set_option maxHeartbeats 4000000 in
theorem specReady_any (lo : Nat) (v1 v2 v3 : Value) (c : Co) (ss : List (List Rc)) (w : World) (hv : CoR lo w v1 v2 c) (hi : CoI c) (hsr : ShardsR lo w v3 ss) (hl : ss.length ≤ 1000) (hs : ∀ rs ∈ ss, Small rs) :
  Calls Tryz.prog 11 #[.agg #[v1, v2], v3] w fun e w' => e = .returned (.int .i64 (ready c ss)) ∧ Fr w.heap.size [] w w' := by
 obtain ⟨ta, tcap, rfl, _, _⟩ := hv.1.shape
 obtain ⟨oa, ocap, rfl, _, hocell⟩ := hv.2.shape
 obtain ⟨sa, scap, rfl, _, _⟩ := hsr.shape
 have HV := hid hv
 have HSR := hid hsr
 have HO := hid hocell
 have CI := hid hi
 have HS := hid hs
 have htl := hi.2.1
 have hol := hi.2.2
 have A0 := hid (heap_alloc_new w (.cells #[.slice ta c.txns.length tcap, .slice oa c.order.length ocap] 26))
 have FA := hid ((Fr.refl w.heap.size [] w).alloc (.cells #[.slice ta c.txns.length tcap, .slice oa c.order.length ocap] 26))
 have p0 := cell_of (o := 0) A0.out rfl
 have p1 := cell_of (o := 1) A0.out rfl
 clear hv hsr hocell hi hs
 cases g1 : coOk c
 ·have G1 := hid g1
  clear g1
  go_enter Tryz.func11, Tryz.ntmps11
  go_wp2_with (first
   | (go_at_call 29; go_must (refine (specCoValid_any lo _ _ c _ (HV.out.grow FA.out) CI.out.b).mono ?_; rintro e w1 ⟨rfl, fr1⟩; rw [G1.out]; have F1 := hid (FA.out.trans fr1.nil))))
  go_ret
  exact ⟨by unfold ready; rw [G1.out]; rfl, F1.out⟩
 ·cases g2 : shsOk ss
  ·have G1 := hid g1
   have G2 := hid g2
   clear g1 g2
   go_enter Tryz.func11, Tryz.ntmps11
   go_wp2_with (first
    | (go_at_call 29; go_must (refine (specCoValid_any lo _ _ c _ (HV.out.grow FA.out) CI.out.b).mono ?_; rintro e w1 ⟨rfl, fr1⟩; rw [G1.out]; have F1 := hid (FA.out.trans fr1.nil)))
    | (go_at_call 30; go_must (refine (l31Shards_any lo _ ss _ (HSR.out.grow F1.out) hl HS.out).mono ?_; rintro e w2 ⟨rfl, fr2⟩; rw [G2.out]; have F2 := hid (F1.out.trans fr2.nil))))
   go_ret
   exact ⟨by unfold ready; rw [G1.out, G2.out]; rfl, F2.out⟩
  ·have G1 := hid g1
   have G2 := hid g2
   have H3 := hid (show ss.length = 3 by simp [shsOk] at g2; exact g2.2)
   have RE := hid (show ready c ss = (readyN c ss : Int) by unfold ready; rw [g1, g2]; rfl)
   clear g1 g2
   go_enter Tryz.func11, Tryz.ntmps11
   go_upto_region 3 with (first
    | (go_at_call 29; go_must (refine (specCoValid_any lo _ _ c _ (HV.out.grow FA.out) CI.out.b).mono ?_; rintro e w1 ⟨rfl, fr1⟩; rw [G1.out]; have F1 := hid (FA.out.trans fr1.nil); have B1 := hid (fr1.keep _ _ A0.out (.inr (by simp)))))
    | (go_at_call 30; go_must (refine (l31Shards_any lo _ ss _ (HSR.out.grow F1.out) hl HS.out).mono ?_; rintro e w2 ⟨rfl, fr2⟩; rw [G2.out]; have F2 := hid (F1.out.trans fr2.nil); have B2 := hid (fr2.keep _ _ B1.out (.inr (by simp))))))
   clear p0 p1 A0 FA F1 B1
   go_wp2
   go_loopw [5] (fun i wr => ∃ k : Nat, k ≤ c.order.length ∧ i = .int .i64 k ∧ (c.order.take k).all (haveTx c ss) = true ∧ wr.heap[w.heap.size]? = some (.cells #[.slice ta c.txns.length tcap, .slice oa c.order.length ocap] 26 (0, 0)) ∧ Fr w.heap.size [] w wr) (fun i _ => c.order.length - (intOf i).toNat)
   case atStart => exact ⟨0, Nat.zero_le _, rfl, by simp, B2.out, F2.out⟩
   case round =>
    obtain ⟨k, hk, rfl, hto, hb, hfr⟩ := hrel
    have HT := hid hto
    have HB := hid hb
    have p0 := cell_of (o := 0) hb rfl
    have p1 := cell_of (o := 1) hb rfl
    have pl := lt_of_get hb
    clear hto hb B2 F2
    by_cases hlt : k < c.order.length
    ·have hki : (k : Int) < (c.order.length : Int) := by omega
     have hkd : decide ((k : Int) < (c.order.length : Int)) = true := by simp; omega
     rcases HO.out with h | ⟨ob, ooff, rfl, hob, hocell⟩
     ·rw [h] at hlt; simp at hlt
     have y0 := hocell k hlt
     have OA := hid (order_at G1.out (List.getElem_mem hlt))
     have AT := hid (fun h => all_take (p := haveTx c ss) hlt HT.out h)
     have AF := hid (fun h => tw_at (haveTx c ss) c.order k (List.all_eq_true.1 HT.out) hlt h)
     obtain ⟨i, hil, hxi, _⟩ := OA.out
     rw [hxi] at y0 AT AF
     have y1 := hfr.cell hob y0
     have CP := hid (coOk_parts G1.out hil)
     have CPL := hid (CI.out.1 _ (List.getElem_mem hil)).2.1
     clear hocell y0 hxi OA
     cases gh : haveTx c ss i
     ·have GV := hid gh
      clear gh
      go_wp2
      have fd := (Fr.refl w.heap.size [] wr).drew
      first
      | go_region_held3 (fun x => x.cell? ⟨w.heap.size, 0, none⟩ = some (.slice ta c.txns.length tcap) ∧ x.cell? ⟨w.heap.size, 1, none⟩ = some (.slice (some ⟨ob, ooff, none⟩) c.order.length ocap) ∧ x.cell? ⟨ob, ooff + k, none⟩ = some (.int .i64 i))
       (first
        | exact ⟨p0, p1, y1⟩
        | exact ⟨q0, q1, y2⟩
        | fail)
       (first
        | (go_at_call 31; go_must (refine (l31Have_any lo _ _ _ c ss i _ ((HV.out.grow hfr).grow fd) ((HSR.out.grow hfr).grow fd) H3.out HS.out hil (by omega) CPL.out CP.out).mono ?_; rintro e w3 ⟨rfl, fr3⟩; rw [GV.out]; have F3 := hid ((hfr.trans fd).trans fr3.nil); have B3 := hid (fr3.keep _ _ (fd.keep _ _ HB.out (.inr (by simp))) (.inr (by simp))); have q0 := cell_of (o := 0) B3.out rfl; have q1 := cell_of (o := 1) B3.out rfl; have y2 := fr3.cell (Nat.lt_of_lt_of_le hob hfr.size) y1; clear fr3)))
      | fail
      all_goals go_wp2
      go_ret
      exact ⟨ret_int (by rw [RE.out]; unfold readyN; rw [AF.out GV.out]), F3.out⟩
     ·have GV := hid gh
      clear gh
      go_wp2
      have fd := (Fr.refl w.heap.size [] wr).drew
      first
      | go_region_held3 (fun x => x.cell? ⟨w.heap.size, 0, none⟩ = some (.slice ta c.txns.length tcap) ∧ x.cell? ⟨w.heap.size, 1, none⟩ = some (.slice (some ⟨ob, ooff, none⟩) c.order.length ocap) ∧ x.cell? ⟨ob, ooff + k, none⟩ = some (.int .i64 i))
       (first
        | exact ⟨p0, p1, y1⟩
        | exact ⟨q0, q1, y2⟩
        | fail)
       (first
        | (go_at_call 31; go_must (refine (l31Have_any lo _ _ _ c ss i _ ((HV.out.grow hfr).grow fd) ((HSR.out.grow hfr).grow fd) H3.out HS.out hil (by omega) CPL.out CP.out).mono ?_; rintro e w3 ⟨rfl, fr3⟩; rw [GV.out]; have F3 := hid ((hfr.trans fd).trans fr3.nil); have B3 := hid (fr3.keep _ _ (fd.keep _ _ HB.out (.inr (by simp))) (.inr (by simp))); have q0 := cell_of (o := 0) B3.out rfl; have q1 := cell_of (o := 1) B3.out rfl; have y2 := fr3.cell (Nat.lt_of_lt_of_le hob hfr.size) y1; clear fr3)))
      | fail
      all_goals go_wp2
      go_roundw
      case rel => exact ⟨k + 1, by omega, by go_num, AT.out GV.out, B3.out, F3.out⟩
      case measure => simp [intOf]; omega
    ·obtain rfl : k = c.order.length := by omega
     rw [List.take_length] at HT
     have hki : ¬ (c.order.length : Int) < (c.order.length : Int) := by omega
     have hkd : decide ((c.order.length : Int) < (c.order.length : Int)) = false := by simp
     have RN := hid (show readyN c ss = c.order.length from tw_all _ _ (List.all_eq_true.1 HT.out))
     go_wp2
     go_quiet (fail)
     go_wp2
     go_ret
     exact ⟨ret_int (by rw [RE.out, RN.out]), hfr.drewN _⟩

end Go.Proofs.YtknoanpgadecbaaGreat
