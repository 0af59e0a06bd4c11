/- The program's WorldStates. -/
import Derived.Test.YtknoanpgadecbaaGreatPCoWValI
import Derived.Test.YtknoanpgadecbaaGreatPM12
import Derived.Test.YtknoanpgadecbaaGreatPM6
import Derived.Test.YtknoanpgadecbaaGreatPM3
set_option linter.unusedVariables false
set_option linter.unusedSimpArgs false
namespace Go.Proofs.YtknoanpgadecbaaGreat
open Go.RowKit
set_option linter.unusedVariables false

theorem wd12 {d : Wd} (h : coOk d.co = true) {k : Nat} (hk : k < d.co.txns.length) : inR (k : Int) 0 11 = true := by
 have := coOk_small h
 rw [inR_iff]; omega

set_option maxRecDepth 20000 in
set_option maxHeartbeats 8000000 in
theorem implStates_any (lo : Nat) (v1 v2 v3 v4 : Value) (d : Wd) (t : Int) (w : World) (hv : WdR lo w v1 v2 v3 v4 d) (hi : WdB d) :
  Calls Tryz.prog 18 #[.agg #[v1, v2, v3, v4], .int .i64 t] w fun e w' => ∃ v, e = .returned v ∧ OwnV w.heap.size w' v (states d t) ∧ Fr w.heap.size [] w w' := by
 obtain ⟨ta, tcap, rfl, _, htcell⟩ := hv.1.1.shape
 obtain ⟨oa, ocap, rfl, _, _⟩ := hv.1.2.shape
 obtain ⟨sa, scap, rfl, _, hscell⟩ := hv.2.1.shape
 obtain ⟨na, ncap, rfl, _, _⟩ := hv.2.2.shape
 obtain ⟨i0, hii, hz0, hz1, hz2⟩ := info_parts infoI
 have HV := hid hv
 have WB := hid hi
 have HTC := hid htcell
 have HSC := hid hscell
 have htl := hi.1.2.1
 have A0 := hid (heap_alloc_new w (.cells #[.slice ta d.co.txns.length tcap, .slice oa d.co.order.length ocap, .slice sa d.shards.length scap, .slice na d.net.length ncap] 51))
 have FA := hid ((Fr.refl w.heap.size [] w).alloc (.cells #[.slice ta d.co.txns.length tcap, .slice oa d.co.order.length ocap, .slice sa d.shards.length scap, .slice na d.net.length ncap] 51))
 have E0 := hid (show OwnV w.heap.size (w.alloc (.cells #[.slice ta d.co.txns.length tcap, .slice oa d.co.order.length ocap, .slice sa d.shards.length scap, .slice na d.net.length ncap] 51)) (.slice none 0 0) [] from World.ownsRow_nil _ _ _ _)
 have p0 := cell_of (o := 0) A0.out rfl
 have p1 := cell_of (o := 1) A0.out rfl
 have p2 := cell_of (o := 2) A0.out rfl
 have p3 := cell_of (o := 3) A0.out rfl
 have iw : IntKind.i64.wrap ((d.co.txns.length : Int) - 1) = (d.co.txns.length : Int) - 1 := by rw [IntKind.wrap_i64]; omega
 clear hv hi htcell hscell
 cases g1 : wdOk d
 ·have G1 := hid g1
  have hz := hid (show states d t = [] by unfold states statesOk; rw [g1]; rfl)
  clear g1
  go_enter Tryz.func18, Tryz.ntmps18
  go_wp2_with (go_at_call 43; go_must (refine (implWdValid_any lo _ _ _ _ d _ (HV.out.grow FA.out) WB.out).mono ?_; rintro e w1 ⟨rfl, fr1⟩; rw [G1.out]; have F1 := hid (FA.out.trans fr1.nil); have B1 := hid (fr1.keep _ _ A0.out (.inr (by simp))); have E1 := hid (E0.out.grow fr1); have q0 := cell_of (o := 0) B1.out rfl; have q2 := cell_of (o := 2) B1.out rfl))
  go_ret
  exact ⟨_, rfl, by rw [hz.out]; exact E1.out, F1.out⟩
 cases g2 : inR t 0 ((d.co.txns.length : Int) - 1)
 ·have G1 := hid g1
  have G2 := hid g2
  have hz := hid (show states d t = [] by unfold states statesOk; rw [g2]; simp)
  clear g1 g2
  go_enter Tryz.func18, Tryz.ntmps18
  go_wp2_with (first
   | (go_at_call 43; go_must (refine (implWdValid_any lo _ _ _ _ d _ (HV.out.grow FA.out) WB.out).mono ?_; rintro e w1 ⟨rfl, fr1⟩; rw [G1.out]; have F1 := hid (FA.out.trans fr1.nil); have B1 := hid (fr1.keep _ _ A0.out (.inr (by simp))); have E1 := hid (E0.out.grow fr1); have q0 := cell_of (o := 0) B1.out rfl; have q2 := cell_of (o := 2) B1.out rfl))
   | (go_at_call 34; go_must (refine (inRange_any _ _ _ _).mono ?_; rintro e w4 ⟨rfl, hw4⟩; rw [G2.out]; subst hw4)))
  go_ret
  exact ⟨_, rfl, by rw [hz.out]; exact E1.out, F1.out⟩
 ·have G1 := hid g1
  have G2 := hid g2
  have hin := inR_iff.1 g2
  obtain ⟨k, rfl⟩ := Int.eq_ofNat_of_zero_le hin.1
  have hkl : k < d.co.txns.length := by have := hin.2; omega
  have hki : (k : Int) < (d.co.txns.length : Int) := by omega
  have HH := hid (wdHead_of (wdOk_head g1))
  have ST := hid (show states d (k : Int) = d.co.txns[k].parts.map fun p => ask (shAt d.shards p.shard) (k : Int) by unfold states statesOk statesOf; rw [g1, g2]; simp [List.getElem?_eq_getElem hkl])
  have CP := hid (coOk_parts HH.out.1 hkl)
  have PL := hid (WB.out.1.1 _ (List.getElem_mem hkl)).2.1
  rcases HTC.out with h | ⟨tb, toff, rfl, htb, htcell⟩
  ·rw [h] at hkl; simp at hkl
  obtain ⟨pa, pcap, va, vcap, x0, x1, x2, hpp, hvv⟩ := htcell k hkl
  obtain ⟨pa', pcap', hpe, _, hpc⟩ := hpp.shape
  cases hpe
  have HPC := hid hpc
  have X0 := hid x0
  clear g1 g2 hin htcell x0 x1 x2 hpp hvv hpc
  generalize d.co.txns[k] = tn at *
  go_enter Tryz.func18, Tryz.ntmps18
  go_upto_region 4 with (first
   | (go_at_call 43; go_must (refine (implWdValid_any lo _ _ _ _ d _ (HV.out.grow FA.out) WB.out).mono ?_; rintro e w1 ⟨rfl, fr1⟩; rw [G1.out]; have F1 := hid (FA.out.trans fr1.nil); have B1 := hid (fr1.keep _ _ A0.out (.inr (by simp))); have E1 := hid (E0.out.grow fr1); have x9 := F1.out.cell htb X0.out; have q0 := cell_of (o := 0) B1.out rfl; have q2 := cell_of (o := 2) B1.out rfl))
   | (go_at_call 34; go_must (refine (inRange_any _ _ _ _).mono ?_; rintro e w4 ⟨rfl, hw4⟩; rw [G2.out]; subst hw4)))
  clear p0 p1 p2 p3 A0 FA E0
  go_wp2
  clear q0 q2 x9
  go_loopw [5, 29] (fun v i wr => ∃ j : Nat, j ≤ tn.parts.length ∧ i = .int .i64 j ∧ OwnV w.heap.size wr v ((tn.parts.take j).map fun p => ask (shAt d.shards p.shard) (k : Int)) ∧ wr.heap[w.heap.size]? = some (.cells #[.slice (some ⟨tb, toff, none⟩) d.co.txns.length tcap, .slice oa d.co.order.length ocap, .slice sa d.shards.length scap, .slice na d.net.length ncap] 51 (0, 0)) ∧ Fr w.heap.size [] w wr) (fun _ i _ => tn.parts.length - (intOf i).toNat)
  case atStart => exact ⟨0, Nat.zero_le _, rfl, E1.out, B1.out, F1.out⟩
  case round =>
   obtain ⟨j, hj, rfl, hov, hb, hfr⟩ := hrel
   have OV := hid hov
   have HB := hid hb
   have p2 := cell_of (o := 2) hb rfl
   have pl := lt_of_get hb
   have hjl : (tn.parts.take j).length = j := by rw [List.length_take]; omega
   have hov2 := hov
   unfold OwnV at hov2
   rw [List.length_map, hjl] at hov2
   obtain ⟨oa', ocap', rfl⟩ := own_any hov2
   have OV2 := hid hov2
   clear hov hov2 hb E1 B1 F1 hjl
   by_cases hlt : j < tn.parts.length
   ·have hji : (j : Int) < (tn.parts.length : Int) := by omega
    rcases HPC.out with h | ⟨pb, poff, rfl, hpb, hpcell⟩
    ·rw [h] at hlt; simp at hlt
    obtain ⟨ua, ucap, y0, yy0, _⟩ := hpcell j hlt
    obtain ⟨g3, g4⟩ := CP.out _ (List.getElem_mem hlt)
    have TK := hid (show (tn.parts.take (j + 1)).map (fun p => ask (shAt d.shards p.shard) (k : Int)) = (tn.parts.take j).map (fun p => ask (shAt d.shards p.shard) (k : Int)) ++ [ask (shAt d.shards tn.parts[j].shard) (k : Int)] by rw [List.take_succ_eq_append_getElem hlt, List.map_append]; rfl)
    obtain ⟨x, hx⟩ := Int.eq_ofNat_of_zero_le g3
    rw [hx] at y0 TK g4
    have hxl : x < d.shards.length := by have := HH.out.2.1; omega
    have hxi : (x : Int) < (d.shards.length : Int) := by omega
    rcases HSC.out with h | ⟨sb, soff, rfl, hsb, hscell⟩
    ·rw [h] at hxl; simp at hxl
    obtain ⟨ra, rcap, z0, hr⟩ := hscell x hxl
    have Y0 := hid y0
    have Z0 := hid z0
    have y1 := hfr.cell hpb y0
    have yy1 := hfr.cell hpb yy0
    have z1 := hfr.cell hsb z0
    have HR := hid hr
    have SM := hid (WB.out.2.2.1 _ (List.getElem_mem hxl)).small
    have CN := hid (WB.out.2.2.1 _ (List.getElem_mem hxl)).2
    have HE := hid (show (if valid d.shards[x] && inR (k : Int) 0 11 then ask d.shards[x] (k : Int) else -1) = ask d.shards[x] (k : Int) by rw [HH.out.2.2.1 _ (List.getElem_mem hxl), wd12 HH.out.1 hkl]; rfl)
    have hsx : shAt d.shards (x : Int) = d.shards[x] := by simp [shAt, List.getElem?_eq_getElem hxl]
    rw [hsx] at TK
    clear hpcell hscell y0 yy0 z0 hr hx hsx g3
    generalize d.shards[x] = rs at *
    have PJ := hid (show ((tn.parts.take j).map fun p => ask (shAt d.shards p.shard) (k : Int)).length = j by rw [List.length_map, List.length_take]; omega)
    have hpl2 := PL.out
    generalize tn.parts[j] = pj at *
    have FP := hid ((Fr.refl wr.heap.size [] wr).alloc (.cells #[.int .i64 (x : Int), .slice ua pj.ups.length ucap] 40))
    have PB := hid (heap_alloc_new wr (.cells #[.int .i64 (x : Int), .slice ua pj.ups.length ucap] 40))
    have z3 := FP.out.cell (Nat.lt_of_lt_of_le hsb hfr.size) z1
    go_wp2_with (first
     | (go_at_call 12; go_must (refine (implShardAsk_any (new lo) _ rs _ _ ((HR.out.grow hfr).grow FP.out) SM.out CN.out).mono ?_; rintro e w6 ⟨rfl, fr6⟩; rw [HE.out]; have F6 := hid (hfr.trans (FP.out.trans fr6.nil).nil); have FX := hid (FP.out.trans fr6.nil); have hs6 := F6.out.size))
     | (at_builtin; go_must (refine wpList_ap rfl (.tmp 33) (.tmp 42) 24 rfl w.heap.size 3 i0 (.int .i64 0) 1 8 Tryz.underlying24 hii hz0 hz1 hz2 rfl (by decide) (.slice oa' j ocap') j (((tn.parts.take j).map fun p => ask (shAt d.shards p.shard) (k : Int)).map (Value.int .i64)) (by rfl) (ownsRow_grow (ownsRow_grow OV2.out FX.out) ((Fr.refl 0 [] w6).alloc (.cells #[.int .i64 (ask rs (k : Int))] 3))) (new w6.heap.size) 3 _ 1 [.int .i64 (ask rs (k : Int))] (by rfl) (SlR.lit rfl) (oneCell_int _) (by unfold maxLen; omega) (by omega) (by simp; omega) ?_; intro v7 w7 own7 gr7 _; obtain ⟨a7, cap7, rfl⟩ := own_any own7; have OWN7 := hid own7; have FR7 := hid (Fr.ofOwnGrown (ownsRow_grow (ownsRow_grow OV2.out FX.out) ((Fr.refl 0 [] w6).alloc (.cells #[.int .i64 (ask rs (k : Int))] 3))) gr7 (Nat.le_refl _) (List.mem_singleton.2 rfl)); have F7 := hid ((F6.out.alloc (.cells #[.int .i64 (ask rs (k : Int))] 3)).after FR7.out); have B7 := hid (FR7.out.keep _ _ (heap_up (FX.out.keep _ _ HB.out (.inr (by simp))) _) (.inr (by simp [otag]))); clear own7 gr7)))
    go_roundw
    case rel => exact ⟨j + 1, by omega, by go_num, by rw [TK.out]; exact ownv_snoc PJ.out OWN7.out, B7.out, F7.out⟩
    case measure => simp [intOf]; omega
   ·obtain rfl : j = tn.parts.length := by omega
    go_wp2
    go_ret
    refine ⟨_, rfl, ?_, hfr⟩
    have := OV.out
    rw [List.take_length] at this
    rw [ST.out]
    simpa using this

theorem states_some {d : Wd} {t : Int} (h : states d t ≠ []) : ∃ k : Nat, t = (k : Int) ∧ ∃ hk : k < d.co.txns.length, coOk d.co = true ∧ d.shards.length = 3 ∧ (∀ rs ∈ d.shards, valid rs = true) ∧ states d t = d.co.txns[k].parts.map fun p => ask (shAt d.shards p.shard) (k : Int) := by
 unfold states at h ⊢
 split at h
 ·rename_i hs
  rw [if_pos hs]
  unfold statesOk at hs
  rw [Bool.and_eq_true] at hs
  obtain ⟨h1, h2, h3, h4⟩ := wdHead_of (wdOk_head hs.1)
  have h5 := inR_iff.1 hs.2
  obtain ⟨k, rfl⟩ := Int.eq_ofNat_of_zero_le h5.1
  have hk : k < d.co.txns.length := by omega
  refine ⟨k, rfl, hk, h1, h2, h3, ?_⟩
  unfold statesOf
  rw [show ((k : Int).toNat) = k from rfl, List.getElem?_eq_getElem hk]
 ·exact absurd rfl h

theorem states_len {d : Wd} (h : WdB d) (t : Int) : (states d t).length ≤ 1000 := by
 by_cases h0 : states d t = []
 ·rw [h0]; exact Nat.zero_le _
 ·obtain ⟨k, rfl, hk, _, _, _, e⟩ := states_some h0
  rw [e, List.length_map]
  exact (h.1.1 _ (List.getElem_mem hk)).2.1

set_option maxRecDepth 20000 in
set_option maxHeartbeats 8000000 in
theorem worldStates_walk {w : World} {a : Option Addr} {n cap : Nat} (hb : Bytes w.heap.size w a n cap) (hm : cap ≤ maxLen) :
  Calls Tryz.prog 8 #[.slice a n cap] w fun e w' => e = .returned (.bool true) ∧ Fr w.heap.size [] w w' := by
 have HB := hid hb
 clear hb
 by_cases hn1 : n ≤ 1048576
 ·have in1 : ¬ (1048576 : Int) < (n : Int) := by omega
  go_enter Tryz.func8, Tryz.ntmps8
  go_upto_region 4 with (go_at_call 17; go_must (refine (drawStates_any HB.out hm).mono ?_; rintro e w1 ⟨v1, v2, v3, v4, d, t, rfl, wd, wb, fr1, ht1, ht2⟩; have WD := hid wd; have WB := hid wb; have F1 := hid fr1; obtain ⟨ta, tcap, rfl, _, htc⟩ := wd.1.1.shape; have HTC := hid htc; obtain ⟨oa, ocap, rfl, _, _⟩ := wd.1.2.shape; obtain ⟨sa, scap, rfl, _, hsc⟩ := wd.2.1.shape; have HSC := hid hsc; obtain ⟨na, ncap, rfl, _, _⟩ := wd.2.2.shape; clear wd wb fr1 htc hsc))
  have GW := hid ((Fr.refl w1.heap.size [] w1).alloc (.cells #[.slice ta d.co.txns.length tcap, .slice oa d.co.order.length ocap, .slice sa d.shards.length scap, .slice na d.net.length ncap] 51))
  have A1 := hid (heap_alloc_new w1 (.cells #[.slice ta d.co.txns.length tcap, .slice oa d.co.order.length ocap, .slice sa d.shards.length scap, .slice na d.net.length ncap] 51))
  have p0 := cell_of (o := 0) A1.out rfl
  have p1 := cell_of (o := 1) A1.out rfl
  have p2 := cell_of (o := 2) A1.out rfl
  have p3 := cell_of (o := 3) A1.out rfl
  have IST := hid (fun (W : World) (hw : Fr 0 [] w1 W) => implStates_any 0 _ _ _ _ d t W (WD.out.grow hw) WB.out)
  have SST := hid (fun (W : World) (hw : Fr 0 [] w1 W) => specStates_any 0 _ _ _ _ d t W (WD.out.grow hw) (Nat.zero_le _) WB.out)
  have LL := hid (states_len WB.out t)
  have SO := hid (fun h => states_some (d := d) (t := t) h)
  obtain ⟨L, hL⟩ : ∃ L, L = states d t := ⟨_, rfl⟩
  rw [← hL] at IST SST LL SO
  clear hL
  go_upto_region 6 with (first
   | (go_at_call 18; go_must (refine (IST.out _ GW.out.nil).mono ?_; rintro e w2 ⟨v5, rfl, own5, fr2⟩; obtain ⟨a5, c5, rfl⟩ := own_any own5; have I5 := hid own5.reads; have F2 := hid (GW.out.trans fr2.nil); have A2 := hid (fr2.keep _ _ A1.out (.inr (by simp))); have q0 := cell_of (o := 0) A2.out rfl; have q1 := cell_of (o := 1) A2.out rfl; have q2 := cell_of (o := 2) A2.out rfl; have q3 := cell_of (o := 3) A2.out rfl; clear own5 fr2))
   | (go_at_call 19; go_must (refine (SST.out _ F2.out.nil).mono ?_; rintro e w3 ⟨v6, rfl, own6, fr3⟩; obtain ⟨a6, c6, rfl⟩ := own_any own6; have I6 := hid own6.reads; have I56 := hid (I5.out.grow fr3); have F3 := hid (F2.out.trans fr3.nil); have A3 := hid (fr3.keep _ _ A2.out (.inr (by simp))); have r0 := cell_of (o := 0) A3.out rfl; clear own6 fr3)))
  have hl9 : L.length ≤ 1000000000 := by have := LL.out; omega
  clear p0 p1 p2 p3 q0 q1 q2 q3 r0 A1 A2 F2 I5 IST SST
  by_cases hL0 : L = []
  ·have i0 : ((L.length : Int) == 0) = true := by rw [hL0]; rfl
   clear hL0
   go_wp2_with (first
    | (go_at_call 16; (with_reducible refine (sameInts_eq _ _ _ _ L _ I56.out I6.out hl9).mono ?_); go_must (rintro e w4 ⟨rfl, fr4⟩; have F4 := hid (F3.out.trans fr4.nil); have J5 := hid (I56.out.grow fr4); have J6 := hid (I6.out.grow fr4); clear fr4))
    | (go_at_call 16; go_must (refine (sameInts_eq _ _ _ _ L _ J5.out J6.out hl9).mono ?_; rintro e w5 ⟨rfl, fr5⟩; have F5 := hid (F4.out.trans fr5.nil); clear fr5)))
   go_ret
   exact ⟨rfl, F1.out.trans F5.out.nil⟩
  ·have hL1 : L.length ≠ 0 := fun h => hL0 (List.eq_nil_of_length_eq_zero h)
   have i0 : ((L.length : Int) == 0) = false := by simp; omega
   obtain ⟨k, rfl, hk, hok, h3, hval, hLE⟩ := SO.out hL0
   have CP := hid (coOk_parts hok hk)
   have PL := hid (WB.out.1.1 _ (List.getElem_mem hk)).2.1
   have TW := hid (wd12 hok hk)
   have VA := hid hval
   have H3 := hid h3
   have LE := hid hLE
   have hki : (k : Int) < (d.co.txns.length : Int) := by omega
   rcases HTC.out with h | ⟨tb, toff, rfl, htb, htcell⟩
   ·rw [h] at hk; simp at hk
   obtain ⟨pa, pcap, va, vcap, x0, x1, x2, hpp, hvv⟩ := htcell k hk
   obtain ⟨pa', pcap', hpe, _, hpc⟩ := hpp.shape
   cases hpe
   have HPC := hid hpc
   have X0 := hid x0
   have y0 := F3.out.cell htb x0
   have r0 := cell_of (o := 0) A3.out rfl
   obtain ⟨_, _, e5, _, hc5⟩ := I56.out.shape
   cases e5
   have C5 := hid hc5
   clear hL0 hL1 hok h3 hval hLE htcell x0 x1 x2 hpp hvv hpc hc5 SO
   generalize d.co.txns[k] = tn at *
   go_upto_region 8 with (go_at_call 16; (with_reducible refine (sameInts_eq _ _ _ _ L _ I56.out I6.out hl9).mono ?_); go_must (rintro e w4 ⟨rfl, fr4⟩; have FF := hid fr4; have F4 := hid (F3.out.trans fr4.nil); have A4 := hid (fr4.keep _ _ A3.out (.inr (by simp))); have s0 := cell_of (o := 0) A4.out rfl; have s1 := F4.out.cell htb X0.out; clear fr4))
   have LEL := hid (show L.length = tn.parts.length by rw [LE.out, List.length_map])
   have hpl := PL.out
   clear r0 y0 A3 F3 I56 I6
   go_wp2
   clear s0 s1
   go_loopw [8] (fun i wr => ∃ j : Nat, j ≤ tn.parts.length ∧ i = .int .i64 j ∧ wr.heap[w1.heap.size]? = some (.cells #[.slice (some ⟨tb, toff, none⟩) d.co.txns.length tcap, .slice oa d.co.order.length ocap, .slice sa d.shards.length scap, .slice na d.net.length ncap] 51 (0, 0)) ∧ Fr w1.heap.size [] w1 wr ∧ Fr 0 [] w3 wr) (fun i _ => tn.parts.length - (intOf i).toNat)
   case atStart => exact ⟨0, Nat.zero_le _, rfl, A4.out, F4.out, FF.out.nil⟩
   case round =>
    clear A4 F4 FF
    obtain ⟨j, hj, rfl, hb, hfr, hf3⟩ := hrel
    have HBR := hid hb
    have p2 := cell_of (o := 2) hb rfl
    have hbl := lt_of_get hb
    clear hb
    by_cases hlj : j < tn.parts.length
    ·have hji : (j : Int) < (tn.parts.length : Int) := by omega
     have hjL : j < L.length := by have := LEL.out; omega
     have hjiL : (j : Int) < (L.length : Int) := by omega
     rcases HPC.out with h | ⟨pb, poff, rfl, hpb, hpcell⟩
     ·rw [h] at hlj; simp at hlj
     rcases C5.out with h | ⟨ob, ooff, rfl, hob, hocell⟩
     ·rw [h] at hjL; simp at hjL
     obtain ⟨ua, ucap, y0, _, _⟩ := hpcell j hlj
     have z0 := hocell j hjL
     obtain ⟨g3, g4⟩ := CP.out _ (List.getElem_mem hlj)
     obtain ⟨x, hx⟩ := Int.eq_ofNat_of_zero_le g3
     rw [hx] at y0 g4
     have hxl : x < d.shards.length := by have := H3.out; omega
     have hxi : (x : Int) < (d.shards.length : Int) := by omega
     rcases HSC.out with h | ⟨sb, soff, rfl, hsb, hscell⟩
     ·rw [h] at hxl; simp at hxl
     obtain ⟨ra, rcap, u0, hr⟩ := hscell x hxl
     have EL : L[j] = ask d.shards[x] (k : Int) := by
      have : L[j] = ask (shAt d.shards tn.parts[j].shard) (k : Int) := by simp only [LE.out, List.getElem_map]
      rw [this, hx]
      simp [shAt, List.getElem?_eq_getElem hxl]
     rw [EL] at z0
     have SM := hid (WB.out.2.2.1 _ (List.getElem_mem hxl)).small
     have CN := hid (WB.out.2.2.1 _ (List.getElem_mem hxl)).2
     have HE := hid (show (if valid d.shards[x] && inR (k : Int) 0 11 then ask d.shards[x] (k : Int) else -1) = ask d.shards[x] (k : Int) by rw [VA.out _ (List.getElem_mem hxl), TW.out]; rfl)
     have y1 := hfr.cell hpb y0
     have z1 := (hf3.nil (B' := w3.heap.size) (T := [])).cell hob z0
     have u1 := hfr.cell hsb u0
     have HR := hid (hr.grow hfr)
     have hpb' := Nat.lt_of_lt_of_le hpb hfr.size
     have hsb' := Nat.lt_of_lt_of_le hsb hfr.size
     have hob' := Nat.lt_of_lt_of_le hob hf3.size
     clear hpcell hocell hscell y0 z0 u0 hr hx g3 EL
     generalize d.shards[x] = rs at *
     go_wp2
     have fd := (Fr.refl wr.heap.size [] wr).drew
     first
     | go_region_held3 (fun z => z.cell? ⟨w1.heap.size, 2, none⟩ = some (.slice (some ⟨sb, soff, none⟩) d.shards.length scap) ∧ z.cell? ⟨ob, ooff + j, none⟩ = some (.int .i64 (ask rs (k : Int))) ∧ z.cell? ⟨pb, poff + j * 2, none⟩ = some (.int .i64 (x : Int)) ∧ z.cell? ⟨sb, soff + x, none⟩ = some (.slice ra rs.length rcap))
      (first
       | exact ⟨p2, z1, y1, u1⟩
       | exact r0
       | fail)
      (first
       | (go_at_call 12; go_must (refine (implShardAsk_any _ _ rs (k : Int) _ (HR.out.grow fd) SM.out CN.out).mono ?_; rintro e w5 ⟨rfl, fr5⟩; rw [HE.out]; have FF := hid (fd.nil.trans (fr5.nil (B' := 0) (T := []))); have r0 := (⟨fr5.cell hbl (fd.cell hbl p2), fr5.cell hob' (fd.cell hob' z1), fr5.cell hpb' (fd.cell hpb' y1), fr5.cell hsb' (fd.cell hsb' u1)⟩ : (w5.cell? ⟨w1.heap.size, 2, none⟩ = some (.slice (some ⟨sb, soff, none⟩) d.shards.length scap) ∧ w5.cell? ⟨ob, ooff + j, none⟩ = some (.int .i64 (ask rs (k : Int))) ∧ w5.cell? ⟨pb, poff + j * 2, none⟩ = some (.int .i64 (x : Int)) ∧ w5.cell? ⟨sb, soff + x, none⟩ = some (.slice ra rs.length rcap)))))
       | fail)
     | fail
     all_goals go_wp2
     go_roundw
     case rel => exact ⟨j + 1, by omega, by go_num, FF.out.keep _ _ HBR.out (.inr (by simp)), hfr.trans FF.out.nil, hf3.trans FF.out⟩
     case measure => simp [intOf]; omega
    ·obtain rfl : j = tn.parts.length := by omega
     have i9 : ((L.length : Int) == (tn.parts.length : Int)) = true := by have := LEL.out; simp; omega
     have e9 := LEL.out
     clear e9
     go_wp2
     go_ret
     exact ⟨ret_bool (by simp [LEL.out]), F1.out.trans hfr.nil⟩
 ·have in1 : (1048576 : Int) < (n : Int) := by omega
  go_enter Tryz.func8, Tryz.ntmps8
  go_wp2
  go_ret
  exact ⟨rfl, Fr.refl _ _ _⟩

end Go.Proofs.YtknoanpgadecbaaGreat
