/- The draw of a run and a transaction. -/
import Derived.Test.YtknoanpgadecbaaGreatPCoWrong2
import Derived.Test.YtknoanpgadecbaaGreatPM6
import Derived.Test.YtknoanpgadecbaaGreatPCoWValS2
set_option linter.unusedVariables false
set_option linter.unusedSimpArgs false
namespace Go.Proofs.YtknoanpgadecbaaGreat
open Go.RowKit
set_option linter.unusedVariables false

def DrawWn (w : World) (e : Ending) (w' : World) : Prop :=
 ∃ v1 v2 v3 v4 d n, e = .returned (.tuple #[.agg #[v1, v2, v3, v4], .int .i64 n]) ∧ WdR 0 w' v1 v2 v3 v4 d ∧ WdB d ∧ Fr w.heap.size [] w w' ∧ -10000 ≤ n ∧ n ≤ 10000

set_option maxRecDepth 20000 in
set_option maxHeartbeats 8000000 in
theorem drawStates_any {w : World} {a : Option Addr} {n cap : Nat} (hb : Bytes w.heap.size w a n cap) (hm : cap ≤ maxLen) :
  Calls Tryz.prog 17 #[.slice a n cap] w (DrawWn w) := by
 have F0 := hid ((Fr.refl w.heap.size [] w).alloc (.cells #[.slice none 0 0, .slice none 0 0, .slice none 0 0, .slice none 0 0] 51))
 have hsz0 : (w.alloc (.cells #[.slice none 0 0, .slice none 0 0, .slice none 0 0, .slice none 0 0] 51)).heap.size = w.heap.size + 1 := by simp
 have HB := hid (show Bytes (w.alloc (.cells #[.slice none 0 0, .slice none 0 0, .slice none 0 0, .slice none 0 0] 51)).heap.size (w.alloc (.cells #[.slice none 0 0, .slice none 0 0, .slice none 0 0, .slice none 0 0] 51)) a n cap from hb.up F0.out (by simp))
 have B0 := hid (heap_alloc_new w (.cells #[.slice none 0 0, .slice none 0 0, .slice none 0 0, .slice none 0 0] 51))
 clear hb
 go_enter Tryz.func17, Tryz.ntmps17
 go_upto_if 12 with (first
  | (go_at_call 20; go_must (refine (l6Open_any HB.out hm).mono ?_; rw [hsz0]; rintro e w0 ⟨rfl, hR0, fr0⟩; have R0 := hid (fr0.keep _ _ B0.out (.inr (by simp))); have FA := hid (F0.out.trans fr0.nil); have hl0 := hR0.lt; clear fr0))
  | (go_at_call 22; go_must (refine (l92World_any hR0 (by omega)).mono ?_; rintro e w1 ⟨v1, v2, v3, v4, d, q, rfl, wd, wi, hR1, hq, hf1⟩; have FS := hid (WdR.lower wd (Nat.zero_le _)); obtain ⟨ta, tcap, rfl, _, _⟩ := wd.1.1.shape; obtain ⟨oa, ocap, rfl, _, _⟩ := wd.1.2.shape; obtain ⟨sa, scap, rfl, _, _⟩ := wd.2.1.shape; obtain ⟨na, ncap, rfl, _, _⟩ := wd.2.2.shape; have WD := hid wd; have WI := hid wi; have F1 := hid hf1; have R1 := hid (hf1.keep _ _ R0.out (.inr (by simp [otag]))); have HQ := hid hq; have hlX := lt_of_get R1.out; have X1 := hid (heap_alloc_new w1 (.cells #[.slice ta d.co.txns.length tcap, .slice oa d.co.order.length ocap, .slice sa d.shards.length scap, .slice na d.net.length ncap] 51)); clear wd hq hf1 FS))
  | (go_at_call 23; go_must (refine (pick_at (n := 10) (hR1.alloc _) (by have := HQ.out; omega)).mono ?_; rintro e w2 ⟨k2, rfl, hk2, hR2, hf2⟩; have X2 := hid (hf2.keep _ _ X1.out (.inr (by simp [otag]))); have R2 := hid (hf2.keep _ _ (heap_up R1.out _) (.inr (by simp [otag]))); have F2 := hid ((F1.out.alloc (.cells #[.slice ta d.co.txns.length tcap, .slice oa d.co.order.length ocap, .slice sa d.shards.length scap, .slice na d.net.length ncap] 51)).trans hf2); have WD2 := hid ((WD.out.grow ((Fr.refl 0 [] w1).alloc (.cells #[.slice ta d.co.txns.length tcap, .slice oa d.co.order.length ocap, .slice sa d.shards.length scap, .slice na d.net.length ncap] 51))).tk hf2 (by simp [Apt])); clear hf2)))
 obtain ⟨X, hX⟩ : ∃ X, X = w1.heap.size := ⟨_, rfl⟩
 have hX0 : w0.heap.size ≤ X := by rw [hX]; exact F1.out.size
 rw [← hX] at X2 hlX ⊢
 clear hX X1 WD F1 R1 R0 hR0
 have x0 := cell_of (o := 0) X2.out rfl
 have x1 := cell_of (o := 1) X2.out rfl
 have x2 := cell_of (o := 2) X2.out rfl
 have x3 := cell_of (o := 3) X2.out rfl
 have xf := fun o => free_of (o := o) X2.out
 have xl := lt_of_get X2.out
 go_cut [5] (fun v wx => v = .pointer (some ⟨X, 0, none⟩) ∧ ∃ ta tn tc oa on oc sa sn sc na nn nc d q, wx.heap[w.heap.size]? = some (.cells #[.slice none 0 0, .slice none 0 0, .slice none 0 0, .slice none 0 0] 51 (0, 0)) ∧ wx.heap[X]? = some (.cells #[.slice ta tn tc, .slice oa on oc, .slice sa sn sc, .slice na nn nc] 51 (0, 0)) ∧ WdR 0 wx (.slice ta tn tc) (.slice oa on oc) (.slice sa sn sc) (.slice na nn nc) d ∧ WdB d ∧ tn ≤ 1000 ∧ Rdr (w.heap.size + 1) wx (w.heap.size + 1) q ∧ q ≤ 50000 ∧ Fr (w.heap.size + 1) [88] w0 wx)
 case first =>
  have hqq := HQ.out
  go_wp2_with (go_at_call 41; go_must (refine (l92Wrong_any hR2 (by omega)).mono ?_; rintro e w3 ⟨u1, u2, u3, u4, d3, q3, rfl, wd, wb, hR3, hq3, hf3⟩; obtain ⟨ua, uac, rfl, _, _⟩ := wd.1.1.shape; obtain ⟨ub, ubc, rfl, _, _⟩ := wd.1.2.shape; obtain ⟨uc, ucc, rfl, _, _⟩ := wd.2.1.shape; obtain ⟨ud, udc, rfl, _, _⟩ := wd.2.2.shape; have WD3 := hid (wd.lower (Nat.zero_le _)); have WB3 := hid wb; have X3 := hid (hf3.keep _ _ X2.out (.inr (by simp [otag]))); have R3 := hid (hf3.keep _ _ R2.out (.inr (by simp [otag]))); have F3 := hid (F2.out.trans hf3); have y0 := cell_of (o := 0) X3.out rfl; have y1 := cell_of (o := 1) X3.out rfl; have y2 := cell_of (o := 2) X3.out rfl; have y3 := cell_of (o := 3) X3.out rfl; have yf := fun o => free_of (o := o) X3.out; have yl := lt_of_get X3.out; clear wd wb hf3))
  all_goals go_meet
  ·have hlr : w.heap.size + 1 < X := by omega
   exact ⟨rfl, _, _, _, _, _, _, _, _, _, _, _, _, d3, q3, box4_ne R3.out (by omega), box4 X3.out, WD3.out.tk (box4_fr X3.out) (by simp [Apt]), WB3.out, by have := WB3.out.1.2.1; omega, (((hR3.setAbove (q := ⟨X, 0, none⟩) hlr).setAbove (q := ⟨X, 1, none⟩) hlr).setAbove (q := ⟨X, 2, none⟩) hlr).setAbove (q := ⟨X, 3, none⟩) hlr, by omega, box4_new F3.out hX0⟩
  ·exact ⟨rfl, _, _, _, _, _, _, _, _, _, _, _, _, d, _, R2.out, X2.out, WD2.out, WI.out.b, WI.out.len.1, hR2, by omega, F2.out⟩
 case rest =>
  obtain ⟨rfl, ta, tn, tc, oa, on, oc, sa, sn, sc, na, nn, nc, d, q, rb, xb, wd, wb, htn, hR, hq, hfr⟩ := hcut
  clear x0 x1 x2 x3 xf xl X2 R2 WD2 F2 hR2
  have RB := hid rb
  have XB := hid xb
  have WD := hid wd
  have WB := hid wb
  have HQ := hid hq
  have FR := hid hfr
  have x0 := cell_of (o := 0) xb rfl
  have x1 := cell_of (o := 1) xb rfl
  have x2 := cell_of (o := 2) xb rfl
  have x3 := cell_of (o := 3) xb rfl
  clear rb xb wd wb hq hfr
  go_wp2
  have fd := (Fr.refl 0 [] wc).drew
  have hne : X ≠ w.heap.size := by omega
  first
  | go_region_held3 (fun x => x.cell? ⟨X, 0, none⟩ = some (.slice ta tn tc) ∧ x.cell? ⟨X, 1, none⟩ = some (.slice oa on oc) ∧ x.cell? ⟨X, 2, none⟩ = some (.slice sa sn sc) ∧ x.cell? ⟨X, 3, none⟩ = some (.slice na nn nc))
   (first
    | exact ⟨x0, x1, x2, x3⟩
    | exact ⟨y0, y1, y2, y3⟩
    | exact ⟨cell_setne (cell_setne (cell_setne (cell_setne y0 hne) hne) hne) hne, cell_setne (cell_setne (cell_setne (cell_setne y1 hne) hne) hne) hne, cell_setne (cell_setne (cell_setne (cell_setne y2 hne) hne) hne) hne, cell_setne (cell_setne (cell_setne (cell_setne y3 hne) hne) hne) hne⟩
    | fail)
   (first
    | (go_at_call 42; go_must (refine (l92Of_any _ _ _ _ _ _ (hR.keep (fd.nil (B' := w.heap.size + 1) (T := [])) (by simp)) (by have := HQ.out; omega) htn).mono ?_; rintro e w4 ⟨m, q4, rfl, hR4, hq4, hf4, hm1, hm2⟩; have F4 := hid (FR.out.drew.trans hf4); have X4 := hid (hf4.keep _ _ (fd.keep _ _ XB.out (.inr (by simp))) (.inr (by simp [otag]))); have R4 := hid (hf4.keep _ _ (fd.keep _ _ RB.out (.inr (by simp))) (.inr (by simp [otag]))); have WD4 := hid ((WD.out.grow fd).tk hf4 (by simp [Apt])); have y0 := cell_of (o := 0) X4.out rfl; have y1 := cell_of (o := 1) X4.out rfl; have y2 := cell_of (o := 2) X4.out rfl; have y3 := cell_of (o := 3) X4.out rfl; have rf := fun o => free_of (o := o) R4.out; have rl := lt_of_get R4.out; have r0 := cell_of (o := 0) R4.out rfl; have r1 := cell_of (o := 1) R4.out rfl; have r2 := cell_of (o := 2) R4.out rfl; have r3 := cell_of (o := 3) R4.out rfl; clear hf4)))
  | fail
  all_goals go_wp2
  have h4 := box4 (u1 := .slice ta tn tc) (u2 := .slice oa on oc) (u3 := .slice sa sn sc) (u4 := .slice na nn nc) R4.out
  have g0 := cell_of (o := 0) h4 rfl
  have g1 := cell_of (o := 1) h4 rfl
  have g2 := cell_of (o := 2) h4 rfl
  have g3 := cell_of (o := 3) h4 rfl
  have FT := box4_fr (u1 := .slice ta tn tc) (u2 := .slice oa on oc) (u3 := .slice sa sn sc) (u4 := .slice na nn nc) R4.out
  have FB : Fr w.heap.size [] w w4 := Fr.fresh (T := [88]) ((FA.out.mono (Nat.le_refl _) (fun _ h => by simp at h)).trans (F4.out.mono (by omega) (fun _ h => h)))
  exact bodyPost_ret (v := .tuple #[.agg #[.slice ta tn tc, .slice oa on oc, .slice sa sn sc, .slice na nn nc], .int .i64 m]) (by simp [results, Tryz.results17, go_sem, g0, g1, g2, g3]) rfl
   ⟨_, _, _, _, d, m, rfl, WD4.out.tk FT (by simp [Apt]), WB.out, box4_new FB (Nat.le_refl _), hm1, hm2⟩

theorem ownv_snoc {lo j : Nat} {w : World} {v : Value} {l : List Int} {n : Int} (hl : l.length = j) (h : w.ownsRow lo 3 1 v (j + 1) (l.map (Value.int .i64) ++ [.int .i64 n])) : OwnV lo w v (l ++ [n]) := by
 subst hl
 unfold OwnV
 simpa using h

theorem wdOk_head {d : Wd} (h : wdOk d = true) : wdHead d = true := by
 unfold wdOk at h
 simp only [Bool.and_eq_true] at h
 exact h.1.1

set_option maxRecDepth 20000 in
set_option maxHeartbeats 8000000 in
theorem specStates_any (lo : Nat) (v1 v2 v3 v4 : Value) (d : Wd) (t : Int) (w : World) (hv : WdR lo w v1 v2 v3 v4 d) (hlo : lo ≤ w.heap.size) (hi : WdB d) :
  Calls Tryz.prog 19 #[.agg #[v1, v2, v3, v4], .int .i64 t] w fun e w' => ∃ v, e = .returned v ∧ OwnV w.heap.size w' v (states d t) ∧ Fr w.heap.size [] w w' := by
 obtain ⟨ta, tcap, rfl, _, htcell⟩ := hv.1.1.shape
 obtain ⟨oa, ocap, rfl, _, _⟩ := hv.1.2.shape
 obtain ⟨sa, scap, rfl, _, hscell⟩ := hv.2.1.shape
 obtain ⟨na, ncap, rfl, _, _⟩ := hv.2.2.shape
 obtain ⟨i0, hii, hz0, hz1, hz2⟩ := info_parts infoI
 have HV := hid hv
 have WB := hid hi
 have HTC := hid htcell
 have HSC := hid hscell
 have htl := hi.1.2.1
 have A0 := hid (heap_up (heap_alloc_new w (.cells #[.slice ta d.co.txns.length tcap, .slice oa d.co.order.length ocap, .slice sa d.shards.length scap, .slice na d.net.length ncap] 51)) (.cells #[] 3))
 have FA := hid (((Fr.refl w.heap.size [] w).alloc (.cells #[.slice ta d.co.txns.length tcap, .slice oa d.co.order.length ocap, .slice sa d.shards.length scap, .slice na d.net.length ncap] 51)).alloc (.cells #[] 3))
 have hs1 : (w.alloc (.cells #[.slice ta d.co.txns.length tcap, .slice oa d.co.order.length ocap, .slice sa d.shards.length scap, .slice na d.net.length ncap] 51)).heap.size = w.heap.size + 1 := by simp
 have E0 := hid (show OwnV w.heap.size ((w.alloc (.cells #[.slice ta d.co.txns.length tcap, .slice oa d.co.order.length ocap, .slice sa d.shards.length scap, .slice na d.net.length ncap] 51)).alloc (.cells #[] 3)) (.slice (some ⟨w.heap.size + 1, 0, none⟩) 0 0) [] by
  unfold OwnV
  rw [← hs1]
  exact World.ownsRow_made (w.alloc (.cells #[.slice ta d.co.txns.length tcap, .slice oa d.co.order.length ocap, .slice sa d.shards.length scap, .slice na d.net.length ncap] 51)) #[] 0 (by omega) (by decide) (by simp))
 have p0 := cell_of (o := 0) A0.out rfl
 have p1 := cell_of (o := 1) A0.out rfl
 have p2 := cell_of (o := 2) A0.out rfl
 have p3 := cell_of (o := 3) A0.out rfl
 have iw : IntKind.i64.wrap ((d.co.txns.length : Int) - 1) = (d.co.txns.length : Int) - 1 := by rw [IntKind.wrap_i64]; omega
 clear hv hi htcell hscell hs1
 cases g1 : wdOk d
 ·have G1 := hid g1
  have hz := hid (show states d t = [] by unfold states statesOk; rw [g1]; rfl)
  clear g1
  go_enter Tryz.func19, Tryz.ntmps19
  go_wp2_with (go_at_call 44; go_must (refine (specWdValid_any lo _ _ _ _ d _ (HV.out.grow FA.out) (by simp; omega) WB.out).mono ?_; rintro e w1 ⟨rfl, fr1⟩; rw [G1.out]; have F1 := hid (FA.out.trans fr1.nil); have B1 := hid (fr1.keep _ _ A0.out (.inr (by simp))); have E1 := hid (E0.out.grow fr1); have q0 := cell_of (o := 0) B1.out rfl; have q2 := cell_of (o := 2) B1.out rfl))
  go_ret
  exact ⟨_, rfl, by rw [hz.out]; exact E1.out, F1.out⟩
 cases g2 : inR t 0 ((d.co.txns.length : Int) - 1)
 ·have G1 := hid g1
  have G2 := hid g2
  have hz := hid (show states d t = [] by unfold states statesOk; rw [g2]; simp)
  clear g1 g2
  go_enter Tryz.func19, Tryz.ntmps19
  go_wp2_with (first
   | (go_at_call 44; go_must (refine (specWdValid_any lo _ _ _ _ d _ (HV.out.grow FA.out) (by simp; omega) WB.out).mono ?_; rintro e w1 ⟨rfl, fr1⟩; rw [G1.out]; have F1 := hid (FA.out.trans fr1.nil); have B1 := hid (fr1.keep _ _ A0.out (.inr (by simp))); have E1 := hid (E0.out.grow fr1); have q0 := cell_of (o := 0) B1.out rfl; have q2 := cell_of (o := 2) B1.out rfl))
   | (go_at_call 39; go_must (refine (l6In_any _ _ _ _).mono ?_; rintro e w4 ⟨rfl, hw4⟩; rw [G2.out]; subst hw4)))
  go_ret
  exact ⟨_, rfl, by rw [hz.out]; exact E1.out, F1.out⟩
 ·have G1 := hid g1
  have G2 := hid g2
  have hin := inR_iff.1 g2
  obtain ⟨k, rfl⟩ := Int.eq_ofNat_of_zero_le hin.1
  have hkl : k < d.co.txns.length := by have := hin.2; omega
  have hki : (k : Int) < (d.co.txns.length : Int) := by omega
  have HH := hid (wdHead_of (wdOk_head g1))
  have ST := hid (show states d (k : Int) = d.co.txns[k].parts.map fun p => ask (shAt d.shards p.shard) (k : Int) by unfold states statesOk statesOf; rw [g1, g2]; simp [List.getElem?_eq_getElem hkl])
  have CP := hid (coOk_parts HH.out.1 hkl)
  have PL := hid (WB.out.1.1 _ (List.getElem_mem hkl)).2.1
  rcases HTC.out with h | ⟨tb, toff, rfl, htb, htcell⟩
  ·rw [h] at hkl; simp at hkl
  obtain ⟨pa, pcap, va, vcap, x0, x1, x2, hpp, hvv⟩ := htcell k hkl
  obtain ⟨pa', pcap', hpe, _, hpc⟩ := hpp.shape
  cases hpe
  have HPC := hid hpc
  have X0 := hid x0
  clear g1 g2 hin htcell x0 x1 x2 hpp hvv hpc
  generalize d.co.txns[k] = tn at *
  go_enter Tryz.func19, Tryz.ntmps19
  go_upto_region 5 with (first
   | (go_at_call 44; go_must (refine (specWdValid_any lo _ _ _ _ d _ (HV.out.grow FA.out) (by simp; omega) WB.out).mono ?_; rintro e w1 ⟨rfl, fr1⟩; rw [G1.out]; have F1 := hid (FA.out.trans fr1.nil); have B1 := hid (fr1.keep _ _ A0.out (.inr (by simp))); have E1 := hid (E0.out.grow fr1); have x9 := F1.out.cell htb X0.out; have q0 := cell_of (o := 0) B1.out rfl; have q2 := cell_of (o := 2) B1.out rfl))
   | (go_at_call 39; go_must (refine (l6In_any _ _ _ _).mono ?_; rintro e w4 ⟨rfl, hw4⟩; rw [G2.out]; subst hw4)))
  clear p0 p1 p2 p3 q0 q2 x9 A0 FA E0
  go_wp2
  go_loopw [5, 7] (fun v i wr => ∃ j : Nat, j ≤ tn.parts.length ∧ i = .int .i64 j ∧ OwnV w.heap.size wr v ((tn.parts.take j).map fun p => ask (shAt d.shards p.shard) (k : Int)) ∧ wr.heap[w.heap.size]? = some (.cells #[.slice (some ⟨tb, toff, none⟩) d.co.txns.length tcap, .slice oa d.co.order.length ocap, .slice sa d.shards.length scap, .slice na d.net.length ncap] 51 (0, 0)) ∧ Fr w.heap.size [] w wr) (fun _ i _ => tn.parts.length - (intOf i).toNat)
  case atStart => exact ⟨0, Nat.zero_le _, rfl, by simpa using E1.out, B1.out, F1.out⟩
  case round =>
   obtain ⟨j, hj, rfl, hov, hb, hfr⟩ := hrel
   have OV := hid hov
   have HB := hid hb
   have p2 := cell_of (o := 2) hb rfl
   have pl := lt_of_get hb
   have hjl : (tn.parts.take j).length = j := by rw [List.length_take]; omega
   have hov2 := hov
   unfold OwnV at hov2
   rw [List.length_map, hjl] at hov2
   obtain ⟨oa', ocap', rfl⟩ := own_any hov2
   have OV2 := hid hov2
   clear hov hov2 hb E1 B1 F1 hjl
   by_cases hlt : j < tn.parts.length
   ·have hji : (j : Int) < (tn.parts.length : Int) := by omega
    rcases HPC.out with h | ⟨pb, poff, rfl, hpb, hpcell⟩
    ·rw [h] at hlt; simp at hlt
    obtain ⟨ua, ucap, y0, _, _⟩ := hpcell j hlt
    obtain ⟨g3, g4⟩ := CP.out _ (List.getElem_mem hlt)
    have TK := hid (show (tn.parts.take (j + 1)).map (fun p => ask (shAt d.shards p.shard) (k : Int)) = (tn.parts.take j).map (fun p => ask (shAt d.shards p.shard) (k : Int)) ++ [ask (shAt d.shards tn.parts[j].shard) (k : Int)] by rw [List.take_succ_eq_append_getElem hlt, List.map_append]; rfl)
    obtain ⟨x, hx⟩ := Int.eq_ofNat_of_zero_le g3
    rw [hx] at y0 TK g4
    have hxl : x < d.shards.length := by have := HH.out.2.1; omega
    have hxi : (x : Int) < (d.shards.length : Int) := by omega
    rcases HSC.out with h | ⟨sb, soff, rfl, hsb, hscell⟩
    ·rw [h] at hxl; simp at hxl
    obtain ⟨ra, rcap, z0, hr⟩ := hscell x hxl
    have Y0 := hid y0
    have Z0 := hid z0
    have y1 := hfr.cell hpb y0
    have z1 := hfr.cell hsb z0
    have HR := hid hr
    have SM := hid (WB.out.2.2.1 _ (List.getElem_mem hxl)).small.1
    have hsx : shAt d.shards (x : Int) = d.shards[x] := by simp [shAt, List.getElem?_eq_getElem hxl]
    rw [hsx] at TK
    clear hpcell hscell y0 z0 hr hx hsx g3
    generalize d.shards[x] = rs at *
    have PJ := hid (show ((tn.parts.take j).map fun p => ask (shAt d.shards p.shard) (k : Int)).length = j by rw [List.length_map, List.length_take]; omega)
    have hpl2 := PL.out
    go_wp2
    have fd := (Fr.refl wr.heap.size [] wr).drew
    first
    | go_region_held3 (fun X => X.cell? ⟨w.heap.size, 2, none⟩ = some (.slice (some ⟨sb, soff, none⟩) d.shards.length scap) ∧ X.cell? ⟨pb, poff + j * 2, none⟩ = some (.int .i64 x) ∧ X.cell? ⟨sb, soff + x, none⟩ = some (.slice ra rs.length rcap))
     (first
      | exact ⟨p2, y1, z1⟩
      | exact ⟨cell_alloc p2, cell_alloc y1, cell_alloc z1⟩
      | exact ⟨t0, y2, z2⟩
      | fail)
     (first
      | (go_at_call 45; go_must (refine (l21Ask_any (new lo) _ rs _ _ ((HR.out.grow hfr).grow fd) SM.out).mono ?_; rintro e w6 ⟨rfl, hw6⟩; subst hw6))
      | (refine step_ap rfl (.tmp 36) (.tmp 49) 24 rfl w.heap.size 3 i0 (.int .i64 0) 1 8 Tryz.underlying24 hii hz0 hz1 hz2 rfl (by decide) (.slice oa' j ocap') j (((tn.parts.take j).map fun p => ask (shAt d.shards p.shard) (k : Int)).map (Value.int .i64)) (by rfl) (ownsRow_grow (ownsRow_grow OV2.out fd) ((Fr.refl 0 [] wr.drew).alloc (.cells #[.int .i64 (ask rs (k : Int))] 3))) (new wr.drew.heap.size) 3 _ 1 [.int .i64 (ask rs (k : Int))] (by rfl) (SlR.lit rfl) (oneCell_int _) (by unfold maxLen; omega) (by omega) (by have := hfr.size; simp; omega) ?_; intro v7 w7 own7 fr7; obtain ⟨a7, cap7, rfl⟩ := own_any own7; have OWN7 := hid own7; have F7 := hid (((hfr.trans (fd.nil (B' := w.heap.size) (T := []))).alloc (.cells #[.int .i64 (ask rs (k : Int))] 3)).after fr7); have B7 := hid (fr7.keep _ _ (heap_up ((fd.keep _ _ HB.out (.inr (by simp)))) _) (.inr (by simp [otag]))); have t0 := cell_of (o := 2) B7.out rfl; have y2 := F7.out.cell hpb Y0.out; have z2 := F7.out.cell hsb Z0.out; clear own7 fr7))
    | fail
    all_goals go_wp2
    go_roundw
    case rel => exact ⟨j + 1, by omega, by go_num, by rw [TK.out]; exact ownv_snoc PJ.out OWN7.out, B7.out, F7.out⟩
    case measure => simp [intOf]; omega
   ·obtain rfl : j = tn.parts.length := by omega
    go_wp2
    go_ret
    refine ⟨_, rfl, ?_, hfr⟩
    have := OV.out
    rw [List.take_length] at this
    rw [ST.out]
    simpa using this

end Go.Proofs.YtknoanpgadecbaaGreat
