/- The program's SnapshotRefs. -/
import Derived.Test.YtknoanpgadecbaaGreatQM11
import Derived.Test.YtknoanpgadecbaaGreatQCoSnapI
import Derived.Deep.RegionHeld3
set_option linter.unusedVariables false
set_option linter.unusedSimpArgs false
namespace Go.Proofs.YtknoanpgadecbaaGreat
open Go.RowKit
set_option linter.unusedVariables false

def fillL (k : Nat) : List Int := ((tab0.take k).flatten ++ [0, 0, 0, 0, 0, 0, 0, 0, 0, 0, 0, 0].drop (4 * k))

theorem tabs_zero (c : Co) (ss : List (List Rc)) : fillL 3 = (tabs c ss 0).flatten := rfl

theorem blk_set4 {w : World} {X e o : Nat} {L : List Int} (h : w.heap[X]? = some (.cells (row4 L []) e (0, 0))) (ho : o + 4 ≤ L.length) (a b c d : Int) :
  ((((w.setCell ⟨X, o, none⟩ (.int .i64 a)).setCell ⟨X, o + 1, none⟩ (.int .i64 b)).setCell ⟨X, o + 2, none⟩ (.int .i64 c)).setCell ⟨X, o + 3, none⟩ (.int .i64 d)).heap[X]? = some (.cells (row4 ((((L.set o a).set (o + 1) b).set (o + 2) c).set (o + 3) d) []) e (0, 0)) := by
 have h1 := (block_set h o (.int .i64 a)).trans (by rw [row4_set (by omega)])
 have h2 := (block_set h1 (o + 1) (.int .i64 b)).trans (by rw [row4_set (by simp; omega)])
 have h3 := (block_set h2 (o + 2) (.int .i64 c)).trans (by rw [row4_set (by simp; omega)])
 exact (block_set h3 (o + 3) (.int .i64 d)).trans (by rw [row4_set (by simp; omega)])

theorem fr_set4 {w w' : World} {B X o : Nat} (h : Fr B [] w w') (hX : w.heap.size ≤ X) (a b c d : Value) :
  Fr B [] w ((((w'.setCell ⟨X, o, none⟩ a).setCell ⟨X, o + 1, none⟩ b).setCell ⟨X, o + 2, none⟩ c).setCell ⟨X, o + 3, none⟩ d) :=
 (((h.setNew (p := ⟨X, o, none⟩) hX a).setNew (p := ⟨X, o + 1, none⟩) hX b).setNew (p := ⟨X, o + 2, none⟩) hX c).setNew (p := ⟨X, o + 3, none⟩) hX d

theorem blk_ne4 {w : World} {X o b : Nat} {x : Obj} (h : w.heap[b]? = some x) (hb : b ≠ X) (a c d e : Value) :
  ((((w.setCell ⟨X, o, none⟩ a).setCell ⟨X, o + 1, none⟩ c).setCell ⟨X, o + 2, none⟩ d).setCell ⟨X, o + 3, none⟩ e).heap[b]? = some x :=
 block_setne (block_setne (block_setne (block_setne h hb) hb) hb) hb

theorem row_read {K : Nat → Bool → Prop} {w : World} {X e k : Nat} {T : List (List Int)} {l : List Int} (h : w.heap[X]? = some (.cells (row4 T.flatten []) e (0, 0))) (hT : Tab T) (hk : k < 3) (hl : T.getD k [] = l) (hK : K X true) :
  SlR K e 1 w (.slice (some ⟨X, k * 4, none⟩) 4 4) 4 (l.map (Value.int .i64)) := by
 have h4 := hT.four.at (s := k) (by rw [hT.len]; exact hk)
 rw [hl] at h4
 refine ⟨_, 4, rfl, by simp [h4], Nat.le_refl _, (fun h => by cases h), fun _ => ⟨X, k * 4, _, _, _, rfl, by simpa using hK, h, fun j u hu => ?_⟩⟩
 rw [List.getElem?_map] at hu
 obtain ⟨x, hx, rfl⟩ := Option.map_eq_some_iff.1 hu
 have hj : j < 4 := by
  have := (List.getElem?_eq_some_iff.1 hx).1
  omega
 have hf := flat_get hT.four (s := k) (by rw [hT.len]; exact hk) hj
 rw [hl, hx] at hf
 unfold row4
 rw [List.getElem?_toArray, List.append_nil, List.getElem?_map, Nat.mul_comm k 4, hf]
 rfl

set_option maxRecDepth 20000 in
set_option maxHeartbeats 8000000 in
theorem implRefs_any (lo : Nat) (v1 v2 sv : Value) (c : Co) (ss : List (List Rc)) (n : Int) (w : World) (hv : CoR lo w v1 v2 c) (hi : CoI c) (hsr : ShardsR lo w sv ss) (hl : ss.length ≤ 1000) (hs : ∀ rs ∈ ss, Small rs ∧ NC rs) :
  Calls Tryz.prog 14 #[.agg #[v1, v2], sv, .int .i64 n] w fun e w' => ∃ v, e = .returned (.tuple #[v, .bool (snapOk c ss n)]) ∧ MatOwn w.heap.size w' v (if snapOk c ss n then snapTo c ss n.toNat 3 else []) ∧ Fr w.heap.size [] w w' := by
 obtain ⟨ta, tcap, rfl, _, htcell⟩ := hv.1.shape
 obtain ⟨oa, ocap, rfl, hocap, hocell⟩ := hv.2.shape
 obtain ⟨sa, scap, rfl, _, hscell⟩ := hsr.shape
 obtain ⟨il, hli, hlz0, hlz1, hlz2⟩ := info_parts infoL
 have HV := hid hv
 have HSR := hid hsr
 have CI := hid hi
 have HS := hid hs
 have HSC := hid hscell
 have HTC := hid htcell
 have HO := hid hocell
 have htl := hi.2.1
 have hol := hi.2.2
 have A0 := hid (heap_alloc_new w (.cells #[.slice ta c.txns.length tcap, .slice oa c.order.length ocap] 26))
 have FA := hid ((Fr.refl w.heap.size [] w).alloc (.cells #[.slice ta c.txns.length tcap, .slice oa c.order.length ocap] 26))
 have p0 := cell_of (o := 0) A0.out rfl
 have p1 := cell_of (o := 1) A0.out rfl
 clear hv hsr hi hs hscell htcell hocell
 cases g1 : snapOk c ss n
 ·have G1 := hid (show inR n 0 (ready c ss) = false from g1)
  clear g1
  go_enter Tryz.func14, Tryz.ntmps14
  go_wp2_with (first
   | (go_at_call 10; go_must (refine (implReady_any lo _ _ _ c ss _ (HV.out.grow FA.out) (HSR.out.grow FA.out) CI.out hl HS.out).mono ?_; rintro e w1 ⟨rfl, fr1⟩; have F1 := hid (FA.out.trans fr1.nil)))
   | (go_at_call 34; go_must (refine (inRange_any _ _ _ _).mono ?_; rintro e w2 ⟨rfl, hw2⟩; rw [G1.out]; subst hw2)))
  go_ret2
  exact ⟨_, rfl, ⟨[], rfl, World.ownsRow_nil _ _ _ _, fun z hz => by cases hz⟩, F1.out⟩
 ·have G1 := hid (show inR n 0 (ready c ss) = true from g1)
  have hn := inR_iff.1 G1.out
  obtain ⟨m, rfl⟩ := Int.eq_ofNat_of_zero_le hn.1
  have RO := hid (ready_ok (c := c) (ss := ss) (by omega))
  have HM := hid (show m ≤ c.order.length by have h1 := hn.2; rw [RO.out.2.2.2] at h1; have := tw_le (haveTx c ss) c.order; unfold readyN at h1; omega)
  have hmk := makeTabs
  clear g1 hn
  go_enter Tryz.func14, Tryz.ntmps14
  go_upto_region 4 with (first
   | (go_at_call 10; go_must (refine (implReady_any lo _ _ _ c ss _ (HV.out.grow FA.out) (HSR.out.grow FA.out) CI.out hl HS.out).mono ?_; rintro e w1 ⟨rfl, fr1⟩; have F1 := hid (FA.out.trans fr1.nil); have A1 := hid (fr1.keep _ _ A0.out (.inr (by simp)))))
   | (go_at_call 34; go_must (refine (inRange_any _ _ _ _).mono ?_; rintro e w2 ⟨rfl, hw2⟩; rw [G1.out]; subst hw2)))
  have F1' := hid (F1.out.alloc (.cells (row4 [0, 0, 0, 0, 0, 0, 0, 0, 0, 0, 0, 0] []) 73))
  have TB := hid (show (w1.alloc (.cells (row4 [0, 0, 0, 0, 0, 0, 0, 0, 0, 0, 0, 0] []) 73)).heap[w1.heap.size]? = some (.cells (row4 (fillL 0) []) 73 (0, 0)) from heap_alloc_new w1 _)
  have A2 := hid (heap_up A1.out (.cells (row4 [0, 0, 0, 0, 0, 0, 0, 0, 0, 0, 0, 0] []) 73))
  have XW := F1.out.size
  have XO := hid (show w1.heap.size ≠ w.heap.size by have := lt_of_get A1.out; omega)
  obtain ⟨X, hX⟩ : ∃ X, X = w1.heap.size := ⟨_, rfl⟩
  rw [← hX] at TB XW XO ⊢
  clear hmk p0 p1 A0 FA fr1 A1 F1 hX
  go_wp2
  go_loopw [25] (fun i wr => ∃ k : Nat, k ≤ 3 ∧ i = .int .i64 k ∧ wr.heap[X]? = some (.cells (row4 (fillL k) []) 73 (0, 0)) ∧ wr.heap[w.heap.size]? = some (.cells #[.slice ta c.txns.length tcap, .slice oa c.order.length ocap] 26 (0, 0)) ∧ Fr w.heap.size [] w wr) (fun i _ => 3 - (intOf i).toNat)
  case atStart => exact ⟨0, by omega, rfl, TB.out, A2.out, F1'.out⟩
  case round =>
   clear TB A2 F1'
   obtain ⟨k, hk, rfl, hT, hB, hfr⟩ := hrel
   have HT := hid hT
   have HB := hid hB
   clear hT hB
   by_cases hlt : k < 3
   ·have hki : (k : Int) < 3 := by omega
    have hfl : (fillL k).length = 12 := by
     obtain rfl | rfl | rfl : k = 0 ∨ k = 1 ∨ k = 2 := by omega
     all_goals rfl
    have FS := hid (show ((((fillL k).set (k * 4) (-1)).set (k * 4 + 1) (-1)).set (k * 4 + 2) (-1)).set (k * 4 + 3) (-1) = fillL (k + 1) by
     obtain rfl | rfl | rfl : k = 0 ∨ k = 1 ∨ k = 2 := by omega
     all_goals rfl)
    have g0 := hid (row4_get (tl := []) (l := fillL k) (j := k * 4) (by omega))
    have g1 := hid (row4_get (tl := []) (l := fillL k) (j := k * 4 + 1) (by omega))
    have g2 := hid (row4_get (tl := []) (l := fillL k) (j := k * 4 + 2) (by omega))
    have g3 := hid (row4_get (tl := []) (l := fillL k) (j := k * 4 + 3) (by omega))
    go_wp2_with (go_at_call 35; go_must (refine (noRefs_any _).mono ?_; rintro e w4 ⟨rfl, fr4⟩; have T4 := hid (fr4.keep _ _ HT.out (.inr (by simp))); have B4 := hid (fr4.keep _ _ HB.out (.inr (by simp))); have F4 := hid (hfr.trans fr4.nil); have q0 := cell_of T4.out g0.out; have q1 := cell_of T4.out g1.out; have q2 := cell_of T4.out g2.out; have q3 := cell_of T4.out g3.out; have f0 := free_of (o := k * 4) T4.out; have f1 := free_of (o := k * 4 + 1) T4.out; have f2 := free_of (o := k * 4 + 2) T4.out; have f3 := free_of (o := k * 4 + 3) T4.out; have hX4 := lt_of_get T4.out))
    go_roundw
    case rel => exact ⟨k + 1, by omega, by go_num, (blk_set4 T4.out (by omega) _ _ _ _).trans (by rw [FS.out]), blk_ne4 B4.out XO.out.symm _ _ _ _, fr_set4 F4.out XW _ _ _ _⟩
    case measure => simp [intOf]; omega
   ·have K3 := hid (show k = 3 by omega)
    have hk3 : ¬ (k : Int) < 3 := by omega
    rw [K3.out, tabs_zero c ss] at HT
    obtain ⟨k0, hk0⟩ : ∃ k0, k0 = k := ⟨_, rfl⟩
    rw [← hk0] at hk3 ⊢
    clear hk hlt K3 hk0
    have i2 : (m : Int) ≤ (ocap : Int) := by have := HM.out; omega
    obtain ⟨wo, rfl⟩ : ∃ wo : World, wo = wr := ⟨_, rfl⟩
    have p0 := cell_of (o := 0) HB.out rfl
    have p1 := cell_of (o := 1) HB.out rfl
    go_wp2
    go_loopw [38] (fun i wr => ∃ k : Nat, k ≤ m ∧ i = .int .i64 k ∧ wr.heap[X]? = some (.cells (row4 (tabs c ss k).flatten []) 73 (0, 0)) ∧ wr.heap[w.heap.size]? = some (.cells #[.slice ta c.txns.length tcap, .slice oa c.order.length ocap] 26 (0, 0)) ∧ Fr w.heap.size [] w wr) (fun i _ => m - (intOf i).toNat)
    case atStart => exact ⟨0, Nat.zero_le _, rfl, HT.out, HB.out, hfr⟩
    case round =>
     clear p0 p1 HT HB hfr
     obtain ⟨k, hk, rfl, hT, hB, hfr⟩ := hrel
     have HT := hid hT
     have HB := hid hB
     have p0 := cell_of (o := 0) hB rfl
     have p1 := cell_of (o := 1) hB rfl
     have hBl := lt_of_get hB
     clear hT hB
     by_cases hlt : k < m
     ·have hki : (k : Int) < (m : Int) := by omega
      have hlo : k < c.order.length := by have := HM.out; omega
      rcases HO.out with h | ⟨ob, ooff, rfl, hob, hocell⟩
      ·rw [h] at hlo; simp at hlo
      have y0 := hocell k hlo
      have OA := order_at RO.out.1 (List.getElem_mem hlo)
      have TSU := tabs_succ (ss := ss) hlo
      obtain ⟨i, hil, hxi, _⟩ := OA
      rw [hxi] at y0 TSU
      rw [tabTx_at hil] at TSU
      have y1 := hfr.cell hob y0
      have TK := hid (tabs_ok RO.out.1 ss k (by omega)).1
      have CP := hid (coOk_parts RO.out.1 hil)
      have CPL := (CI.out.1 _ (List.getElem_mem hil)).2.1
      rcases HTC.out with h | ⟨tb, toff, rfl, htb, htcell⟩
      ·rw [h] at hil; simp at hil
      obtain ⟨pa, pcap, va, vcap, x0, x1, x2, xp, xv⟩ := htcell i hil
      have d0 := hfr.cell htb x0
      have XP := hid xp
      have hii : (i : Int) < (c.txns.length : Int) := by omega
      have TS := hid TSU
      clear hocell y0 hxi htcell x0 x1 x2 xp xv TSU
      generalize c.txns[i] = T at *
      obtain ⟨wo, rfl⟩ : ∃ wo : World, wo = wr := ⟨_, rfl⟩
      go_wp2
      go_loopw [49] (fun jj wi => ∃ j : Nat, j ≤ T.parts.length ∧ jj = .int .i64 j ∧ wi.heap[X]? = some (.cells (row4 (tabParts ss (i : Int) T.parts (tabs c ss k) j).flatten []) 73 (0, 0)) ∧ wi.heap[w.heap.size]? = some (.cells #[.slice (some ⟨tb, toff, none⟩) c.txns.length tcap, .slice (some ⟨ob, ooff, none⟩) c.order.length ocap] 26 (0, 0)) ∧ Fr w.heap.size [] w wi) (fun jj _ => T.parts.length - (intOf jj).toNat)
      case atStart => exact ⟨0, Nat.zero_le _, rfl, HT.out, HB.out, hfr⟩
      case round =>
       clear p0 p1 y1 d0 HT HB hfr hBl
       obtain ⟨j, hj, rfl, hT, hB, hfr⟩ := hrel
       have HT := hid hT
       have HB := hid hB
       have hXl := lt_of_get hT
       have hBl := lt_of_get hB
       clear hT hB
       by_cases hlj : j < T.parts.length
       ·have hji : (j : Int) < (T.parts.length : Int) := by omega
        obtain ⟨pa', pcap', e, _, hpc⟩ := XP.out.shape
        cases e
        rcases hpc with h | ⟨pb, poff, rfl, hpb, hpc⟩
        ·rw [h] at hlj; simp at hlj
        obtain ⟨ua, ucap, z0, z1, zu⟩ := hpc j hlj
        have PP := CP.out _ (List.getElem_mem hlj)
        have PS := tabParts_succ (ss := ss) (t := (i : Int)) (T := tabs c ss k) hlj
        obtain ⟨s, hs⟩ : ∃ s : Nat, T.parts[j].shard = s := ⟨T.parts[j].shard.toNat, by omega⟩
        have hs3 : s < ss.length := by have := RO.out.2.1; omega
        have hs3' : s < 3 := by omega
        have hsi : (s : Int) < (ss.length : Int) := by omega
        have hsj : (s : Int) < 3 := by omega
        have TPJ : Tab (tabParts ss (i : Int) T.parts (tabs c ss k) j) := TK.out.parts ss _ _ fun p hp => CP.out p (List.mem_of_mem_take hp)
        rcases HSC.out with h | ⟨sb, soff, rfl, hsb, hsc⟩
        ·rw [h] at hs3; simp at hs3
        obtain ⟨ra, rcap, w0, wr0⟩ := hsc s hs3
        have hva := RO.out.2.2.1 _ (List.getElem_mem hs3)
        have SM := hid (HS.out _ (List.getElem_mem hs3)).1
        have UO := hid (upsOf_ok hva (i : Int))
        have UL := hid (upsOf_small SM.out (i : Int))
        have hsx : shAt ss (s : Int) = ss[s] := by simp [shAt, List.getElem?_eq_getElem hs3]
        have NX : (tabParts ss (i : Int) T.parts (tabs c ss k) (j + 1)).flatten = offAll (tabParts ss (i : Int) T.parts (tabs c ss k) j).flatten (s * 4) (upsOf ss[s] (i : Int)) := by
         rw [PS]
         unfold tabPart offAll
         rw [hs, show ((s : Int).toNat) = s from rfl, hsx, Nat.mul_comm s 4, off_flat TPJ.four (by rw [TPJ.len]; exact hs3') UO.out _ (Nat.le_refl _)]
         rfl
        have TL : s * 4 + 4 ≤ (tabParts ss (i : Int) T.parts (tabs c ss k) j).flatten.length := by rw [flat_len TPJ.four, TPJ.len]; omega
        have HN := hid NX
        have HTL := hid TL
        have HRo := hid ((wr0.weak (K' := old w.heap.size) (fun b t hb _ => hb)).grow hfr)
        rw [hs] at z0
        have e0 := hfr.cell hpb z0
        have e1 := hfr.cell hpb z1
        have e2 := hfr.cell hsb w0
        have hsb' := Nat.lt_of_lt_of_le hsb hfr.size
        clear hpc z0 z1 zu hsc w0 wr0 hva PP hs PS TPJ hsx NX TL
        obtain ⟨L, hL⟩ : ∃ L, L = (tabParts ss (i : Int) T.parts (tabs c ss k) j).flatten := ⟨_, rfl⟩
        rw [← hL] at HN HTL HT
        clear hL
        generalize ss[s] = rs at *
        obtain ⟨us, hus⟩ : ∃ us, us = upsOf rs (i : Int) := ⟨_, rfl⟩
        have US := hid hus
        rw [← hus] at HN UO UL
        clear hus
        generalize T.parts[j] = p at *
        go_wp2
        obtain ⟨V, hV⟩ : ∃ V : World, V = wr.alloc (.cells #[.int .i64 (s : Int), .slice ua p.ups.length ucap] 40) := ⟨_, rfl⟩
        have FV := hid (show Fr wr.heap.size [] wr V by rw [hV]; exact (Fr.refl _ _ _).alloc _)
        have BV := hid (show V.heap[wr.heap.size]? = some (.cells #[.int .i64 (s : Int), .slice ua p.ups.length ucap] 40 (0, 0)) by rw [hV]; exact heap_alloc_new _ _)
        rw [← hV]
        have v0 := cell_of (o := 0) BV.out rfl
        have v2 := FV.out.cell hsb' e2
        have hVs := FV.out.size
        have hVl := lt_of_get BV.out
        have hsV : sb < V.heap.size := by omega
        have nX : wr.heap.size ≠ X := by omega
        have nS : sb ≠ X := by omega
        have fd := hid (Fr.refl V.heap.size [] V).drew
        clear hV e0 e1 e2
        first
        | go_region_held3 (fun z => z.cell? ⟨wr.heap.size, 0, none⟩ = some (.int .i64 (s : Int)) ∧ z.cell? ⟨sb, soff + s, none⟩ = some (.slice ra rs.length rcap))
         (first
          | exact ⟨v0, v2⟩
          | exact r0
          | exact t0
          | fail)
         (first
          | (go_at_call 37; go_must (refine (recorded_any (old w.heap.size) _ rs (i : Int) _ ((HRo.out.grow FV.out).grow fd.out) SM.out).mono ?_; rintro e w5 ⟨u5, rfl, hu5, fr5⟩; rw [← US.out] at hu5; obtain ⟨a5, c5, rfl, _, _⟩ := hu5.shape; have HU5 := hid (hu5.weak (K' := old X) (fun b t _ hb => Nat.lt_of_lt_of_le hb XW)); have F5 := hid (hfr.trans ((FV.out.trans fd.out.nil).trans fr5.nil).nil); have T5 := hid (fr5.keep _ _ (fd.out.keep _ _ (FV.out.keep _ _ HT.out (.inr (by simp))) (.inr (by simp))) (.inr (by simp))); have B5 := hid (fr5.keep _ _ (fd.out.keep _ _ (FV.out.keep _ _ HB.out (.inr (by simp))) (.inr (by simp))) (.inr (by simp))); have r0 := (⟨fr5.cell hVl (fd.out.cell hVl v0), fr5.cell hsV (fd.out.cell hsV v2)⟩ : (w5.cell? ⟨wr.heap.size, 0, none⟩ = some (.int .i64 (s : Int)) ∧ w5.cell? ⟨sb, soff + s, none⟩ = some (.slice ra rs.length rcap))); clear hu5 fr5))
          | (go_at_call 36; go_must (refine (tabSetAt_any X 73 (s * 4) _ L us _ T5.out HTL.out HU5.out UL.out UO.out).mono ?_; rintro e w6 ⟨rfl, ht6, fb6⟩; have T6 := hid ht6; have B6 := hid (fb6.keep _ _ B5.out XO.out.symm); have F6 := hid (F5.out.after (fb6.toFr (T := [73]) T5.out XW (by simp [otag]))); have t0 := (⟨fb6.cell nX r0.1, fb6.cell nS r0.2⟩ : (w6.cell? ⟨wr.heap.size, 0, none⟩ = some (.int .i64 (s : Int)) ∧ w6.cell? ⟨sb, soff + s, none⟩ = some (.slice ra rs.length rcap))); clear ht6 fb6))
          | fail)
        | fail
        all_goals go_wp2
        go_roundw
        case rel => exact ⟨j + 1, by omega, by go_num, by rw [HN.out]; exact T6.out, B6.out, F6.out⟩
        case measure => simp [intOf]; omega
       ·obtain rfl : j = T.parts.length := by omega
        rw [← TS.out] at HT
        go_wp2
        go_roundw
        case rel => exact ⟨k + 1, by omega, by go_num, HT.out, HB.out, hfr⟩
        case measure => simp [intOf]; omega
     ·obtain rfl : k = m := by omega
      have TM := hid (tabs_ok RO.out.1 ss k HM.out)
      have SN := hid (tabs_snap RO.out.1 ss HM.out)
      obtain ⟨wo, rfl⟩ : ∃ wo : World, wo = wr := ⟨_, rfl⟩
      go_wp2
      go_loopw [14, 69] (fun v i wr => ∃ j : Nat, j ≤ 3 ∧ i = .int .i64 j ∧ MatOwn w.heap.size wr v (snapTo c ss k j) ∧ wr.heap[X]? = some (.cells (row4 (tabs c ss k).flatten []) 73 (0, 0)) ∧ Fr w.heap.size [] w wr) (fun _ i _ => 3 - (intOf i).toNat)
      case atStart => exact ⟨0, Nat.zero_le _, rfl, ⟨[], rfl, World.ownsRow_nil _ _ _ _, fun z hz => by cases hz⟩, HT.out, hfr⟩
      case round =>
       clear p0 p1 hBl HT HB hfr
       obtain ⟨j, hj, rfl, hmo, hT, hfr⟩ := hrel
       have HT := hid hT
       have MO := hid hmo
       obtain ⟨zs, z1, z2, z3⟩ := hmo
       rw [snapTo_len] at z2
       obtain ⟨oa', ocap', rfl⟩ := own_any z2
       have Z1 := hid z1
       have Z2 := hid z2
       have Z3 := hid z3
       clear z1 z2 z3 hT
       by_cases hlj : j < 3
       ·have hji : (j : Int) < 3 := by omega
        have ROW := hid (row_read (K := fun _ _ => True) HT.out TM.out.1 hlj (TM.out.2 j hlj) trivial)
        have ST := hid (snapTo_succ c ss k j)
        obtain ⟨l, hl'⟩ : ∃ l, l = refsTo c (shAt ss (j : Int)) (j : Int) k := ⟨_, rfl⟩
        have L4 := hid (show l.length = 4 by rw [hl']; exact refsTo_len _ _ _ _)
        rw [← hl'] at ROW ST
        clear hl'
        have hso := hfr.size
        go_wp2_with (first
         | (go_at_call 38; go_must (refine (cloneI_any (fun _ _ => True) 73 _ 4 _ _ ROW.out (oneI _) (by decide)).mono ?_; rintro e w5 ⟨v5, rfl, own5, fr5⟩; obtain ⟨a5, c5, rfl⟩ := own_any own5; have R5 := hid (show IntsR (new w.heap.size) w5 (.slice a5 4 c5) l from by unfold IntsR; rw [L4.out]; exact (SlR.ofOwns own5).weak (new_low hso)); have F5 := hid (hfr.trans fr5.nil); have T5 := hid (fr5.keep _ _ HT.out (.inr (by simp))); have FZ := hid fr5; have hs5 := fr5.size; clear own5 fr5))
         | (at_builtin; go_must (have FL := hid ((Fr.refl 0 [] w5).alloc (.cells #[.slice a5 4 c5] 24)); refine wpList_ap rfl (.tmp 72) (.tmp 78) 44 rfl w.heap.size 24 il (.slice none 0 0) 1 24 Tryz.underlying44 hli hlz0 hlz1 hlz2 rfl (by decide) (.slice oa' j ocap') j (zs.map (·.2)) (by rfl) (ownsRow_grow (ownsRow_grow Z2.out FZ.out) FL.out) (new w5.heap.size) 24 _ 1 [.slice a5 4 c5] (by rfl) (SlR.lit rfl) (oneSl _ _ _) (by unfold maxLen; omega) (by omega) (by simp; omega) ?_; intro v7 w7 own7 gr7 _; obtain ⟨a7, c7, rfl⟩ := own_any own7; have OWN7 := hid own7; have FR7 := hid (Fr.ofOwnGrown (ownsRow_grow (ownsRow_grow Z2.out FZ.out) FL.out) gr7 (Nat.le_refl _) (List.mem_singleton.2 rfl)); clear own7 gr7)))
        have EN := MatOwn.snoc (lo := w.heap.size) (l := l) Z1.out (fun z hz => (((Z3.out z hz).grow FZ.out).grow FL.out).keep FR7.out (Safe.new (by simp))) ((R5.out.grow FL.out).keep FR7.out (Safe.new (by simp))) (snapTo_len _ _ _ _).symm (by rw [L4.out] at *; exact OWN7.out)
        go_roundw
        case rel => exact ⟨j + 1, by omega, by go_num, by rw [ST.out]; exact EN, FR7.out.keep _ _ (FL.out.keep _ _ T5.out (.inr (by simp))) (.inr (by simp [otag])), (F5.out.trans FL.out.nil).after FR7.out⟩
        case measure => simp [intOf]; omega
       ·obtain rfl : j = 3 := by omega
        go_wp2
        go_ret2
        exact ⟨_, rfl, MO.out, hfr⟩

end Go.Proofs.YtknoanpgadecbaaGreat
