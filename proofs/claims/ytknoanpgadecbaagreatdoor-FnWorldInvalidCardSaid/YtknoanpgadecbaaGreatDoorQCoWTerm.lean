/- The reference's l51Term. -/
import Derived.Test.YtknoanpgadecbaaGreatDoorQM10
set_option linter.unusedVariables false
set_option linter.unusedSimpArgs false
namespace Go.Proofs.YtknoanpgadecbaaGreatDoor
open Go.RowKit
set_option linter.unusedVariables false

set_option maxRecDepth 20000 in
set_option maxHeartbeats 8000000 in
theorem l51Term_any (lo : Nat) (v1 v2 v3 v4 : Value) (d : Wd) (k : Nat) (w : World) (hv : WdR lo w v1 v2 v3 v4 d) (hlo : lo ≤ w.heap.size) (hi : WdI d) (hk : k < d.co.txns.length) :
  Calls Tryz.prog 160 #[.agg #[v1, v2, v3, v4], .int .i64 k] w (WdOut lo w) := by
 obtain ⟨ta, tcap, rfl, _, htc⟩ := hv.1.1.shape
 obtain ⟨oa, ocap, rfl, _, _⟩ := hv.1.2.shape
 obtain ⟨sa, scap, rfl, _, hsc⟩ := hv.2.1.shape
 obtain ⟨na, ncap, rfl, hnc, _⟩ := hv.2.2.shape
 obtain ⟨is, his, hsz0, hsz1, hsz2⟩ := info_parts infoS
 rcases htc with h | ⟨b, off, rfl, hbs, hcell⟩
 ·rw [h] at hk; simp at hk
 have h3 := hi.2.1
 rcases hsc with h | ⟨sb, soff, rfl, hsb, hscell⟩
 ·rw [h] at h3; simp at h3
 obtain ⟨pa, pcap, va, vcap, x0, x1, x2, hpp, hvv⟩ := hcell k hk
 have hki : (k : Int) < (d.co.txns.length : Int) := by omega
 have HV := hid hv
 have WI := hid hi
 have HPP := hid hpp
 have SC := hid hscell
 have H3 := hid h3
 have TI := hid (hi.1.1 _ (List.getElem_mem hk))
 clear hcell hpp hvv hv hi hscell h3 x1 x2
 generalize d.co.txns[k] = t at *
 have hpl := TI.out.2.1
 have FA := hid ((((Fr.refl w.heap.size [] w).alloc (.cells #[.slice (some ⟨b, off, none⟩) d.co.txns.length tcap, .slice oa d.co.order.length ocap, .slice (some ⟨sb, soff, none⟩) d.shards.length scap, .slice na d.net.length ncap] 30)).alloc (.cells #[.slice none 0 0, .slice none 0 0, .slice none 0 0, .slice none 0 0] 30)).alloc (.cells #[] 81))
 have B0 := hid (heap_up (heap_up (heap_alloc_new w (.cells #[.slice (some ⟨b, off, none⟩) d.co.txns.length tcap, .slice oa d.co.order.length ocap, .slice (some ⟨sb, soff, none⟩) d.shards.length scap, .slice na d.net.length ncap] 30)) (.cells #[.slice none 0 0, .slice none 0 0, .slice none 0 0, .slice none 0 0] 30)) (.cells #[] 81))
 have B1 := hid (show (((w.alloc (.cells #[.slice (some ⟨b, off, none⟩) d.co.txns.length tcap, .slice oa d.co.order.length ocap, .slice (some ⟨sb, soff, none⟩) d.shards.length scap, .slice na d.net.length ncap] 30)).alloc (.cells #[.slice none 0 0, .slice none 0 0, .slice none 0 0, .slice none 0 0] 30)).alloc (.cells #[] 81)).heap[w.heap.size + 1]? = some (.cells #[.slice none 0 0, .slice none 0 0, .slice none 0 0, .slice none 0 0] 30 (0, 0)) by
  have := heap_up (heap_alloc_new (w.alloc (.cells #[.slice (some ⟨b, off, none⟩) d.co.txns.length tcap, .slice oa d.co.order.length ocap, .slice (some ⟨sb, soff, none⟩) d.shards.length scap, .slice na d.net.length ncap] 30)) (.cells #[.slice none 0 0, .slice none 0 0, .slice none 0 0, .slice none 0 0] 30)) (.cells #[] 81)
  simpa using this)
 have OW := hid (show (((w.alloc (.cells #[.slice (some ⟨b, off, none⟩) d.co.txns.length tcap, .slice oa d.co.order.length ocap, .slice (some ⟨sb, soff, none⟩) d.shards.length scap, .slice na d.net.length ncap] 30)).alloc (.cells #[.slice none 0 0, .slice none 0 0, .slice none 0 0, .slice none 0 0] 30)).alloc (.cells #[] 81)).ownsRow w.heap.size 81 1 (.slice (some ⟨w.heap.size + 1 + 1, 0, none⟩) 0 0) 0 [] by
  have := ownsRow_lo (lo' := w.heap.size) (World.ownsRow_made (e := 81) (size := 1) ((w.alloc (.cells #[.slice (some ⟨b, off, none⟩) d.co.txns.length tcap, .slice oa d.co.order.length ocap, .slice (some ⟨sb, soff, none⟩) d.shards.length scap, .slice na d.net.length ncap] 30)).alloc (.cells #[.slice none 0 0, .slice none 0 0, .slice none 0 0, .slice none 0 0] 30)) #[] 0 (Nat.le_refl _) (by decide) (by simp)) (by simp; omega)
  simpa using this)
 have z0 := FA.out.cell hbs x0
 clear x0
 go_enter Tryz.func160, Tryz.ntmps160
 go_wp2
 go_loopw [5, 7] (fun vo vi wr => ∃ (i : Nat) (zs : List (List Rc × Value)), i ≤ t.parts.length ∧ vi = .int .i64 i ∧ zs.length = i ∧ wr.ownsRow w.heap.size 81 1 vo i (zs.map (·.2)) ∧ (∀ z ∈ zs, RecsR (new lo) wr z.2 z.1 ∧ ShI z.1) ∧ wr.heap[w.heap.size]? = some (.cells #[.slice (some ⟨b, off, none⟩) d.co.txns.length tcap, .slice oa d.co.order.length ocap, .slice (some ⟨sb, soff, none⟩) d.shards.length scap, .slice na d.net.length ncap] 30 (0, 0)) ∧ wr.heap[w.heap.size + 1]? = some (.cells #[.slice none 0 0, .slice none 0 0, .slice none 0 0, .slice none 0 0] 30 (0, 0)) ∧ Fr w.heap.size [] w wr) (fun _ vi _ => t.parts.length - (intOf vi).toNat)
 case atStart => exact ⟨0, [], Nat.zero_le _, rfl, rfl, OW.out, fun z hz => (by cases hz), B0.out, B1.out, FA.out⟩
 case round =>
  clear FA B0 B1 OW z0
  obtain ⟨i, zs, hile, rfl, hzl, how, hzs, hb0, hb1, hfr⟩ := hrel
  obtain ⟨oo, oocap, hoe⟩ := own_any how
  subst hoe
  have hsz := hfr.size
  by_cases hlt : i < t.parts.length
  ·have hii : (i : Int) < (t.parts.length : Int) := by omega
   have FD := (Fr.refl wr.heap.size [] wr).drew
   have B0 := hid (FD.keep _ _ hb0 (.inr (by simp)))
   have B1 := hid (FD.keep _ _ hb1 (.inr (by simp)))
   have HO := hid (ownsRow_grow how FD)
   have HZ := hid (fun z hz => (⟨(hzs z hz).1.tk FD (by simp) (by simp), (hzs z hz).2⟩ : RecsR (new lo) wr.drew z.2 z.1 ∧ ShI z.1))
   have HF := hid (hfr.trans FD.nil)
   have HZL := hid hzl
   obtain ⟨pa', pcap', hpe, _, hpc⟩ := HPP.out.shape
   cases hpe
   rcases hpc with h | ⟨pb, poff, rfl, hps, hpcell⟩
   ·rw [h] at hlt; simp at hlt
   obtain ⟨_, _, y0, _, _⟩ := hpcell i hlt
   have PI := TI.out.1 _ (List.getElem_mem hlt)
   obtain ⟨j, hj⟩ := Int.eq_ofNat_of_zero_le PI.1
   have hj2 : j ≤ 2 := by have := PI.2.1; omega
   rw [hj] at y0
   clear hpcell PI hj
   have hjl : j < d.shards.length := by rw [H3.out]; omega
   have hji : (j : Int) < (d.shards.length : Int) := by omega
   obtain ⟨ra, rcap, yr, hr⟩ := SC.out j hjl
   have SI := hid (WI.out.2.2.1 _ (List.getElem_mem hjl))
   have RS := hid (hr.tk HF.out (by simp) (by simp))
   generalize d.shards[j] = rs at *
   have y1 := HF.out.cell hps y0
   have y2 := HF.out.cell hsb yr
   have hgA : (Value.slice oo i oocap).ownBlock ≠ some w.heap.size := fun e => by
    obtain ⟨cur, hcur⟩ := own_tag' how e
    rw [hb0] at hcur
    simp at hcur
   have hgP : (Value.slice oo i oocap).ownBlock ≠ some pb := fun e => by have := (ownsRow_lt how pb e).1; omega
   have hgS : (Value.slice oo i oocap).ownBlock ≠ some sb := fun e => by have := (ownsRow_lt how sb e).1; omega
   have KP0 := (⟨cell_of (o := 2) B0.out rfl, y1, y2⟩ : wr.drew.cell? ⟨w.heap.size, 2, none⟩ = some (.slice (some ⟨sb, soff, none⟩) d.shards.length scap) ∧ wr.drew.cell? ⟨pb, poff + i * 2, none⟩ = some (.int .i64 j) ∧ wr.drew.cell? ⟨sb, soff + j, none⟩ = some (.slice ra rs.length rcap))
   clear how hzs hfr hzl FD hb0 hb1 y0 yr hr
   go_wp2
   refine wp_region_L 12 (S := (fun x => x.cell? ⟨w.heap.size, 2, none⟩ = some (.slice (some ⟨sb, soff, none⟩) d.shards.length scap) ∧ x.cell? ⟨pb, poff + i * 2, none⟩ = some (.int .i64 j) ∧ x.cell? ⟨sb, soff + j, none⟩ = some (.slice ra rs.length rcap))) (by kernel_rfl) ?_ (fun hHeld => ?_)
   ·exact KP0
   clear KP0
   generalize wr.drew = V at *
   have hl0 := lt_of_get B0.out
   have hlp := World.block_lt_of_cell? _ _ y1
   have hls := World.block_lt_of_cell? _ _ y2
   have FW := hid (Fr.refl V.heap.size [] V)
   have hwV := HF.out.size
   have KP := hid (fun (x : World) (f : Fr V.heap.size [] V x) => (⟨f.cell hl0 (cell_of (o := 2) B0.out rfl), f.cell hlp y1, f.cell hls y2⟩ : x.cell? ⟨w.heap.size, 2, none⟩ = some (.slice (some ⟨sb, soff, none⟩) d.shards.length scap) ∧ x.cell? ⟨pb, poff + i * 2, none⟩ = some (.int .i64 j) ∧ x.cell? ⟨sb, soff + j, none⟩ = some (.slice ra rs.length rcap)))
   have KP2 := hid (fun (x y : World) (f : Fr V.heap.size [] V x) (g : x.grownBy y (Value.slice oo i oocap).ownBlock) => (⟨cell_grown g hgA (KP.out x f).1, cell_grown g hgP (KP.out x f).2.1, cell_grown g hgS (KP.out x f).2.2⟩ : y.cell? ⟨w.heap.size, 2, none⟩ = some (.slice (some ⟨sb, soff, none⟩) d.shards.length scap) ∧ y.cell? ⟨pb, poff + i * 2, none⟩ = some (.int .i64 j) ∧ y.cell? ⟨sb, soff + j, none⟩ = some (.slice ra rs.length rcap)))
   refine wpAnyL_take (i := 0) (v := ?_) rfl (by kernel_rfl) (by kernel_rfl) (by kernel_rfl) (by kernel_rfl) (fun _ _ _ h => h) (Or.inl ⟨by rfl, ?_⟩) (by assumption) ?_
   rotate_left
   ·intro w hSw; (try dsimp only at hSw); go_simp; try with_reducible rfl
   (try simp only [Act.put, List.getElem_toArray, List.getElem_cons_succ, List.getElem_cons_zero, List.getElem?_toArray, List.getElem?_cons_succ, List.getElem?_cons_zero, List.setIfInBounds_toArray, List.set_cons_zero, List.set_cons_succ])
   refine wpAnyL_take (i := 1) (v := ?_) rfl (by kernel_rfl) (by kernel_rfl) (by kernel_rfl) (by kernel_rfl) (fun _ _ _ h => h) (Or.inl ⟨by rfl, ?_⟩) (by assumption) ?_
   rotate_left
   ·intro w hSw; (try dsimp only at hSw); go_simp; try with_reducible rfl
   (try simp only [Act.put, List.getElem_toArray, List.getElem_cons_succ, List.getElem_cons_zero, List.getElem?_toArray, List.getElem?_cons_succ, List.getElem?_cons_zero, List.setIfInBounds_toArray, List.set_cons_zero, List.set_cons_succ])
   refine wpAnyL_take (i := 3) (v := ?_) rfl (by kernel_rfl) (by kernel_rfl) (by kernel_rfl) (by kernel_rfl) (fun _ _ _ h => h) (Or.inl ⟨by rfl, ?_⟩) (by assumption) ?_
   rotate_left
   ·intro w hSw; (try dsimp only at hSw); go_simp; try with_reducible rfl
   (try simp only [Act.put, List.getElem_toArray, List.getElem_cons_succ, List.getElem_cons_zero, List.getElem?_toArray, List.getElem?_cons_succ, List.getElem?_cons_zero, List.setIfInBounds_toArray, List.set_cons_zero, List.set_cons_succ])
   refine wpAnyL_take (i := 4) (v := ?_) rfl (by kernel_rfl) (by kernel_rfl) (by kernel_rfl) (by kernel_rfl) (fun _ _ _ h => h) (Or.inl ⟨by rfl, ?_⟩) (by assumption) ?_
   rotate_left
   ·intro w hSw; (try dsimp only at hSw); go_simp; try with_reducible rfl
   (try simp only [Act.put, List.getElem_toArray, List.getElem_cons_succ, List.getElem_cons_zero, List.getElem?_toArray, List.getElem?_cons_succ, List.getElem?_cons_zero, List.setIfInBounds_toArray, List.set_cons_zero, List.set_cons_succ])
   refine wpAnyL_take (i := 2) (v := ?_) rfl (by kernel_rfl) (by kernel_rfl) (by kernel_rfl) (by kernel_rfl) (fun _ _ _ h => h) (Or.inl ⟨by rfl, ?_⟩) (by assumption) ?_
   rotate_left
   ·intro w hSw; (try dsimp only at hSw); go_simp; try with_reducible rfl
   (try simp only [Act.put, List.getElem_toArray, List.getElem_cons_succ, List.getElem_cons_zero, List.getElem?_toArray, List.getElem?_cons_succ, List.getElem?_cons_zero, List.setIfInBounds_toArray, List.set_cons_zero, List.set_cons_succ])
   refine wpAnyL_take (i := 5) (v := ?_) rfl (by kernel_rfl) (by kernel_rfl) (by kernel_rfl) (by kernel_rfl) (fun _ _ _ h => h) (Or.inl ⟨by rfl, ?_⟩) (by assumption) ?_
   rotate_left
   ·intro w hSw; (try dsimp only at hSw); go_simp; try with_reducible rfl
   (try simp only [Act.put, List.getElem_toArray, List.getElem_cons_succ, List.getElem_cons_zero, List.getElem?_toArray, List.getElem?_cons_succ, List.getElem?_cons_zero, List.setIfInBounds_toArray, List.set_cons_zero, List.set_cons_succ])
   refine wpAnyL_take (i := 6) (v := ?_) rfl (by kernel_rfl) (by kernel_rfl) (by kernel_rfl) (by kernel_rfl) (fun _ _ _ h => h) (Or.inl ⟨by rfl, ?_⟩) (by assumption) ?_
   rotate_left
   ·intro w hSw; (try dsimp only at hSw); go_simp; try with_reducible rfl
   (try simp only [Act.put, List.getElem_toArray, List.getElem_cons_succ, List.getElem_cons_zero, List.getElem?_toArray, List.getElem?_cons_succ, List.getElem?_cons_zero, List.setIfInBounds_toArray, List.set_cons_zero, List.set_cons_succ])
   refine wpAnyL_take (i := 7) (v := ?_) rfl (by kernel_rfl) (by kernel_rfl) (by kernel_rfl) (by kernel_rfl) (fun _ _ _ h => h) (Or.inl ⟨by rfl, ?_⟩) (by assumption) ?_
   rotate_left
   ·intro w hSw; (try dsimp only at hSw); go_simp; try with_reducible rfl
   (try simp only [Act.put, List.getElem_toArray, List.getElem_cons_succ, List.getElem_cons_zero, List.getElem?_toArray, List.getElem?_cons_succ, List.getElem?_cons_zero, List.setIfInBounds_toArray, List.set_cons_zero, List.set_cons_succ])
   refine wpAnyL_take (i := 8) (v := ?_) rfl (by kernel_rfl) (by kernel_rfl) (by kernel_rfl) (by kernel_rfl) (fun _ _ _ h => h) (Or.inl ⟨by rfl, ?_⟩) (by assumption) ?_
   rotate_left
   ·intro w hSw; (try dsimp only at hSw); go_simp; try with_reducible rfl
   (try simp only [Act.put, List.getElem_toArray, List.getElem_cons_succ, List.getElem_cons_zero, List.getElem?_toArray, List.getElem?_cons_succ, List.getElem?_cons_zero, List.setIfInBounds_toArray, List.set_cons_zero, List.set_cons_succ])
   refine wpAnyL_take (i := 9) (v := ?_) rfl (by kernel_rfl) (by kernel_rfl) (by kernel_rfl) (by kernel_rfl) (fun _ _ _ h => h) (Or.inl ⟨by rfl, ?_⟩) (by assumption) ?_
   rotate_left
   ·intro w hSw; (try dsimp only at hSw); go_simp; try with_reducible rfl
   (try simp only [Act.put, List.getElem_toArray, List.getElem_cons_succ, List.getElem_cons_zero, List.getElem?_toArray, List.getElem?_cons_succ, List.getElem?_cons_zero, List.setIfInBounds_toArray, List.set_cons_zero, List.set_cons_succ])
   refine wpAnyL_ready (rs := [10]) (by kernel_rfl) (by simp) ?_
   refine AllReadyL.cons rfl (fun K hK => ?_) AllReadyL.nil
   go_simp
   have FW := hid (FW.out.alloc (.cells #[.slice ra rs.length rcap] 81))
   refine hK.out _ _ (Or.inr ?_) (fun hHeld => ?_)
   ·exact KP.out _ FW.out
   replace hHeld := hHeld.resolve_right (by decide)
   clear hK K
   (try simp only [Act.put, List.getElem_toArray, List.getElem_cons_succ, List.getElem_cons_zero, List.getElem?_toArray, List.getElem?_cons_succ, List.getElem?_cons_zero, List.setIfInBounds_toArray, List.set_cons_zero, List.set_cons_succ])
   refine wpAnyL_ready (rs := [11]) (by kernel_rfl) (by simp) ?_
   refine AllReadyL.cons rfl (fun K hK => ?_) AllReadyL.nil
   refine step_apG rfl (.tmp 25) (.tmp 35) 27 rfl w.heap.size 81 is (.agg #[.slice none 0 0]) 1 24 Tryz.underlying27 his hsz0 hsz1 hsz2 rfl (by decide) (.slice oo i oocap) i (zs.map (·.2)) (by rfl) (ownsRow_grow HO.out FW.out) (new V.heap.size) 81 (.slice (some ⟨V.heap.size, 0, none⟩) 1 1) 1 [.slice ra rs.length rcap] (by rfl) (SlR.lit rfl) (oneSl _ _ _) (by unfold maxLen; omega) (by omega) (Nat.le_trans hwV FW.out.size) ?_
   intro v6 w6 own6 gr6 _
   obtain ⟨a6, c6, rfl⟩ := own_any own6
   have OWN := hid own6
   have FG := hid (Fr.ofOwnGrown (B := w.heap.size) (T := [81]) (ownsRow_grow HO.out FW.out) gr6 (Nat.le_refl _) (List.mem_singleton.2 rfl))
   have GR := hid gr6
   clear own6 gr6
   refine hK.out _ _ (Or.inr ?_) (fun hHeld => ?_)
   ·exact KP2.out _ _ FW.out GR.out
   replace hHeld := hHeld.resolve_right (by decide)
   clear hK K
   (try simp only [Act.put, List.getElem_toArray, List.getElem_cons_succ, List.getElem_cons_zero, List.getElem?_toArray, List.getElem?_cons_succ, List.getElem?_cons_zero, List.setIfInBounds_toArray, List.set_cons_zero, List.set_cons_succ])
   refine wpAnyL_one (i := 12) (by kernel_rfl) rfl (fun K hK => ?_)
   go_simp
   refine hK.out _ _ (Or.inl rfl) (fun hHeld => ?_)
   clear hK K hHeld
   (try simp only [Act.put, List.getElem_toArray, List.getElem_cons_succ, List.getElem_cons_zero, List.getElem?_toArray, List.getElem?_cons_succ, List.getElem?_cons_zero, List.setIfInBounds_toArray, List.set_cons_zero, List.set_cons_succ])
   refine wpAnyL_done (by kernel_rfl) ?_ _
   go_wp2
   go_roundw
   case rel =>
    refine ⟨i + 1, zs ++ [(rs, .slice ra rs.length rcap)], by omega, by go_num, by rw [List.length_append, HZL.out]; rfl, by rw [List.map_append]; exact OWN.out, fun z hz => ?_, FG.out.keep _ _ (FW.out.keep _ _ B0.out (.inr (by simp))) (.inr (by simp [otag])), FG.out.keep _ _ (FW.out.keep _ _ B1.out (.inr (by simp))) (.inr (by simp [otag])), (HF.out.trans FW.out.nil).after FG.out⟩
    rcases List.mem_append.1 hz with hz | hz
    ·exact ⟨((HZ.out z hz).1.tk FW.out (by simp) (by simp)).tk FG.out (by simp) (by simp), (HZ.out z hz).2⟩
    ·obtain rfl := List.mem_singleton.1 hz
     exact ⟨(RS.out.tk FW.out (by simp) (by simp)).tk FG.out (by simp) (by simp), SI.out⟩
   case measure => simp [intOf]; omega
  ·obtain rfl : i = t.parts.length := by omega
   have SS := hid (show ShardsR lo wr (.slice oo t.parts.length oocap) (zs.map (·.1)) from ⟨zs, rfl, by rw [List.length_map, hzl]; exact (SlR.ofOwns how).weak (new_low hlo), fun z hz => (hzs z hz).1⟩)
   have SSI := hid (show ∀ rs ∈ zs.map (·.1), ShI rs from fun rs hrs => by obtain ⟨z, hz, rfl⟩ := List.mem_map.1 hrs; exact (hzs z hz).2)
   have SSL := hid (show (zs.map (·.1)).length = t.parts.length by rw [List.length_map, hzl])
   have HB0 := hid hb0
   have HB1 := hid hb1
   have HF1 := hid hfr
   clear how hzs hb0 hb1 hfr hzl hile hlt
   go_wp2_with (go_at_call 184; go_must (refine (termShards_any lo _ (zs.map (·.1)) _ _ SS.out (by rw [SSL.out]; exact hpl) SSI.out).mono ?_; rintro e w2 ⟨v', ss, n, rfl, sr, hsl, hsi, fr2⟩; obtain ⟨qa, qcap, rfl, _, _⟩ := sr.shape; have QR0 := hid (sr.lower (Nat.le_trans hlo hsz)); have QI := hid hsi; have QL := hid (Nat.le_trans hsl (Nat.le_of_eq SSL.out)); have C0 := hid (fr2.keep _ _ HB0.out (.inr (by simp))); have C1 := hid (fr2.keep _ _ HB1.out (.inr (by simp))); have HF2 := hid (HF1.out.trans fr2.nil); clear sr hsi hsl fr2))
   have ql := QL.out
   go_loopw [10] (fun vi wr => ∃ (i : Nat) (sh : List (List Rc)) (sc : Option Addr) (sccap : Nat), i ≤ ss.length ∧ vi = .int .i64 i ∧ wr.heap[w.heap.size]? = some (.cells #[.slice (some ⟨b, off, none⟩) d.co.txns.length tcap, .slice oa d.co.order.length ocap, .slice sc 3 sccap, .slice na d.net.length ncap] 30 (0, 0)) ∧ ShardsR lo wr (.slice sc 3 sccap) sh ∧ sh.length = 3 ∧ (∀ rs ∈ sh, ShI rs) ∧ wr.heap[w.heap.size + 1]? = some (.cells #[.slice none 0 0, .slice none 0 0, .slice none 0 0, .slice none 0 0] 30 (0, 0)) ∧ ShardsR lo wr (.slice qa ss.length qcap) ss ∧ Fr w.heap.size [] w wr) (fun vi _ => ss.length - (intOf vi).toNat)
   case atStart => exact ⟨0, d.shards, some ⟨sb, soff, none⟩, scap, Nat.zero_le _, rfl, by rw [C0.out, H3.out], by have := (HV.out.grow HF2.out).2.1; rw [H3.out] at this; exact this, H3.out, WI.out.2.2.1, C1.out, QR0.out, HF2.out⟩
   case round =>
    clear C0 C1 HB0 HB1 HF1 SS HF2 QR0
    obtain ⟨i, sh, sc, sccap, hile, rfl, hb0, hshr, hsl3, hshi, hb1, hqr, hfr⟩ := hrel
    have hsz' := hfr.size
    by_cases hlt : i < ss.length
    ·have hii : (i : Int) < (ss.length : Int) := by omega
     have hlt2 : i < t.parts.length := by omega
     have hii2 : (i : Int) < (t.parts.length : Int) := by omega
     have FD := (Fr.refl wr.heap.size [] wr).drew
     have B0 := hid (FD.keep _ _ hb0 (.inr (by simp)))
     have B1 := hid (FD.keep _ _ hb1 (.inr (by simp)))
     have SHR := hid (hshr.tk FD (by simp) (by simp) (by simp))
     have QR := hid (hqr.tk FD (by simp) (by simp) (by simp))
     have HSL := hid hsl3
     have SHI := hid hshi
     have HF := hid (hfr.trans FD.nil)
     obtain ⟨pa', pcap', hpe, _, hpc⟩ := HPP.out.shape
     cases hpe
     rcases hpc with h | ⟨pb, poff, rfl, hps, hpcell⟩
     ·rw [h] at hlt2; simp at hlt2
     obtain ⟨_, _, y0, _, _⟩ := hpcell i hlt2
     have PI := TI.out.1 _ (List.getElem_mem hlt2)
     obtain ⟨j, hj⟩ := Int.eq_ofNat_of_zero_le PI.1
     have hj2 : j ≤ 2 := by have := PI.2.1; omega
     rw [hj] at y0
     clear hpcell PI hj
     obtain ⟨qa', qcap', hqe, _, hqc⟩ := QR.out.shape
     cases hqe
     rcases hqc with h | ⟨qb, qoff, rfl, hqs, hqcell⟩
     ·rw [h] at hlt; simp at hlt
     obtain ⟨ra, rcap, y2, hr⟩ := hqcell i hlt
     have SI := hid (QI.out _ (List.getElem_mem hlt))
     have RS := hid hr
     generalize ss[i] = rs at *
     have y1 := HF.out.cell hps y0
     have hjs : j < sh.length := by omega
     have hsl1000 : sh.length ≤ 1000 := by omega
     have KP0 := (⟨cell_of (o := 0) B0.out rfl, cell_of (o := 1) B0.out rfl, cell_of (o := 2) B0.out rfl, cell_of (o := 3) B0.out rfl, y1, y2⟩ : wr.drew.cell? ⟨w.heap.size, 0, none⟩ = some (.slice (some ⟨b, off, none⟩) d.co.txns.length tcap) ∧ wr.drew.cell? ⟨w.heap.size, 1, none⟩ = some (.slice oa d.co.order.length ocap) ∧ wr.drew.cell? ⟨w.heap.size, 2, none⟩ = some (.slice sc 3 sccap) ∧ wr.drew.cell? ⟨w.heap.size, 3, none⟩ = some (.slice na d.net.length ncap) ∧ wr.drew.cell? ⟨pb, poff + i * 2, none⟩ = some (.int .i64 j) ∧ wr.drew.cell? ⟨qb, qoff + i, none⟩ = some (.slice ra rs.length rcap))
     clear hb0 hb1 hshr hqr hfr hsl3 hshi y0 hr hqcell FD
     have hsl3 := HSL.out
     clear hsl3
     go_wp2
     refine wp_region_L 11 (S := (fun x => x.cell? ⟨w.heap.size, 0, none⟩ = some (.slice (some ⟨b, off, none⟩) d.co.txns.length tcap) ∧ x.cell? ⟨w.heap.size, 1, none⟩ = some (.slice oa d.co.order.length ocap) ∧ x.cell? ⟨w.heap.size, 2, none⟩ = some (.slice sc 3 sccap) ∧ x.cell? ⟨w.heap.size, 3, none⟩ = some (.slice na d.net.length ncap) ∧ x.cell? ⟨pb, poff + i * 2, none⟩ = some (.int .i64 j) ∧ x.cell? ⟨qb, qoff + i, none⟩ = some (.slice ra rs.length rcap))) (by kernel_rfl) ?_ (fun hHeld => ?_)
     ·exact KP0
     clear KP0
     generalize wr.drew = V at *
     have hl0 := lt_of_get B0.out
     have hlp := World.block_lt_of_cell? _ _ y1
     have hlq := World.block_lt_of_cell? _ _ y2
     have FW := hid (Fr.refl V.heap.size [] V)
     have KP := hid (fun (x : World) (f : Fr V.heap.size [] V x) => (⟨f.cell hl0 (cell_of (o := 0) B0.out rfl), f.cell hl0 (cell_of (o := 1) B0.out rfl), f.cell hl0 (cell_of (o := 2) B0.out rfl), f.cell hl0 (cell_of (o := 3) B0.out rfl), f.cell hlp y1, f.cell hlq y2⟩ : x.cell? ⟨w.heap.size, 0, none⟩ = some (.slice (some ⟨b, off, none⟩) d.co.txns.length tcap) ∧ x.cell? ⟨w.heap.size, 1, none⟩ = some (.slice oa d.co.order.length ocap) ∧ x.cell? ⟨w.heap.size, 2, none⟩ = some (.slice sc 3 sccap) ∧ x.cell? ⟨w.heap.size, 3, none⟩ = some (.slice na d.net.length ncap) ∧ x.cell? ⟨pb, poff + i * 2, none⟩ = some (.int .i64 j) ∧ x.cell? ⟨qb, qoff + i, none⟩ = some (.slice ra rs.length rcap)))
     refine wpAnyL_take (i := 0) (v := ?_) rfl (by kernel_rfl) (by kernel_rfl) (by kernel_rfl) (by kernel_rfl) (fun _ _ _ h => h) (Or.inl ⟨by rfl, ?_⟩) (by assumption) ?_
     rotate_left
     ·intro w hSw; (try dsimp only at hSw); go_simp; try with_reducible rfl
     (try simp only [Act.put, List.getElem_toArray, List.getElem_cons_succ, List.getElem_cons_zero, List.getElem?_toArray, List.getElem?_cons_succ, List.getElem?_cons_zero, List.setIfInBounds_toArray, List.set_cons_zero, List.set_cons_succ])
     refine wpAnyL_take (i := 1) (v := ?_) rfl (by kernel_rfl) (by kernel_rfl) (by kernel_rfl) (by kernel_rfl) (fun _ _ _ h => h) (Or.inl ⟨by rfl, ?_⟩) (by assumption) ?_
     rotate_left
     ·intro w hSw; (try dsimp only at hSw); go_simp; try with_reducible rfl
     (try simp only [Act.put, List.getElem_toArray, List.getElem_cons_succ, List.getElem_cons_zero, List.getElem?_toArray, List.getElem?_cons_succ, List.getElem?_cons_zero, List.setIfInBounds_toArray, List.set_cons_zero, List.set_cons_succ])
     refine wpAnyL_take (i := 2) (v := ?_) rfl (by kernel_rfl) (by kernel_rfl) (by kernel_rfl) (by kernel_rfl) (fun _ _ _ h => h) (Or.inl ⟨by rfl, ?_⟩) (by assumption) ?_
     rotate_left
     ·intro w hSw; (try dsimp only at hSw); go_simp; try with_reducible rfl
     (try simp only [Act.put, List.getElem_toArray, List.getElem_cons_succ, List.getElem_cons_zero, List.getElem?_toArray, List.getElem?_cons_succ, List.getElem?_cons_zero, List.setIfInBounds_toArray, List.set_cons_zero, List.set_cons_succ])
     refine wpAnyL_take (i := 6) (v := ?_) rfl (by kernel_rfl) (by kernel_rfl) (by kernel_rfl) (by kernel_rfl) (fun _ _ _ h => h) (Or.inl ⟨by rfl, ?_⟩) (by assumption) ?_
     rotate_left
     ·intro w hSw; (try dsimp only at hSw); go_simp; try with_reducible rfl
     (try simp only [Act.put, List.getElem_toArray, List.getElem_cons_succ, List.getElem_cons_zero, List.getElem?_toArray, List.getElem?_cons_succ, List.getElem?_cons_zero, List.setIfInBounds_toArray, List.set_cons_zero, List.set_cons_succ])
     refine wpAnyL_take (i := 7) (v := ?_) rfl (by kernel_rfl) (by kernel_rfl) (by kernel_rfl) (by kernel_rfl) (fun _ _ _ h => h) (Or.inl ⟨by rfl, ?_⟩) (by assumption) ?_
     rotate_left
     ·intro w hSw; (try dsimp only at hSw); go_simp; try with_reducible rfl
     (try simp only [Act.put, List.getElem_toArray, List.getElem_cons_succ, List.getElem_cons_zero, List.getElem?_toArray, List.getElem?_cons_succ, List.getElem?_cons_zero, List.setIfInBounds_toArray, List.set_cons_zero, List.set_cons_succ])
     refine wpAnyL_take (i := 3) (v := ?_) rfl (by kernel_rfl) (by kernel_rfl) (by kernel_rfl) (by kernel_rfl) (fun _ _ _ h => h) (Or.inl ⟨by rfl, ?_⟩) (by assumption) ?_
     rotate_left
     ·intro w hSw; (try dsimp only at hSw); go_simp; try with_reducible rfl
     (try simp only [Act.put, List.getElem_toArray, List.getElem_cons_succ, List.getElem_cons_zero, List.getElem?_toArray, List.getElem?_cons_succ, List.getElem?_cons_zero, List.setIfInBounds_toArray, List.set_cons_zero, List.set_cons_succ])
     refine wpAnyL_take (i := 8) (v := ?_) rfl (by kernel_rfl) (by kernel_rfl) (by kernel_rfl) (by kernel_rfl) (fun _ _ _ h => h) (Or.inl ⟨by rfl, ?_⟩) (by assumption) ?_
     rotate_left
     ·intro w hSw; (try dsimp only at hSw); go_simp; try with_reducible rfl
     (try simp only [Act.put, List.getElem_toArray, List.getElem_cons_succ, List.getElem_cons_zero, List.getElem?_toArray, List.getElem?_cons_succ, List.getElem?_cons_zero, List.setIfInBounds_toArray, List.set_cons_zero, List.set_cons_succ])
     refine wpAnyL_take (i := 4) (v := ?_) rfl (by kernel_rfl) (by kernel_rfl) (by kernel_rfl) (by kernel_rfl) (fun _ _ _ h => h) (Or.inl ⟨by rfl, ?_⟩) (by assumption) ?_
     rotate_left
     ·intro w hSw; (try dsimp only at hSw); go_simp; try with_reducible rfl
     (try simp only [Act.put, List.getElem_toArray, List.getElem_cons_succ, List.getElem_cons_zero, List.getElem?_toArray, List.getElem?_cons_succ, List.getElem?_cons_zero, List.setIfInBounds_toArray, List.set_cons_zero, List.set_cons_succ])
     refine wpAnyL_take (i := 9) (v := ?_) rfl (by kernel_rfl) (by kernel_rfl) (by kernel_rfl) (by kernel_rfl) (fun _ _ _ h => h) (Or.inl ⟨by rfl, ?_⟩) (by assumption) ?_
     rotate_left
     ·intro w hSw; (try dsimp only at hSw); go_simp; try with_reducible rfl
     (try simp only [Act.put, List.getElem_toArray, List.getElem_cons_succ, List.getElem_cons_zero, List.getElem?_toArray, List.getElem?_cons_succ, List.getElem?_cons_zero, List.setIfInBounds_toArray, List.set_cons_zero, List.set_cons_succ])
     refine wpAnyL_take (i := 5) (v := ?_) rfl (by kernel_rfl) (by kernel_rfl) (by kernel_rfl) (by kernel_rfl) (fun _ _ _ h => h) (Or.inl ⟨by rfl, ?_⟩) (by assumption) ?_
     rotate_left
     ·intro w hSw; (try dsimp only at hSw); go_simp; try with_reducible rfl
     (try simp only [Act.put, List.getElem_toArray, List.getElem_cons_succ, List.getElem_cons_zero, List.getElem?_toArray, List.getElem?_cons_succ, List.getElem?_cons_zero, List.setIfInBounds_toArray, List.set_cons_zero, List.set_cons_succ])
     refine wpAnyL_ready (rs := [10]) (by kernel_rfl) (by simp) ?_
     refine AllReadyL.cons rfl (fun K hK => ?_) AllReadyL.nil
     go_simp
     go_at_call 182
     refine (l51Put_any lo _ _ _ _ _ ⟨d.co, sh, d.net⟩ j rs _ ⟨(HV.out.grow HF.out).1, by simp only; rw [HSL.out] at *; exact SHR.out, (HV.out.grow HF.out).2.2⟩ (Nat.le_trans hlo HF.out.size) (by simp only; omega) (by simp only; omega) RS.out).mono ?_
     rintro e w6 ⟨u3, rfl, sr, fr6⟩
     obtain ⟨sd, sdcap, hsde, _, _⟩ := sr.shape
     rw [List.length_set] at hsde
     simp only [HSL.out] at hsde
     subst hsde
     have SR := hid sr
     have FW := hid (FW.out.trans fr6)
     have E0 := hid (fr6.keep _ _ B0.out (.inr (by simp)))
     have E1 := hid (fr6.keep _ _ B1.out (.inr (by simp)))
     have NQ := hid (QR.out.tk fr6 (by simp) (by simp) (by simp))
     have s0 := cell_of (o := 0) E0.out rfl
     have s1 := cell_of (o := 1) E0.out rfl
     have s2 := cell_of (o := 2) E0.out rfl
     have s3 := cell_of (o := 3) E0.out rfl
     have s4 := fun o => free_of (o := o) E0.out
     clear sr fr6
     refine hK.out _ _ (Or.inr ?_) (fun hHeld => ?_)
     ·exact KP.out _ FW.out
     replace hHeld := hHeld.resolve_right (by decide)
     clear hK K
     (try simp only [Act.put, List.getElem_toArray, List.getElem_cons_succ, List.getElem_cons_zero, List.getElem?_toArray, List.getElem?_cons_succ, List.getElem?_cons_zero, List.setIfInBounds_toArray, List.set_cons_zero, List.set_cons_succ])
     refine wpAnyL_one (i := 11) (by kernel_rfl) rfl (fun K hK => ?_)
     go_simp
     refine hK.out _ _ (Or.inl rfl) (fun hHeld => ?_)
     clear hK K hHeld
     (try simp only [Act.put, List.getElem_toArray, List.getElem_cons_succ, List.getElem_cons_zero, List.getElem?_toArray, List.getElem?_cons_succ, List.getElem?_cons_zero, List.setIfInBounds_toArray, List.set_cons_zero, List.set_cons_succ])
     refine wpAnyL_done (by kernel_rfl) ?_ _
     have g4 := box4 (u1 := .slice (some ⟨b, off, none⟩) d.co.txns.length tcap) (u2 := .slice oa d.co.order.length ocap) (u3 := .slice sd 3 sdcap) (u4 := .slice na d.net.length ncap) E0.out
     have FT := box4_fr (u1 := .slice (some ⟨b, off, none⟩) d.co.txns.length tcap) (u2 := .slice oa d.co.order.length ocap) (u3 := .slice sd 3 sdcap) (u4 := .slice na d.net.length ncap) E0.out
     go_wp2
     go_roundw
     case rel =>
      refine ⟨i + 1, sh.set j rs, sd, sdcap, by omega, by go_num, g4, SR.out.tk FT (by simp) (by simp) (by simp), by rw [List.length_set]; exact HSL.out, fun x hx => ?_, block_setne (block_setne (block_setne (block_setne E1.out (by dsimp only; omega)) (by dsimp only; omega)) (by dsimp only; omega)) (by dsimp only; omega), NQ.out.tk FT (by simp) (by simp) (by simp), ((((HF.out.trans FW.out.nil).setNew (p := ⟨w.heap.size, 0, none⟩) (by dsimp only; omega) _).setNew (p := ⟨w.heap.size, 1, none⟩) (by dsimp only; omega) _).setNew (p := ⟨w.heap.size, 2, none⟩) (by dsimp only; omega) _).setNew (by dsimp only; omega) _⟩
      rcases List.mem_or_eq_of_mem_set hx with h | rfl
      ·exact SHI.out x h
      ·exact SI.out
     case measure => simp [intOf]; omega
    ·obtain rfl : i = ss.length := by omega
     have p0 := cell_of (o := 0) hb0 rfl
     have p1 := cell_of (o := 1) hb0 rfl
     have p2 := cell_of (o := 2) hb0 rfl
     have p3 := cell_of (o := 3) hb0 rfl
     have p4 := fun o => free_of (o := o) hb1
     have p5 := cell_of (o := 0) hb1 rfl
     have p6 := cell_of (o := 1) hb1 rfl
     have p7 := cell_of (o := 2) hb1 rfl
     have p8 := cell_of (o := 3) hb1 rfl
     go_wp2
     have h4 := box4 (u1 := .slice (some ⟨b, off, none⟩) d.co.txns.length tcap) (u2 := .slice oa d.co.order.length ocap) (u3 := .slice sc 3 sccap) (u4 := .slice na d.net.length ncap) hb1
     have g0 := cell_of (o := 0) h4 rfl
     have g1 := cell_of (o := 1) h4 rfl
     have g2 := cell_of (o := 2) h4 rfl
     have g3 := cell_of (o := 3) h4 rfl
     have FT := box4_fr (u1 := .slice (some ⟨b, off, none⟩) d.co.txns.length tcap) (u2 := .slice oa d.co.order.length ocap) (u3 := .slice sc 3 sccap) (u4 := .slice na d.net.length ncap) hb1
     exact bodyPost_ret (v := .agg #[.slice (some ⟨b, off, none⟩) d.co.txns.length tcap, .slice oa d.co.order.length ocap, .slice sc 3 sccap, .slice na d.net.length ncap]) (by simp [results, Tryz.results160, go_sem, g0, g1, g2, g3]) rfl ⟨_, _, _, _, ⟨d.co, sh, d.net⟩, rfl, WdR.tk (d := ⟨d.co, sh, d.net⟩) ⟨(HV.out.grow hfr).1, hshr, (HV.out.grow hfr).2.2⟩ FT (by simp [Apt]), ⟨WI.out.1, hsl3, hshi, WI.out.2.2.2⟩, (((hfr.setNew (p := ⟨w.heap.size + 1, 0, none⟩) (by dsimp only; omega) _).setNew (p := ⟨w.heap.size + 1, 1, none⟩) (by dsimp only; omega) _).setNew (p := ⟨w.heap.size + 1, 2, none⟩) (by dsimp only; omega) _).setNew (by dsimp only; omega) _⟩

end Go.Proofs.YtknoanpgadecbaaGreatDoor
