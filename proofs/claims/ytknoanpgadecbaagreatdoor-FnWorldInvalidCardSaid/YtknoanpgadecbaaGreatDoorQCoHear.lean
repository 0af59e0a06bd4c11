/- The reference's l51Hear. -/
import Derived.Test.YtknoanpgadecbaaGreatDoorQM8
set_option linter.unusedVariables false
set_option linter.unusedSimpArgs false
namespace Go.Proofs.YtknoanpgadecbaaGreatDoor
open Go.RowKit
set_option linter.unusedVariables false

theorem prt_len {c : Co} (h : CoI c) (txn x : Int) : ((prt c txn x).getD []).length ≤ 8 := by
 unfold prt
 split
 ·cases ht : c.txns[txn.toNat]? with
  | none => simp
  | some t =>
   simp only
   split
   ·simp
   ·cases hp : t.parts[(partOf t.parts x).toNat]? with
    | none => simp
    | some p =>
     have h1 := List.mem_of_getElem? ht
     have h2 := List.mem_of_getElem? hp
     simpa using ((h.1 t h1).1 p h2).2.2
 ·simp

set_option maxRecDepth 20000 in
set_option maxHeartbeats 8000000 in
theorem l51Hear_any (lo : Nat) (v1 v2 v3 v4 : Value) (d : Wd) (mk mt : Int) (j : Nat) (my : Bool) (w : World) (hv : WdR lo w v1 v2 v3 v4 d) (hlo : lo ≤ w.heap.size) (hi : WdI d) (hj : j ≤ 2) :
  Calls Tryz.prog 158 #[.agg #[v1, v2, v3, v4], .agg #[.int .i64 mk, .int .i64 mt, .int .i64 j, .bool my]] w (WdOut lo w) := by
 obtain ⟨ta, tcap, rfl, _, _⟩ := hv.1.1.shape
 obtain ⟨oa, ocap, rfl, _, _⟩ := hv.1.2.shape
 obtain ⟨sa, scap, rfl, _, hsc⟩ := hv.2.1.shape
 obtain ⟨na, ncap, rfl, hnc, _⟩ := hv.2.2.shape
 have hjl : j < d.shards.length := by rw [hi.2.1]; omega
 rcases hsc with h | ⟨sb, soff, rfl, hsb, hscell⟩
 ·rw [h] at hjl; simp at hjl
 obtain ⟨ra, rcap, y0, hrs⟩ := hscell j hjl
 have RS := hid hrs
 have HV := hid hv
 have WI := hid hi
 have SHI := hid (hi.2.2.1 _ (List.getElem_mem hjl))
 have hji : (j : Int) < (d.shards.length : Int) := by omega
 have hsl3 := hi.2.1
 have hsl : d.shards.length ≤ 1000 := by omega
 have HS3 := hid hsl3
 clear hv hi hrs hscell hsl3
 have FA := hid ((((Fr.refl w.heap.size [] w).alloc (.cells #[.slice ta d.co.txns.length tcap, .slice oa d.co.order.length ocap, .slice (some ⟨sb, soff, none⟩) d.shards.length scap, .slice na d.net.length ncap] 30)).alloc (.cells #[.int .i64 mk, .int .i64 mt, .int .i64 j, .bool my] 47)).alloc (.cells #[.slice none 0 0, .slice none 0 0, .slice none 0 0, .slice none 0 0] 30))
 have B0 := hid (heap_up (heap_up (heap_alloc_new w (.cells #[.slice ta d.co.txns.length tcap, .slice oa d.co.order.length ocap, .slice (some ⟨sb, soff, none⟩) d.shards.length scap, .slice na d.net.length ncap] 30)) (.cells #[.int .i64 mk, .int .i64 mt, .int .i64 j, .bool my] 47)) (.cells #[.slice none 0 0, .slice none 0 0, .slice none 0 0, .slice none 0 0] 30))
 have B1 := hid (show (((w.alloc (.cells #[.slice ta d.co.txns.length tcap, .slice oa d.co.order.length ocap, .slice (some ⟨sb, soff, none⟩) d.shards.length scap, .slice na d.net.length ncap] 30)).alloc (.cells #[.int .i64 mk, .int .i64 mt, .int .i64 j, .bool my] 47)).alloc (.cells #[.slice none 0 0, .slice none 0 0, .slice none 0 0, .slice none 0 0] 30)).heap[w.heap.size + 1]? = some (.cells #[.int .i64 mk, .int .i64 mt, .int .i64 j, .bool my] 47 (0, 0)) by
  have := heap_up (heap_alloc_new (w.alloc (.cells #[.slice ta d.co.txns.length tcap, .slice oa d.co.order.length ocap, .slice (some ⟨sb, soff, none⟩) d.shards.length scap, .slice na d.net.length ncap] 30)) (.cells #[.int .i64 mk, .int .i64 mt, .int .i64 j, .bool my] 47)) (.cells #[.slice none 0 0, .slice none 0 0, .slice none 0 0, .slice none 0 0] 30)
  simpa using this)
 have B2 := hid (show (((w.alloc (.cells #[.slice ta d.co.txns.length tcap, .slice oa d.co.order.length ocap, .slice (some ⟨sb, soff, none⟩) d.shards.length scap, .slice na d.net.length ncap] 30)).alloc (.cells #[.int .i64 mk, .int .i64 mt, .int .i64 j, .bool my] 47)).alloc (.cells #[.slice none 0 0, .slice none 0 0, .slice none 0 0, .slice none 0 0] 30)).heap[w.heap.size + 2]? = some (.cells #[.slice none 0 0, .slice none 0 0, .slice none 0 0, .slice none 0 0] 30 (0, 0)) by
  have := heap_alloc_new ((w.alloc (.cells #[.slice ta d.co.txns.length tcap, .slice oa d.co.order.length ocap, .slice (some ⟨sb, soff, none⟩) d.shards.length scap, .slice na d.net.length ncap] 30)).alloc (.cells #[.int .i64 mk, .int .i64 mt, .int .i64 j, .bool my] 47)) (.cells #[.slice none 0 0, .slice none 0 0, .slice none 0 0, .slice none 0 0] 30)
  simpa using this)
 have y0 := FA.out.cell hsb y0
 by_cases hk1 : mk = 1
 ·subst hk1
  go_enter Tryz.func158, Tryz.ntmps158
  have UL := hid (prt_len WI.out.1 mt (j : Int))
  go_wp2_with (go_at_call 21; go_must (refine (l51Part_any lo _ _ _ _ d mt (j : Int) _ (HV.out.grow FA.out) (by have := WI.out.1.2.1; omega) (fun t ht => by have := (WI.out.1.1 t ht).2.1; omega) (Nat.le_trans hlo FA.out.size)).mono ?_; rintro e w1 ⟨vu, rfl, hu, fr1⟩; have HU := hid hu; have FR1 := hid fr1; clear hu fr1))
  replace FA := hid (FA.out.trans FR1.out.nil)
  replace B0 := hid (FR1.out.keep _ _ B0.out (.inr (by simp)))
  replace B1 := hid (FR1.out.keep _ _ B1.out (.inr (by simp)))
  replace B2 := hid (FR1.out.keep _ _ B2.out (.inr (by simp)))
  replace y0 := FR1.out.cell (World.block_lt_of_cell? _ _ y0) y0
  generalize (prt d.co mt (j : Int)).isSome = bs at *
  generalize (prt d.co mt (j : Int)).getD [] = us at *
  have hul := UL.out
  obtain ⟨ua, ucap, rfl, _, _⟩ := HU.out.shape
  clear FR1
  obtain ⟨W, hW⟩ : ∃ W, W = w1 := ⟨_, rfl⟩
  subst hW
  have QCL := True.intro
  have hlsW := World.block_lt_of_cell? _ _ y0
  refine wp_region_L 15 (S := (fun x => x.cell? ⟨w.heap.size, 2, none⟩ = some (.slice (some ⟨sb, soff, none⟩) d.shards.length scap) ∧ x.cell? ⟨w.heap.size + 1, 1, none⟩ = some (.int .i64 mt) ∧ x.cell? ⟨w.heap.size + 1, 2, none⟩ = some (.int .i64 j) ∧ x.cell? ⟨w.heap.size + 1, 3, none⟩ = some (.bool my) ∧ x.cell? ⟨sb, soff + j, none⟩ = some (.slice ra (d.shards[j]).length rcap))) (by kernel_rfl) ?_ (fun hHeld => ?_)
  ·have f := (Fr.refl W.heap.size [] W).drew
   exact ⟨f.cell (lt_of_get B0.out) (cell_of (o := 2) B0.out rfl), f.cell (lt_of_get B1.out) (cell_of (o := 1) B1.out rfl), f.cell (lt_of_get B1.out) (cell_of (o := 2) B1.out rfl), f.cell (lt_of_get B1.out) (cell_of (o := 3) B1.out rfl), f.cell hlsW y0⟩
  have FD := (Fr.refl W.heap.size [] W).drew
  have y1 := FD.cell hlsW y0
  replace B0 := hid (FD.keep _ _ B0.out (.inr (by simp)))
  replace B1 := hid (FD.keep _ _ B1.out (.inr (by simp)))
  replace B2 := hid (FD.keep _ _ B2.out (.inr (by simp)))
  have FW0 := hid (FA.out.trans FD.nil)
  replace HU := hid (HU.out.grow FD)
  clear FD FA y0 hlsW QCL
  generalize W.drew = V at *
  have hl0 := lt_of_get B0.out
  have hl1 := lt_of_get B1.out
  have hl2 := lt_of_get B2.out
  have hls := World.block_lt_of_cell? _ _ y1
  have hlV := FW0.out.size
  have FW := hid (Fr.refl V.heap.size [] V)
  have KP := hid (fun (x : World) (f : Fr V.heap.size [] V x) => (⟨f.cell hl0 (cell_of (o := 2) B0.out rfl), f.cell hl1 (cell_of (o := 1) B1.out rfl), f.cell hl1 (cell_of (o := 2) B1.out rfl), f.cell hl1 (cell_of (o := 3) B1.out rfl), f.cell hls y1⟩ : x.cell? ⟨w.heap.size, 2, none⟩ = some (.slice (some ⟨sb, soff, none⟩) d.shards.length scap) ∧ x.cell? ⟨w.heap.size + 1, 1, none⟩ = some (.int .i64 mt) ∧ x.cell? ⟨w.heap.size + 1, 2, none⟩ = some (.int .i64 j) ∧ x.cell? ⟨w.heap.size + 1, 3, none⟩ = some (.bool my) ∧ x.cell? ⟨sb, soff + j, none⟩ = some (.slice ra (d.shards[j]).length rcap)))
  refine wpAnyL_take (i := 0) (v := ?_) rfl (by kernel_rfl) (by kernel_rfl) (by kernel_rfl) (by kernel_rfl) (fun _ _ _ h => h) (Or.inl ⟨by rfl, ?_⟩) (by assumption) ?_
  rotate_left
  ·intro w hSw; (try dsimp only at hSw); go_simp; try with_reducible rfl
  (try simp only [Act.put, List.getElem_toArray, List.getElem_cons_succ, List.getElem_cons_zero, List.getElem?_toArray, List.getElem?_cons_succ, List.getElem?_cons_zero, List.setIfInBounds_toArray, List.set_cons_zero, List.set_cons_succ])
  refine wpAnyL_take (i := 2) (v := ?_) rfl (by kernel_rfl) (by kernel_rfl) (by kernel_rfl) (by kernel_rfl) (fun _ _ _ h => h) (Or.inl ⟨by rfl, ?_⟩) (by assumption) ?_
  rotate_left
  ·intro w hSw; (try dsimp only at hSw); go_simp; try with_reducible rfl
  (try simp only [Act.put, List.getElem_toArray, List.getElem_cons_succ, List.getElem_cons_zero, List.getElem?_toArray, List.getElem?_cons_succ, List.getElem?_cons_zero, List.setIfInBounds_toArray, List.set_cons_zero, List.set_cons_succ])
  refine wpAnyL_take (i := 6) (v := ?_) rfl (by kernel_rfl) (by kernel_rfl) (by kernel_rfl) (by kernel_rfl) (fun _ _ _ h => h) (Or.inl ⟨by rfl, ?_⟩) (by assumption) ?_
  rotate_left
  ·intro w hSw; (try dsimp only at hSw); go_simp; try with_reducible rfl
  (try simp only [Act.put, List.getElem_toArray, List.getElem_cons_succ, List.getElem_cons_zero, List.getElem?_toArray, List.getElem?_cons_succ, List.getElem?_cons_zero, List.setIfInBounds_toArray, List.set_cons_zero, List.set_cons_succ])
  refine wpAnyL_take (i := 8) (v := ?_) rfl (by kernel_rfl) (by kernel_rfl) (by kernel_rfl) (by kernel_rfl) (fun _ _ _ h => h) (Or.inl ⟨by rfl, ?_⟩) (by assumption) ?_
  rotate_left
  ·intro w hSw; (try dsimp only at hSw); go_simp; try with_reducible rfl
  (try simp only [Act.put, List.getElem_toArray, List.getElem_cons_succ, List.getElem_cons_zero, List.getElem?_toArray, List.getElem?_cons_succ, List.getElem?_cons_zero, List.setIfInBounds_toArray, List.set_cons_zero, List.set_cons_succ])
  refine wpAnyL_take (i := 1) (v := ?_) rfl (by kernel_rfl) (by kernel_rfl) (by kernel_rfl) (by kernel_rfl) (fun _ _ _ h => h) (Or.inl ⟨by rfl, ?_⟩) (by assumption) ?_
  rotate_left
  ·intro w hSw; (try dsimp only at hSw); go_simp; try with_reducible rfl
  (try simp only [Act.put, List.getElem_toArray, List.getElem_cons_succ, List.getElem_cons_zero, List.getElem?_toArray, List.getElem?_cons_succ, List.getElem?_cons_zero, List.setIfInBounds_toArray, List.set_cons_zero, List.set_cons_succ])
  refine wpAnyL_take (i := 3) (v := ?_) rfl (by kernel_rfl) (by kernel_rfl) (by kernel_rfl) (by kernel_rfl) (fun _ _ _ h => h) (Or.inl ⟨by rfl, ?_⟩) (by assumption) ?_
  rotate_left
  ·intro w hSw; (try dsimp only at hSw); go_simp; try with_reducible rfl
  (try simp only [Act.put, List.getElem_toArray, List.getElem_cons_succ, List.getElem_cons_zero, List.getElem?_toArray, List.getElem?_cons_succ, List.getElem?_cons_zero, List.setIfInBounds_toArray, List.set_cons_zero, List.set_cons_succ])
  refine wpAnyL_take (i := 7) (v := ?_) rfl (by kernel_rfl) (by kernel_rfl) (by kernel_rfl) (by kernel_rfl) (fun _ _ _ h => h) (Or.inl ⟨by rfl, ?_⟩) (by assumption) ?_
  rotate_left
  ·intro w hSw; (try dsimp only at hSw); go_simp; try with_reducible rfl
  (try simp only [Act.put, List.getElem_toArray, List.getElem_cons_succ, List.getElem_cons_zero, List.getElem?_toArray, List.getElem?_cons_succ, List.getElem?_cons_zero, List.setIfInBounds_toArray, List.set_cons_zero, List.set_cons_succ])
  refine wpAnyL_take (i := 4) (v := ?_) rfl (by kernel_rfl) (by kernel_rfl) (by kernel_rfl) (by kernel_rfl) (fun _ _ _ h => h) (Or.inl ⟨by rfl, ?_⟩) (by assumption) ?_
  rotate_left
  ·intro w hSw; (try dsimp only at hSw); go_simp; try with_reducible rfl
  (try simp only [Act.put, List.getElem_toArray, List.getElem_cons_succ, List.getElem_cons_zero, List.getElem?_toArray, List.getElem?_cons_succ, List.getElem?_cons_zero, List.setIfInBounds_toArray, List.set_cons_zero, List.set_cons_succ])
  refine wpAnyL_take (i := 5) (v := ?_) rfl (by kernel_rfl) (by kernel_rfl) (by kernel_rfl) (by kernel_rfl) (fun _ _ _ h => h) (Or.inl ⟨by rfl, ?_⟩) (by assumption) ?_
  rotate_left
  ·intro w hSw; (try dsimp only at hSw); go_simp; try with_reducible rfl
  (try simp only [Act.put, List.getElem_toArray, List.getElem_cons_succ, List.getElem_cons_zero, List.getElem?_toArray, List.getElem?_cons_succ, List.getElem?_cons_zero, List.setIfInBounds_toArray, List.set_cons_zero, List.set_cons_succ])
  refine wpAnyL_ready (rs := [9, 13]) (by kernel_rfl) (by simp) ?_
  refine AllReadyL.cons rfl (fun K hK => ?_) (AllReadyL.cons rfl (fun K hK => ?_) AllReadyL.nil)
  ·go_simp
   go_at_call 77
   refine (specShardPrepare_any (new lo) (new lo) _ _ (d.shards[j]) mt us _ (RS.out.grow FW0.out) SHI.out.small HU.out (by omega)).mono ?_
   rintro e w6 ⟨u6, rfl, own6, fr6⟩
   have SHP := hid (SHI.out.prep mt UL.out)
   generalize hps : prep (d.shards[j]) mt us = pp at *
   obtain ⟨ps, pb⟩ := pp
   clear hps
   obtain ⟨pa, pcap, rfl, _, _⟩ := own6.reads.shape
   have PR := hid (own6.reads.weak (new_low (lo' := lo) (Nat.le_trans hlo (by first | exact hlV | exact Nat.le_trans hlV (by simp)))))
   clear own6
   simp only at SHP
   replace PR : Hid (RecsR (new lo) w6 (.slice pa ps.length pcap) ps) := PR
   have FW := hid (FW.out.trans fr6.nil)
   clear fr6
   refine hK.out _ _ (Or.inr ?_) (fun hHeld => ?_)
   ·exact KP.out _ FW.out
   replace hHeld := hHeld.resolve_right (by decide)
   clear hK K
   (try simp only [Act.put, List.getElem_toArray, List.getElem_cons_succ, List.getElem_cons_zero, List.getElem?_toArray, List.getElem?_cons_succ, List.getElem?_cons_zero, List.setIfInBounds_toArray, List.set_cons_zero, List.set_cons_succ])
   refine wpAnyL_take (i := 10) (v := ?_) rfl (by kernel_rfl) (by kernel_rfl) (by kernel_rfl) (by kernel_rfl) (fun _ _ _ h => h) (Or.inl ⟨by rfl, ?_⟩) (by assumption) ?_
   rotate_left
   ·intro w hSw; (try dsimp only at hSw); go_simp; try with_reducible rfl
   (try simp only [Act.put, List.getElem_toArray, List.getElem_cons_succ, List.getElem_cons_zero, List.getElem?_toArray, List.getElem?_cons_succ, List.getElem?_cons_zero, List.setIfInBounds_toArray, List.set_cons_zero, List.set_cons_succ])
   refine wpAnyL_take (i := 11) (v := ?_) rfl (by kernel_rfl) (by kernel_rfl) (by kernel_rfl) (by kernel_rfl) (fun _ _ _ h => h) (Or.inl ⟨by rfl, ?_⟩) (by assumption) ?_
   rotate_left
   ·intro w hSw; (try dsimp only at hSw); go_simp; try with_reducible rfl
   (try simp only [Act.put, List.getElem_toArray, List.getElem_cons_succ, List.getElem_cons_zero, List.getElem?_toArray, List.getElem?_cons_succ, List.getElem?_cons_zero, List.setIfInBounds_toArray, List.set_cons_zero, List.set_cons_succ])
   refine wpAnyL_take (i := 12) (v := ?_) rfl (by kernel_rfl) (by kernel_rfl) (by kernel_rfl) (by kernel_rfl) (fun _ _ _ h => h) (Or.inl ⟨by rfl, ?_⟩) (by assumption) ?_
   rotate_left
   ·intro w hSw; (try dsimp only at hSw); go_simp; try with_reducible rfl
   (try simp only [Act.put, List.getElem_toArray, List.getElem_cons_succ, List.getElem_cons_zero, List.getElem?_toArray, List.getElem?_cons_succ, List.getElem?_cons_zero, List.setIfInBounds_toArray, List.set_cons_zero, List.set_cons_succ])
   refine wpAnyL_ready (rs := [13]) (by kernel_rfl) (by simp) ?_
   refine AllReadyL.cons rfl (fun K hK => ?_) AllReadyL.nil
   go_simp
   have BX := hid (heap_alloc_new w6 (.cells #[.slice none 0 0] 81))
   have PR6 := hid PR.out
   have FW6 := hid FW.out
   have PR := hid (PR.out.grow ((Fr.refl 0 [] w6).alloc (.cells #[.slice none 0 0] 81)))
   have hXV : V.heap.size ≤ w6.heap.size := FW.out.size
   have FW := hid (FW.out.alloc (.cells #[.slice none 0 0] 81))
   have t0 := cell_of (o := 0) BX.out rfl
   have t1 := free_of (o := 0) BX.out
   refine hK.out _ _ (Or.inr ?_) (fun hHeld => ?_)
   ·exact KP.out _ FW.out
   replace hHeld := hHeld.resolve_right (by decide)
   clear hK K
   (try simp only [Act.put, List.getElem_toArray, List.getElem_cons_succ, List.getElem_cons_zero, List.getElem?_toArray, List.getElem?_cons_succ, List.getElem?_cons_zero, List.setIfInBounds_toArray, List.set_cons_zero, List.set_cons_succ])
   refine wpAnyL_ready (rs := [14]) (by kernel_rfl) (by simp) ?_
   refine AllReadyL.cons rfl (fun K hK => ?_) AllReadyL.nil
   go_simp
   have BX := hid (heap_alloc_new w6 (.cells #[.slice pa ps.length pcap] 81))
   have PR := hid (PR6.out.grow ((Fr.refl 0 [] w6).alloc (.cells #[.slice pa ps.length pcap] 81)))
   have FW := hid (FW6.out.alloc (.cells #[.slice pa ps.length pcap] 81))
   refine hK.out _ _ (Or.inr ?_) (fun hHeld => ?_)
   ·exact KP.out _ FW.out
   replace hHeld := hHeld.resolve_right (by decide)
   clear hK K
   (try simp only [Act.put, List.getElem_toArray, List.getElem_cons_succ, List.getElem_cons_zero, List.getElem?_toArray, List.getElem?_cons_succ, List.getElem?_cons_zero, List.setIfInBounds_toArray, List.set_cons_zero, List.set_cons_succ])
   refine wpAnyL_one (i := 15) (by kernel_rfl) rfl (fun K hK => ?_)
   go_simp
   refine hK.out _ _ (Or.inl rfl) (fun hHeld => ?_)
   clear hK K hHeld
   (try simp only [Act.put, List.getElem_toArray, List.getElem_cons_succ, List.getElem_cons_zero, List.getElem?_toArray, List.getElem?_cons_succ, List.getElem?_cons_zero, List.setIfInBounds_toArray, List.set_cons_zero, List.set_cons_succ])
   refine wpAnyL_done (by kernel_rfl) ?_ _
   have FN := hid (FW0.out.trans FW.out.nil)
   have B0 := hid (FW.out.keep _ _ B0.out (.inr (by simp)))
   have B1 := hid (FW.out.keep _ _ B1.out (.inr (by simp)))
   have B2 := hid (FW.out.keep _ _ B2.out (.inr (by simp)))
   have NX := hid (⟨Nat.ne_of_gt (Nat.lt_of_lt_of_le hl0 hXV), Nat.ne_of_gt (Nat.lt_of_lt_of_le hl1 hXV), Nat.ne_of_gt (Nat.lt_of_lt_of_le hl2 hXV)⟩ : w6.heap.size ≠ w.heap.size ∧ w6.heap.size ≠ w.heap.size + 1 ∧ w6.heap.size ≠ w.heap.size + 2)
   have BX := hid (show (w6.alloc (.cells #[.slice pa ps.length pcap] 81)).heap[w6.heap.size]? = some (.cells #[.slice pa ps.length pcap] 81 (0, 0)) by simpa using BX.out)
   have PR := hid PR.out
   clear FW KP hXV FW0 hl0 hl1 hl2 hls hlV hHeld
   obtain ⟨Wn, hWn⟩ : ∃ W' : World, W' = w6.alloc (.cells #[.slice pa ps.length pcap] 81) := ⟨_, rfl⟩
   obtain ⟨X, hX⟩ : ∃ X : Nat, X = w6.heap.size := ⟨_, rfl⟩
   rw [← hWn] at BX PR FN B0 B1 B2 ⊢
   rw [← hX] at BX NX ⊢
   clear hWn hX
   have NX0 := NX.out.1
   have NX1 := NX.out.2.1
   have NX2 := NX.out.2.2
   have hl0 := lt_of_get B0.out
   have hl1 := lt_of_get B1.out
   have hl2 := lt_of_get B2.out
   have hlX := lt_of_get BX.out
   go_wp2
   refine wp_region_L 12 (S := (fun x => x.cell? ⟨w.heap.size, 0, none⟩ = some (.slice ta d.co.txns.length tcap) ∧ x.cell? ⟨w.heap.size, 1, none⟩ = some (.slice oa d.co.order.length ocap) ∧ x.cell? ⟨w.heap.size, 2, none⟩ = some (.slice (some ⟨sb, soff, none⟩) d.shards.length scap) ∧ x.cell? ⟨w.heap.size, 3, none⟩ = some (.slice na d.net.length ncap) ∧ x.cell? ⟨w.heap.size + 1, 1, none⟩ = some (.int .i64 mt) ∧ x.cell? ⟨w.heap.size + 1, 2, none⟩ = some (.int .i64 j) ∧ x.cell? ⟨X, 0, none⟩ = some (.slice pa ps.length pcap))) (by kernel_rfl) ?_ (fun hHeld => ?_)
   ·have f := (Fr.refl Wn.heap.size [] Wn).drew
    exact ⟨f.cell (lt_of_get B0.out) (cell_of (o := 0) B0.out rfl), f.cell (lt_of_get B0.out) (cell_of (o := 1) B0.out rfl), f.cell (lt_of_get B0.out) (cell_of (o := 2) B0.out rfl), f.cell (lt_of_get B0.out) (cell_of (o := 3) B0.out rfl), f.cell (lt_of_get B1.out) (cell_of (o := 1) B1.out rfl), f.cell (lt_of_get B1.out) (cell_of (o := 2) B1.out rfl), f.cell (lt_of_get BX.out) (cell_of (o := 0) BX.out rfl)⟩
   have FD := (Fr.refl Wn.heap.size [] Wn).drew
   replace B0 := hid (FD.keep _ _ B0.out (.inr (by simp)))
   replace B1 := hid (FD.keep _ _ B1.out (.inr (by simp)))
   replace B2 := hid (FD.keep _ _ B2.out (.inr (by simp)))
   replace BX := hid (FD.keep _ _ BX.out (.inr (by simp)))
   replace PR := hid (PR.out.tk FD (by simp) (by simp))
   replace FN := hid (FN.out.trans FD.nil)
   clear FD hl0 hl1 hl2 hlX
   generalize Wn.drew = V2 at *
   have hl0 := lt_of_get B0.out
   have hl1 := lt_of_get B1.out
   have hl2 := lt_of_get B2.out
   have hlX := lt_of_get BX.out
   have FW := hid (Fr.refl V2.heap.size [] V2)
   have KP := hid (fun (x : World) (f : Fr V2.heap.size [] V2 x) => (⟨f.cell hl0 (cell_of (o := 0) B0.out rfl), f.cell hl0 (cell_of (o := 1) B0.out rfl), f.cell hl0 (cell_of (o := 2) B0.out rfl), f.cell hl0 (cell_of (o := 3) B0.out rfl), f.cell hl1 (cell_of (o := 1) B1.out rfl), f.cell hl1 (cell_of (o := 2) B1.out rfl), f.cell hlX (cell_of (o := 0) BX.out rfl)⟩ : x.cell? ⟨w.heap.size, 0, none⟩ = some (.slice ta d.co.txns.length tcap) ∧ x.cell? ⟨w.heap.size, 1, none⟩ = some (.slice oa d.co.order.length ocap) ∧ x.cell? ⟨w.heap.size, 2, none⟩ = some (.slice (some ⟨sb, soff, none⟩) d.shards.length scap) ∧ x.cell? ⟨w.heap.size, 3, none⟩ = some (.slice na d.net.length ncap) ∧ x.cell? ⟨w.heap.size + 1, 1, none⟩ = some (.int .i64 mt) ∧ x.cell? ⟨w.heap.size + 1, 2, none⟩ = some (.int .i64 j) ∧ x.cell? ⟨X, 0, none⟩ = some (.slice pa ps.length pcap)))
   refine wpAnyL_take (i := 0) (v := ?_) rfl (by kernel_rfl) (by kernel_rfl) (by kernel_rfl) (by kernel_rfl) (fun _ _ _ h => h) (Or.inl ⟨by rfl, ?_⟩) (by assumption) ?_
   rotate_left
   ·intro w hSw; (try dsimp only at hSw); go_simp; try with_reducible rfl
   (try simp only [Act.put, List.getElem_toArray, List.getElem_cons_succ, List.getElem_cons_zero, List.getElem?_toArray, List.getElem?_cons_succ, List.getElem?_cons_zero, List.setIfInBounds_toArray, List.set_cons_zero, List.set_cons_succ])
   refine wpAnyL_take (i := 1) (v := ?_) rfl (by kernel_rfl) (by kernel_rfl) (by kernel_rfl) (by kernel_rfl) (fun _ _ _ h => h) (Or.inl ⟨by rfl, ?_⟩) (by assumption) ?_
   rotate_left
   ·intro w hSw; (try dsimp only at hSw); go_simp; try with_reducible rfl
   (try simp only [Act.put, List.getElem_toArray, List.getElem_cons_succ, List.getElem_cons_zero, List.getElem?_toArray, List.getElem?_cons_succ, List.getElem?_cons_zero, List.setIfInBounds_toArray, List.set_cons_zero, List.set_cons_succ])
   refine wpAnyL_take (i := 3) (v := ?_) rfl (by kernel_rfl) (by kernel_rfl) (by kernel_rfl) (by kernel_rfl) (fun _ _ _ h => h) (Or.inl ⟨by rfl, ?_⟩) (by assumption) ?_
   rotate_left
   ·intro w hSw; (try dsimp only at hSw); go_simp; try with_reducible rfl
   (try simp only [Act.put, List.getElem_toArray, List.getElem_cons_succ, List.getElem_cons_zero, List.getElem?_toArray, List.getElem?_cons_succ, List.getElem?_cons_zero, List.setIfInBounds_toArray, List.set_cons_zero, List.set_cons_succ])
   refine wpAnyL_take (i := 5) (v := ?_) rfl (by kernel_rfl) (by kernel_rfl) (by kernel_rfl) (by kernel_rfl) (fun _ _ _ h => h) (Or.inl ⟨by rfl, ?_⟩) (by assumption) ?_
   rotate_left
   ·intro w hSw; (try dsimp only at hSw); go_simp; try with_reducible rfl
   (try simp only [Act.put, List.getElem_toArray, List.getElem_cons_succ, List.getElem_cons_zero, List.getElem?_toArray, List.getElem?_cons_succ, List.getElem?_cons_zero, List.setIfInBounds_toArray, List.set_cons_zero, List.set_cons_succ])
   refine wpAnyL_take (i := 7) (v := ?_) rfl (by kernel_rfl) (by kernel_rfl) (by kernel_rfl) (by kernel_rfl) (fun _ _ _ h => h) (Or.inl ⟨by rfl, ?_⟩) (by assumption) ?_
   rotate_left
   ·intro w hSw; (try dsimp only at hSw); go_simp; try with_reducible rfl
   (try simp only [Act.put, List.getElem_toArray, List.getElem_cons_succ, List.getElem_cons_zero, List.getElem?_toArray, List.getElem?_cons_succ, List.getElem?_cons_zero, List.setIfInBounds_toArray, List.set_cons_zero, List.set_cons_succ])
   refine wpAnyL_take (i := 9) (v := ?_) rfl (by kernel_rfl) (by kernel_rfl) (by kernel_rfl) (by kernel_rfl) (fun _ _ _ h => h) (Or.inl ⟨by rfl, ?_⟩) (by assumption) ?_
   rotate_left
   ·intro w hSw; (try dsimp only at hSw); go_simp; try with_reducible rfl
   (try simp only [Act.put, List.getElem_toArray, List.getElem_cons_succ, List.getElem_cons_zero, List.getElem?_toArray, List.getElem?_cons_succ, List.getElem?_cons_zero, List.setIfInBounds_toArray, List.set_cons_zero, List.set_cons_succ])
   refine wpAnyL_take (i := 2) (v := ?_) rfl (by kernel_rfl) (by kernel_rfl) (by kernel_rfl) (by kernel_rfl) (fun _ _ _ h => h) (Or.inl ⟨by rfl, ?_⟩) (by assumption) ?_
   rotate_left
   ·intro w hSw; (try dsimp only at hSw); go_simp; try with_reducible rfl
   (try simp only [Act.put, List.getElem_toArray, List.getElem_cons_succ, List.getElem_cons_zero, List.getElem?_toArray, List.getElem?_cons_succ, List.getElem?_cons_zero, List.setIfInBounds_toArray, List.set_cons_zero, List.set_cons_succ])
   refine wpAnyL_take (i := 6) (v := ?_) rfl (by kernel_rfl) (by kernel_rfl) (by kernel_rfl) (by kernel_rfl) (fun _ _ _ h => h) (Or.inl ⟨by rfl, ?_⟩) (by assumption) ?_
   rotate_left
   ·intro w hSw; (try dsimp only at hSw); go_simp; try with_reducible rfl
   (try simp only [Act.put, List.getElem_toArray, List.getElem_cons_succ, List.getElem_cons_zero, List.getElem?_toArray, List.getElem?_cons_succ, List.getElem?_cons_zero, List.setIfInBounds_toArray, List.set_cons_zero, List.set_cons_succ])
   refine wpAnyL_take (i := 8) (v := ?_) rfl (by kernel_rfl) (by kernel_rfl) (by kernel_rfl) (by kernel_rfl) (fun _ _ _ h => h) (Or.inl ⟨by rfl, ?_⟩) (by assumption) ?_
   rotate_left
   ·intro w hSw; (try dsimp only at hSw); go_simp; try with_reducible rfl
   (try simp only [Act.put, List.getElem_toArray, List.getElem_cons_succ, List.getElem_cons_zero, List.getElem?_toArray, List.getElem?_cons_succ, List.getElem?_cons_zero, List.setIfInBounds_toArray, List.set_cons_zero, List.set_cons_succ])
   refine wpAnyL_take (i := 10) (v := ?_) rfl (by kernel_rfl) (by kernel_rfl) (by kernel_rfl) (by kernel_rfl) (fun _ _ _ h => h) (Or.inl ⟨by rfl, ?_⟩) (by assumption) ?_
   rotate_left
   ·intro w hSw; (try dsimp only at hSw); go_simp; try with_reducible rfl
   (try simp only [Act.put, List.getElem_toArray, List.getElem_cons_succ, List.getElem_cons_zero, List.getElem?_toArray, List.getElem?_cons_succ, List.getElem?_cons_zero, List.setIfInBounds_toArray, List.set_cons_zero, List.set_cons_succ])
   refine wpAnyL_ready (rs := [4]) (by kernel_rfl) (by simp) ?_
   refine AllReadyL.cons rfl (fun K hK => ?_) AllReadyL.nil
   go_simp
   go_at_call 182
   refine (l51Put_any lo _ _ _ _ _ d j ps _ (HV.out.grow FN.out) (Nat.le_trans hlo FN.out.size) hjl hsl PR.out).mono ?_
   rintro e w7 ⟨u3, rfl, sr, fr7⟩
   obtain ⟨sc, sccap, hsce, _, _⟩ := sr.shape
   rw [List.length_set] at hsce
   subst hsce
   have SR := hid sr
   have F7 := hid (FN.out.trans fr7.nil)
   have FW := hid (FW.out.trans fr7.nil)
   clear sr fr7
   refine hK.out _ _ (Or.inr ?_) (fun hHeld => ?_)
   ·exact KP.out _ FW.out
   replace hHeld := hHeld.resolve_right (by decide)
   clear hK K
   (try simp only [Act.put, List.getElem_toArray, List.getElem_cons_succ, List.getElem_cons_zero, List.getElem?_toArray, List.getElem?_cons_succ, List.getElem?_cons_zero, List.setIfInBounds_toArray, List.set_cons_zero, List.set_cons_succ])
   refine wpAnyL_ready (rs := [11]) (by kernel_rfl) (by simp) ?_
   refine AllReadyL.cons rfl (fun K hK => ?_) AllReadyL.nil
   go_simp
   go_at_call 157
   refine (l51Post_any lo _ _ _ _ ⟨d.co, d.shards.set j ps, d.net⟩ ⟨2, mt, (j : Int), pb⟩ _ ⟨(HV.out.grow F7.out).1, SR.out, (HV.out.grow F7.out).2.2⟩ (Nat.le_trans hlo F7.out.size)).mono ?_
   rintro e w8 ⟨u4, rfl, nr, fr8⟩
   obtain ⟨nb, nbcap, rfl, _, _⟩ := nr.shape
   have SR := hid (SR.out.tk fr8 (by simp) (by simp) (by simp))
   have NR := hid nr
   have F7 := hid (F7.out.trans fr8.nil)
   have FW := hid (FW.out.trans fr8.nil)
   have G1 := hid (FW.out.keep _ _ B2.out (.inr (by simp)))
   have s4 := fun o => free_of (o := o) G1.out
   have s5 := cell_of (o := 0) G1.out rfl
   have s6 := cell_of (o := 1) G1.out rfl
   have s7 := cell_of (o := 2) G1.out rfl
   have s8 := cell_of (o := 3) G1.out rfl
   have hlG := lt_of_get G1.out
   clear nr fr8
   refine hK.out _ _ (Or.inr ?_) (fun hHeld => ?_)
   ·exact KP.out _ FW.out
   replace hHeld := hHeld.resolve_right (by decide)
   clear hK K
   (try simp only [Act.put, List.getElem_toArray, List.getElem_cons_succ, List.getElem_cons_zero, List.getElem?_toArray, List.getElem?_cons_succ, List.getElem?_cons_zero, List.setIfInBounds_toArray, List.set_cons_zero, List.set_cons_succ])
   refine wpAnyL_one (i := 12) (by kernel_rfl) rfl (fun K hK => ?_)
   go_simp
   refine hK.out _ _ (Or.inl rfl) (fun hHeld => ?_)
   clear hK K hHeld
   (try simp only [Act.put, List.getElem_toArray, List.getElem_cons_succ, List.getElem_cons_zero, List.getElem?_toArray, List.getElem?_cons_succ, List.getElem?_cons_zero, List.setIfInBounds_toArray, List.set_cons_zero, List.set_cons_succ])
   refine wpAnyL_done (by kernel_rfl) ?_ _
   have hset : ∀ rs ∈ d.shards.set j ps, ShI rs := fun rs hrs => by
    rcases List.mem_or_eq_of_mem_set hrs with h | rfl
    ·exact WI.out.2.2.1 _ h
    ·exact SHP.out
   go_wp2
   have F7 := F7.out
   have h4 := box4 (u1 := .slice ta d.co.txns.length tcap) (u2 := .slice oa d.co.order.length ocap) (u3 := .slice sc d.shards.length sccap) (u4 := .slice nb (netPost d.net ⟨2, mt, (j : Int), pb⟩).length nbcap) G1.out
   have g0 := cell_of (o := 0) h4 rfl
   have g1 := cell_of (o := 1) h4 rfl
   have g2 := cell_of (o := 2) h4 rfl
   have g3 := cell_of (o := 3) h4 rfl
   have FT := box4_fr (u1 := .slice ta d.co.txns.length tcap) (u2 := .slice oa d.co.order.length ocap) (u3 := .slice sc d.shards.length sccap) (u4 := .slice nb (netPost d.net ⟨2, mt, (j : Int), pb⟩).length nbcap) G1.out
   exact bodyPost_ret (v := .agg #[.slice ta d.co.txns.length tcap, .slice oa d.co.order.length ocap, .slice sc d.shards.length sccap, .slice nb (netPost d.net ⟨2, mt, (j : Int), pb⟩).length nbcap]) (by simp [results, Tryz.results158, go_sem, g0, g1, g2, g3]) rfl ⟨_, _, _, _, ⟨d.co, d.shards.set j ps, netPost d.net ⟨2, mt, (j : Int), pb⟩⟩, rfl, WdR.tk (d := ⟨d.co, d.shards.set j ps, netPost d.net ⟨2, mt, (j : Int), pb⟩⟩) ⟨(HV.out.grow F7).1, SR.out, NR.out⟩ FT (by simp [Apt]), ⟨WI.out.1, by rw [← HS3.out]; simp, hset, netI_post WI.out.2.2.2 ⟨by simp only; omega, by simp only; omega⟩⟩, (((F7.setNew (p := ⟨w.heap.size + 2, 0, none⟩) (by dsimp only; omega) _).setNew (p := ⟨w.heap.size + 2, 1, none⟩) (by dsimp only; omega) _).setNew (p := ⟨w.heap.size + 2, 2, none⟩) (by dsimp only; omega) _).setNew (by dsimp only; omega) _⟩
  ·go_simp
   have BX := hid (heap_alloc_new V (.cells #[.slice none 0 0] 81))
   have hXV : V.heap.size ≤ V.heap.size := Nat.le_refl _
   have FW := hid (FW.out.alloc (.cells #[.slice none 0 0] 81))
   have t0 := cell_of (o := 0) BX.out rfl
   have t1 := free_of (o := 0) BX.out
   refine hK.out _ _ (Or.inr ?_) (fun hHeld => ?_)
   ·exact KP.out _ FW.out
   replace hHeld := hHeld.resolve_right (by decide)
   clear hK K
   (try simp only [Act.put, List.getElem_toArray, List.getElem_cons_succ, List.getElem_cons_zero, List.getElem?_toArray, List.getElem?_cons_succ, List.getElem?_cons_zero, List.setIfInBounds_toArray, List.set_cons_zero, List.set_cons_succ])
   refine wpAnyL_ready (rs := [9]) (by kernel_rfl) (by simp) ?_
   refine AllReadyL.cons rfl (fun K hK => ?_) AllReadyL.nil
   go_simp
   go_at_call 77
   refine (specShardPrepare_any (new lo) (new lo) _ _ (d.shards[j]) mt us _ ((RS.out.grow FW0.out).grow ((Fr.refl V.heap.size [] V).alloc (.cells #[.slice none 0 0] 81))) SHI.out.small (HU.out.grow ((Fr.refl V.heap.size [] V).alloc (.cells #[.slice none 0 0] 81))) (by omega)).mono ?_
   rintro e w6 ⟨u6, rfl, own6, fr6⟩
   have SHP := hid (SHI.out.prep mt UL.out)
   generalize hps : prep (d.shards[j]) mt us = pp at *
   obtain ⟨ps, pb⟩ := pp
   clear hps
   obtain ⟨pa, pcap, rfl, _, _⟩ := own6.reads.shape
   have PR := hid (own6.reads.weak (new_low (lo' := lo) (Nat.le_trans hlo (by first | exact hlV | exact Nat.le_trans hlV (by simp)))))
   clear own6
   simp only at SHP
   replace PR : Hid (RecsR (new lo) w6 (.slice pa ps.length pcap) ps) := PR
   have BX := hid (fr6.keep _ _ BX.out (.inr (by simp)))
   have FW := hid (FW.out.trans fr6.nil)
   clear fr6
   have t0 := cell_of (o := 0) BX.out rfl
   have t1 := free_of (o := 0) BX.out
   refine hK.out _ _ (Or.inr ?_) (fun hHeld => ?_)
   ·exact KP.out _ FW.out
   replace hHeld := hHeld.resolve_right (by decide)
   clear hK K
   (try simp only [Act.put, List.getElem_toArray, List.getElem_cons_succ, List.getElem_cons_zero, List.getElem?_toArray, List.getElem?_cons_succ, List.getElem?_cons_zero, List.setIfInBounds_toArray, List.set_cons_zero, List.set_cons_succ])
   refine wpAnyL_take (i := 10) (v := ?_) rfl (by kernel_rfl) (by kernel_rfl) (by kernel_rfl) (by kernel_rfl) (fun _ _ _ h => h) (Or.inl ⟨by rfl, ?_⟩) (by assumption) ?_
   rotate_left
   ·intro w hSw; (try dsimp only at hSw); go_simp; try with_reducible rfl
   (try simp only [Act.put, List.getElem_toArray, List.getElem_cons_succ, List.getElem_cons_zero, List.getElem?_toArray, List.getElem?_cons_succ, List.getElem?_cons_zero, List.setIfInBounds_toArray, List.set_cons_zero, List.set_cons_succ])
   refine wpAnyL_take (i := 11) (v := ?_) rfl (by kernel_rfl) (by kernel_rfl) (by kernel_rfl) (by kernel_rfl) (fun _ _ _ h => h) (Or.inl ⟨by rfl, ?_⟩) (by assumption) ?_
   rotate_left
   ·intro w hSw; (try dsimp only at hSw); go_simp; try with_reducible rfl
   (try simp only [Act.put, List.getElem_toArray, List.getElem_cons_succ, List.getElem_cons_zero, List.getElem?_toArray, List.getElem?_cons_succ, List.getElem?_cons_zero, List.setIfInBounds_toArray, List.set_cons_zero, List.set_cons_succ])
   refine wpAnyL_take (i := 12) (v := ?_) rfl (by kernel_rfl) (by kernel_rfl) (by kernel_rfl) (by kernel_rfl) (fun _ _ _ h => h) (Or.inl ⟨by rfl, ?_⟩) (by assumption) ?_
   rotate_left
   ·intro w hSw; (try dsimp only at hSw); go_simp; try with_reducible rfl
   (try simp only [Act.put, List.getElem_toArray, List.getElem_cons_succ, List.getElem_cons_zero, List.getElem?_toArray, List.getElem?_cons_succ, List.getElem?_cons_zero, List.setIfInBounds_toArray, List.set_cons_zero, List.set_cons_succ])
   refine wpAnyL_ready (rs := [14]) (by kernel_rfl) (by simp) ?_
   refine AllReadyL.cons rfl (fun K hK => ?_) AllReadyL.nil
   go_simp
   have FXS := hid ((Fr.refl 0 [81] w6).setOld (p := ⟨V.heap.size, 0, none⟩) BX.out (Nat.zero_le _) (by simp [otag]) (.slice pa ps.length pcap))
   have BX := hid (block_set BX.out 0 (.slice pa ps.length pcap))
   have PR := hid (PR.out.tk FXS.out (by simp) (by simp))
   have FW := hid (FW.out.setNew (p := ⟨V.heap.size, 0, none⟩) hXV (.slice pa ps.length pcap))
   refine hK.out _ _ (Or.inr ?_) (fun hHeld => ?_)
   ·exact KP.out _ FW.out
   replace hHeld := hHeld.resolve_right (by decide)
   clear hK K
   (try simp only [Act.put, List.getElem_toArray, List.getElem_cons_succ, List.getElem_cons_zero, List.getElem?_toArray, List.getElem?_cons_succ, List.getElem?_cons_zero, List.setIfInBounds_toArray, List.set_cons_zero, List.set_cons_succ])
   refine wpAnyL_one (i := 15) (by kernel_rfl) rfl (fun K hK => ?_)
   go_simp
   refine hK.out _ _ (Or.inl rfl) (fun hHeld => ?_)
   clear hK K hHeld
   (try simp only [Act.put, List.getElem_toArray, List.getElem_cons_succ, List.getElem_cons_zero, List.getElem?_toArray, List.getElem?_cons_succ, List.getElem?_cons_zero, List.setIfInBounds_toArray, List.set_cons_zero, List.set_cons_succ])
   refine wpAnyL_done (by kernel_rfl) ?_ _
   have FN := hid (FW0.out.trans FW.out.nil)
   have B0 := hid (FW.out.keep _ _ B0.out (.inr (by simp)))
   have B1 := hid (FW.out.keep _ _ B1.out (.inr (by simp)))
   have B2 := hid (FW.out.keep _ _ B2.out (.inr (by simp)))
   have NX := hid (⟨Nat.ne_of_gt (Nat.lt_of_lt_of_le hl0 hXV), Nat.ne_of_gt (Nat.lt_of_lt_of_le hl1 hXV), Nat.ne_of_gt (Nat.lt_of_lt_of_le hl2 hXV)⟩ : V.heap.size ≠ w.heap.size ∧ V.heap.size ≠ w.heap.size + 1 ∧ V.heap.size ≠ w.heap.size + 2)
   have BX := hid (show (w6.setCell ⟨V.heap.size, 0, none⟩ (.slice pa ps.length pcap)).heap[V.heap.size]? = some (.cells #[.slice pa ps.length pcap] 81 (0, 0)) by simpa using BX.out)
   have PR := hid PR.out
   clear FW KP hXV FW0 hl0 hl1 hl2 hls hlV hHeld
   obtain ⟨Wn, hWn⟩ : ∃ W' : World, W' = w6.setCell ⟨V.heap.size, 0, none⟩ (.slice pa ps.length pcap) := ⟨_, rfl⟩
   obtain ⟨X, hX⟩ : ∃ X : Nat, X = V.heap.size := ⟨_, rfl⟩
   rw [← hWn] at BX PR FN B0 B1 B2 ⊢
   rw [← hX] at BX NX ⊢
   clear hWn hX
   have NX0 := NX.out.1
   have NX1 := NX.out.2.1
   have NX2 := NX.out.2.2
   have hl0 := lt_of_get B0.out
   have hl1 := lt_of_get B1.out
   have hl2 := lt_of_get B2.out
   have hlX := lt_of_get BX.out
   go_wp2
   refine wp_region_L 12 (S := (fun x => x.cell? ⟨w.heap.size, 0, none⟩ = some (.slice ta d.co.txns.length tcap) ∧ x.cell? ⟨w.heap.size, 1, none⟩ = some (.slice oa d.co.order.length ocap) ∧ x.cell? ⟨w.heap.size, 2, none⟩ = some (.slice (some ⟨sb, soff, none⟩) d.shards.length scap) ∧ x.cell? ⟨w.heap.size, 3, none⟩ = some (.slice na d.net.length ncap) ∧ x.cell? ⟨w.heap.size + 1, 1, none⟩ = some (.int .i64 mt) ∧ x.cell? ⟨w.heap.size + 1, 2, none⟩ = some (.int .i64 j) ∧ x.cell? ⟨X, 0, none⟩ = some (.slice pa ps.length pcap))) (by kernel_rfl) ?_ (fun hHeld => ?_)
   ·have f := (Fr.refl Wn.heap.size [] Wn).drew
    exact ⟨f.cell (lt_of_get B0.out) (cell_of (o := 0) B0.out rfl), f.cell (lt_of_get B0.out) (cell_of (o := 1) B0.out rfl), f.cell (lt_of_get B0.out) (cell_of (o := 2) B0.out rfl), f.cell (lt_of_get B0.out) (cell_of (o := 3) B0.out rfl), f.cell (lt_of_get B1.out) (cell_of (o := 1) B1.out rfl), f.cell (lt_of_get B1.out) (cell_of (o := 2) B1.out rfl), f.cell (lt_of_get BX.out) (cell_of (o := 0) BX.out rfl)⟩
   have FD := (Fr.refl Wn.heap.size [] Wn).drew
   replace B0 := hid (FD.keep _ _ B0.out (.inr (by simp)))
   replace B1 := hid (FD.keep _ _ B1.out (.inr (by simp)))
   replace B2 := hid (FD.keep _ _ B2.out (.inr (by simp)))
   replace BX := hid (FD.keep _ _ BX.out (.inr (by simp)))
   replace PR := hid (PR.out.tk FD (by simp) (by simp))
   replace FN := hid (FN.out.trans FD.nil)
   clear FD hl0 hl1 hl2 hlX
   generalize Wn.drew = V2 at *
   have hl0 := lt_of_get B0.out
   have hl1 := lt_of_get B1.out
   have hl2 := lt_of_get B2.out
   have hlX := lt_of_get BX.out
   have FW := hid (Fr.refl V2.heap.size [] V2)
   have KP := hid (fun (x : World) (f : Fr V2.heap.size [] V2 x) => (⟨f.cell hl0 (cell_of (o := 0) B0.out rfl), f.cell hl0 (cell_of (o := 1) B0.out rfl), f.cell hl0 (cell_of (o := 2) B0.out rfl), f.cell hl0 (cell_of (o := 3) B0.out rfl), f.cell hl1 (cell_of (o := 1) B1.out rfl), f.cell hl1 (cell_of (o := 2) B1.out rfl), f.cell hlX (cell_of (o := 0) BX.out rfl)⟩ : x.cell? ⟨w.heap.size, 0, none⟩ = some (.slice ta d.co.txns.length tcap) ∧ x.cell? ⟨w.heap.size, 1, none⟩ = some (.slice oa d.co.order.length ocap) ∧ x.cell? ⟨w.heap.size, 2, none⟩ = some (.slice (some ⟨sb, soff, none⟩) d.shards.length scap) ∧ x.cell? ⟨w.heap.size, 3, none⟩ = some (.slice na d.net.length ncap) ∧ x.cell? ⟨w.heap.size + 1, 1, none⟩ = some (.int .i64 mt) ∧ x.cell? ⟨w.heap.size + 1, 2, none⟩ = some (.int .i64 j) ∧ x.cell? ⟨X, 0, none⟩ = some (.slice pa ps.length pcap)))
   refine wpAnyL_take (i := 0) (v := ?_) rfl (by kernel_rfl) (by kernel_rfl) (by kernel_rfl) (by kernel_rfl) (fun _ _ _ h => h) (Or.inl ⟨by rfl, ?_⟩) (by assumption) ?_
   rotate_left
   ·intro w hSw; (try dsimp only at hSw); go_simp; try with_reducible rfl
   (try simp only [Act.put, List.getElem_toArray, List.getElem_cons_succ, List.getElem_cons_zero, List.getElem?_toArray, List.getElem?_cons_succ, List.getElem?_cons_zero, List.setIfInBounds_toArray, List.set_cons_zero, List.set_cons_succ])
   refine wpAnyL_take (i := 1) (v := ?_) rfl (by kernel_rfl) (by kernel_rfl) (by kernel_rfl) (by kernel_rfl) (fun _ _ _ h => h) (Or.inl ⟨by rfl, ?_⟩) (by assumption) ?_
   rotate_left
   ·intro w hSw; (try dsimp only at hSw); go_simp; try with_reducible rfl
   (try simp only [Act.put, List.getElem_toArray, List.getElem_cons_succ, List.getElem_cons_zero, List.getElem?_toArray, List.getElem?_cons_succ, List.getElem?_cons_zero, List.setIfInBounds_toArray, List.set_cons_zero, List.set_cons_succ])
   refine wpAnyL_take (i := 3) (v := ?_) rfl (by kernel_rfl) (by kernel_rfl) (by kernel_rfl) (by kernel_rfl) (fun _ _ _ h => h) (Or.inl ⟨by rfl, ?_⟩) (by assumption) ?_
   rotate_left
   ·intro w hSw; (try dsimp only at hSw); go_simp; try with_reducible rfl
   (try simp only [Act.put, List.getElem_toArray, List.getElem_cons_succ, List.getElem_cons_zero, List.getElem?_toArray, List.getElem?_cons_succ, List.getElem?_cons_zero, List.setIfInBounds_toArray, List.set_cons_zero, List.set_cons_succ])
   refine wpAnyL_take (i := 5) (v := ?_) rfl (by kernel_rfl) (by kernel_rfl) (by kernel_rfl) (by kernel_rfl) (fun _ _ _ h => h) (Or.inl ⟨by rfl, ?_⟩) (by assumption) ?_
   rotate_left
   ·intro w hSw; (try dsimp only at hSw); go_simp; try with_reducible rfl
   (try simp only [Act.put, List.getElem_toArray, List.getElem_cons_succ, List.getElem_cons_zero, List.getElem?_toArray, List.getElem?_cons_succ, List.getElem?_cons_zero, List.setIfInBounds_toArray, List.set_cons_zero, List.set_cons_succ])
   refine wpAnyL_take (i := 7) (v := ?_) rfl (by kernel_rfl) (by kernel_rfl) (by kernel_rfl) (by kernel_rfl) (fun _ _ _ h => h) (Or.inl ⟨by rfl, ?_⟩) (by assumption) ?_
   rotate_left
   ·intro w hSw; (try dsimp only at hSw); go_simp; try with_reducible rfl
   (try simp only [Act.put, List.getElem_toArray, List.getElem_cons_succ, List.getElem_cons_zero, List.getElem?_toArray, List.getElem?_cons_succ, List.getElem?_cons_zero, List.setIfInBounds_toArray, List.set_cons_zero, List.set_cons_succ])
   refine wpAnyL_take (i := 9) (v := ?_) rfl (by kernel_rfl) (by kernel_rfl) (by kernel_rfl) (by kernel_rfl) (fun _ _ _ h => h) (Or.inl ⟨by rfl, ?_⟩) (by assumption) ?_
   rotate_left
   ·intro w hSw; (try dsimp only at hSw); go_simp; try with_reducible rfl
   (try simp only [Act.put, List.getElem_toArray, List.getElem_cons_succ, List.getElem_cons_zero, List.getElem?_toArray, List.getElem?_cons_succ, List.getElem?_cons_zero, List.setIfInBounds_toArray, List.set_cons_zero, List.set_cons_succ])
   refine wpAnyL_take (i := 2) (v := ?_) rfl (by kernel_rfl) (by kernel_rfl) (by kernel_rfl) (by kernel_rfl) (fun _ _ _ h => h) (Or.inl ⟨by rfl, ?_⟩) (by assumption) ?_
   rotate_left
   ·intro w hSw; (try dsimp only at hSw); go_simp; try with_reducible rfl
   (try simp only [Act.put, List.getElem_toArray, List.getElem_cons_succ, List.getElem_cons_zero, List.getElem?_toArray, List.getElem?_cons_succ, List.getElem?_cons_zero, List.setIfInBounds_toArray, List.set_cons_zero, List.set_cons_succ])
   refine wpAnyL_take (i := 6) (v := ?_) rfl (by kernel_rfl) (by kernel_rfl) (by kernel_rfl) (by kernel_rfl) (fun _ _ _ h => h) (Or.inl ⟨by rfl, ?_⟩) (by assumption) ?_
   rotate_left
   ·intro w hSw; (try dsimp only at hSw); go_simp; try with_reducible rfl
   (try simp only [Act.put, List.getElem_toArray, List.getElem_cons_succ, List.getElem_cons_zero, List.getElem?_toArray, List.getElem?_cons_succ, List.getElem?_cons_zero, List.setIfInBounds_toArray, List.set_cons_zero, List.set_cons_succ])
   refine wpAnyL_take (i := 8) (v := ?_) rfl (by kernel_rfl) (by kernel_rfl) (by kernel_rfl) (by kernel_rfl) (fun _ _ _ h => h) (Or.inl ⟨by rfl, ?_⟩) (by assumption) ?_
   rotate_left
   ·intro w hSw; (try dsimp only at hSw); go_simp; try with_reducible rfl
   (try simp only [Act.put, List.getElem_toArray, List.getElem_cons_succ, List.getElem_cons_zero, List.getElem?_toArray, List.getElem?_cons_succ, List.getElem?_cons_zero, List.setIfInBounds_toArray, List.set_cons_zero, List.set_cons_succ])
   refine wpAnyL_take (i := 10) (v := ?_) rfl (by kernel_rfl) (by kernel_rfl) (by kernel_rfl) (by kernel_rfl) (fun _ _ _ h => h) (Or.inl ⟨by rfl, ?_⟩) (by assumption) ?_
   rotate_left
   ·intro w hSw; (try dsimp only at hSw); go_simp; try with_reducible rfl
   (try simp only [Act.put, List.getElem_toArray, List.getElem_cons_succ, List.getElem_cons_zero, List.getElem?_toArray, List.getElem?_cons_succ, List.getElem?_cons_zero, List.setIfInBounds_toArray, List.set_cons_zero, List.set_cons_succ])
   refine wpAnyL_ready (rs := [4]) (by kernel_rfl) (by simp) ?_
   refine AllReadyL.cons rfl (fun K hK => ?_) AllReadyL.nil
   go_simp
   go_at_call 182
   refine (l51Put_any lo _ _ _ _ _ d j ps _ (HV.out.grow FN.out) (Nat.le_trans hlo FN.out.size) hjl hsl PR.out).mono ?_
   rintro e w7 ⟨u3, rfl, sr, fr7⟩
   obtain ⟨sc, sccap, hsce, _, _⟩ := sr.shape
   rw [List.length_set] at hsce
   subst hsce
   have SR := hid sr
   have F7 := hid (FN.out.trans fr7.nil)
   have FW := hid (FW.out.trans fr7.nil)
   clear sr fr7
   refine hK.out _ _ (Or.inr ?_) (fun hHeld => ?_)
   ·exact KP.out _ FW.out
   replace hHeld := hHeld.resolve_right (by decide)
   clear hK K
   (try simp only [Act.put, List.getElem_toArray, List.getElem_cons_succ, List.getElem_cons_zero, List.getElem?_toArray, List.getElem?_cons_succ, List.getElem?_cons_zero, List.setIfInBounds_toArray, List.set_cons_zero, List.set_cons_succ])
   refine wpAnyL_ready (rs := [11]) (by kernel_rfl) (by simp) ?_
   refine AllReadyL.cons rfl (fun K hK => ?_) AllReadyL.nil
   go_simp
   go_at_call 157
   refine (l51Post_any lo _ _ _ _ ⟨d.co, d.shards.set j ps, d.net⟩ ⟨2, mt, (j : Int), pb⟩ _ ⟨(HV.out.grow F7.out).1, SR.out, (HV.out.grow F7.out).2.2⟩ (Nat.le_trans hlo F7.out.size)).mono ?_
   rintro e w8 ⟨u4, rfl, nr, fr8⟩
   obtain ⟨nb, nbcap, rfl, _, _⟩ := nr.shape
   have SR := hid (SR.out.tk fr8 (by simp) (by simp) (by simp))
   have NR := hid nr
   have F7 := hid (F7.out.trans fr8.nil)
   have FW := hid (FW.out.trans fr8.nil)
   have G1 := hid (FW.out.keep _ _ B2.out (.inr (by simp)))
   have s4 := fun o => free_of (o := o) G1.out
   have s5 := cell_of (o := 0) G1.out rfl
   have s6 := cell_of (o := 1) G1.out rfl
   have s7 := cell_of (o := 2) G1.out rfl
   have s8 := cell_of (o := 3) G1.out rfl
   have hlG := lt_of_get G1.out
   clear nr fr8
   refine hK.out _ _ (Or.inr ?_) (fun hHeld => ?_)
   ·exact KP.out _ FW.out
   replace hHeld := hHeld.resolve_right (by decide)
   clear hK K
   (try simp only [Act.put, List.getElem_toArray, List.getElem_cons_succ, List.getElem_cons_zero, List.getElem?_toArray, List.getElem?_cons_succ, List.getElem?_cons_zero, List.setIfInBounds_toArray, List.set_cons_zero, List.set_cons_succ])
   refine wpAnyL_one (i := 12) (by kernel_rfl) rfl (fun K hK => ?_)
   go_simp
   refine hK.out _ _ (Or.inl rfl) (fun hHeld => ?_)
   clear hK K hHeld
   (try simp only [Act.put, List.getElem_toArray, List.getElem_cons_succ, List.getElem_cons_zero, List.getElem?_toArray, List.getElem?_cons_succ, List.getElem?_cons_zero, List.setIfInBounds_toArray, List.set_cons_zero, List.set_cons_succ])
   refine wpAnyL_done (by kernel_rfl) ?_ _
   have hset : ∀ rs ∈ d.shards.set j ps, ShI rs := fun rs hrs => by
    rcases List.mem_or_eq_of_mem_set hrs with h | rfl
    ·exact WI.out.2.2.1 _ h
    ·exact SHP.out
   go_wp2
   have F7 := F7.out
   have h4 := box4 (u1 := .slice ta d.co.txns.length tcap) (u2 := .slice oa d.co.order.length ocap) (u3 := .slice sc d.shards.length sccap) (u4 := .slice nb (netPost d.net ⟨2, mt, (j : Int), pb⟩).length nbcap) G1.out
   have g0 := cell_of (o := 0) h4 rfl
   have g1 := cell_of (o := 1) h4 rfl
   have g2 := cell_of (o := 2) h4 rfl
   have g3 := cell_of (o := 3) h4 rfl
   have FT := box4_fr (u1 := .slice ta d.co.txns.length tcap) (u2 := .slice oa d.co.order.length ocap) (u3 := .slice sc d.shards.length sccap) (u4 := .slice nb (netPost d.net ⟨2, mt, (j : Int), pb⟩).length nbcap) G1.out
   exact bodyPost_ret (v := .agg #[.slice ta d.co.txns.length tcap, .slice oa d.co.order.length ocap, .slice sc d.shards.length sccap, .slice nb (netPost d.net ⟨2, mt, (j : Int), pb⟩).length nbcap]) (by simp [results, Tryz.results158, go_sem, g0, g1, g2, g3]) rfl ⟨_, _, _, _, ⟨d.co, d.shards.set j ps, netPost d.net ⟨2, mt, (j : Int), pb⟩⟩, rfl, WdR.tk (d := ⟨d.co, d.shards.set j ps, netPost d.net ⟨2, mt, (j : Int), pb⟩⟩) ⟨(HV.out.grow F7).1, SR.out, NR.out⟩ FT (by simp [Apt]), ⟨WI.out.1, by rw [← HS3.out]; simp, hset, netI_post WI.out.2.2.2 ⟨by simp only; omega, by simp only; omega⟩⟩, (((F7.setNew (p := ⟨w.heap.size + 2, 0, none⟩) (by dsimp only; omega) _).setNew (p := ⟨w.heap.size + 2, 1, none⟩) (by dsimp only; omega) _).setNew (p := ⟨w.heap.size + 2, 2, none⟩) (by dsimp only; omega) _).setNew (by dsimp only; omega) _⟩
 ·by_cases hk2 : mk = 2
  ·subst hk2
   go_enter Tryz.func158, Tryz.ntmps158
   have p4 := fun o => free_of (o := o) B2.out
   go_wp2_with (go_at_call 183; go_must (refine (l51Vote_any lo _ _ _ _ d mt (j : Int) my _ (HV.out.grow FA.out) (Nat.le_trans hlo FA.out.size) WI.out).mono ?_; rintro e w2 ⟨u1, u2, u3, u4, d', rfl, wr, wi, fr2⟩; obtain ⟨ua, ucap, rfl, _, _⟩ := wr.1.1.shape; obtain ⟨ob, obcap, rfl, _, _⟩ := wr.1.2.shape; obtain ⟨sc, sccap, rfl, _, _⟩ := wr.2.1.shape; obtain ⟨nb, nbcap, rfl, _, _⟩ := wr.2.2.shape; have WR := hid wr; have WI' := hid wi; have FR2 := hid fr2; have G1 := hid (fr2.keep _ _ B2.out (.inr (by simp))); have s4 := fun o => free_of (o := o) G1.out; have s5 := cell_of (o := 0) G1.out rfl; have s6 := cell_of (o := 1) G1.out rfl; have s7 := cell_of (o := 2) G1.out rfl; have s8 := cell_of (o := 3) G1.out rfl; have hlG := lt_of_get G1.out; clear wr wi fr2))
   have h4 := box4 (u1 := .slice ua d'.co.txns.length ucap) (u2 := .slice ob d'.co.order.length obcap) (u3 := .slice sc d'.shards.length sccap) (u4 := .slice nb d'.net.length nbcap) G1.out
   have g0 := cell_of (o := 0) h4 rfl
   have g1 := cell_of (o := 1) h4 rfl
   have g2 := cell_of (o := 2) h4 rfl
   have g3 := cell_of (o := 3) h4 rfl
   have FT := box4_fr (u1 := .slice ua d'.co.txns.length ucap) (u2 := .slice ob d'.co.order.length obcap) (u3 := .slice sc d'.shards.length sccap) (u4 := .slice nb d'.net.length nbcap) G1.out
   exact bodyPost_ret (v := .agg #[.slice ua d'.co.txns.length ucap, .slice ob d'.co.order.length obcap, .slice sc d'.shards.length sccap, .slice nb d'.net.length nbcap]) (by simp [results, Tryz.results158, go_sem, g0, g1, g2, g3]) rfl ⟨_, _, _, _, d', rfl, WR.out.tk FT (by simp [Apt]), WI'.out, (((((FA.out.trans FR2.out.nil).setNew (p := ⟨w.heap.size + 2, 0, none⟩) (by dsimp only; omega) _).setNew (p := ⟨w.heap.size + 2, 1, none⟩) (by dsimp only; omega) _).setNew (p := ⟨w.heap.size + 2, 2, none⟩) (by dsimp only; omega) _).setNew (by dsimp only; omega) _)⟩
  ·have QE := True.intro
   go_enter Tryz.func158, Tryz.ntmps158
   go_wp2
   obtain ⟨W, hW⟩ : ∃ W : World, W = ((w.alloc (.cells #[.slice ta d.co.txns.length tcap, .slice oa d.co.order.length ocap, .slice (some ⟨sb, soff, none⟩) d.shards.length scap, .slice na d.net.length ncap] 30)).alloc (.cells #[.int .i64 mk, .int .i64 mt, .int .i64 j, .bool my] 47)).alloc (.cells #[.slice none 0 0, .slice none 0 0, .slice none 0 0, .slice none 0 0] 30) := ⟨_, rfl⟩
   rw [← hW] at B0 B1 B2 FA y0 ⊢
   clear hW
   have QCL := True.intro
   have hlsW := World.block_lt_of_cell? _ _ y0
   refine wp_region_L 16 (S := (fun x => x.cell? ⟨w.heap.size, 2, none⟩ = some (.slice (some ⟨sb, soff, none⟩) d.shards.length scap) ∧ x.cell? ⟨w.heap.size + 1, 1, none⟩ = some (.int .i64 mt) ∧ x.cell? ⟨w.heap.size + 1, 2, none⟩ = some (.int .i64 j) ∧ x.cell? ⟨w.heap.size + 1, 3, none⟩ = some (.bool my) ∧ x.cell? ⟨sb, soff + j, none⟩ = some (.slice ra (d.shards[j]).length rcap))) (by kernel_rfl) ?_ (fun hHeld => ?_)
   ·have f := (Fr.refl W.heap.size [] W).drew
    exact ⟨f.cell (lt_of_get B0.out) (cell_of (o := 2) B0.out rfl), f.cell (lt_of_get B1.out) (cell_of (o := 1) B1.out rfl), f.cell (lt_of_get B1.out) (cell_of (o := 2) B1.out rfl), f.cell (lt_of_get B1.out) (cell_of (o := 3) B1.out rfl), f.cell hlsW y0⟩
   have FD := (Fr.refl W.heap.size [] W).drew
   have y1 := FD.cell hlsW y0
   replace B0 := hid (FD.keep _ _ B0.out (.inr (by simp)))
   replace B1 := hid (FD.keep _ _ B1.out (.inr (by simp)))
   replace B2 := hid (FD.keep _ _ B2.out (.inr (by simp)))
   have FW0 := hid (FA.out.trans FD.nil)
   clear FD FA y0 hlsW QCL
   generalize W.drew = V at *
   have hl0 := lt_of_get B0.out
   have hl1 := lt_of_get B1.out
   have hl2 := lt_of_get B2.out
   have hls := World.block_lt_of_cell? _ _ y1
   have hlV := FW0.out.size
   have FW := hid (Fr.refl V.heap.size [] V)
   have KP := hid (fun (x : World) (f : Fr V.heap.size [] V x) => (⟨f.cell hl0 (cell_of (o := 2) B0.out rfl), f.cell hl1 (cell_of (o := 1) B1.out rfl), f.cell hl1 (cell_of (o := 2) B1.out rfl), f.cell hl1 (cell_of (o := 3) B1.out rfl), f.cell hls y1⟩ : x.cell? ⟨w.heap.size, 2, none⟩ = some (.slice (some ⟨sb, soff, none⟩) d.shards.length scap) ∧ x.cell? ⟨w.heap.size + 1, 1, none⟩ = some (.int .i64 mt) ∧ x.cell? ⟨w.heap.size + 1, 2, none⟩ = some (.int .i64 j) ∧ x.cell? ⟨w.heap.size + 1, 3, none⟩ = some (.bool my) ∧ x.cell? ⟨sb, soff + j, none⟩ = some (.slice ra (d.shards[j]).length rcap)))
   refine wpAnyL_take (i := 0) (v := ?_) rfl (by kernel_rfl) (by kernel_rfl) (by kernel_rfl) (by kernel_rfl) (fun _ _ _ h => h) (Or.inl ⟨by rfl, ?_⟩) (by assumption) ?_
   rotate_left
   ·intro w hSw; (try dsimp only at hSw); go_simp; try with_reducible rfl
   (try simp only [Act.put, List.getElem_toArray, List.getElem_cons_succ, List.getElem_cons_zero, List.getElem?_toArray, List.getElem?_cons_succ, List.getElem?_cons_zero, List.setIfInBounds_toArray, List.set_cons_zero, List.set_cons_succ])
   refine wpAnyL_take (i := 2) (v := ?_) rfl (by kernel_rfl) (by kernel_rfl) (by kernel_rfl) (by kernel_rfl) (fun _ _ _ h => h) (Or.inl ⟨by rfl, ?_⟩) (by assumption) ?_
   rotate_left
   ·intro w hSw; (try dsimp only at hSw); go_simp; try with_reducible rfl
   (try simp only [Act.put, List.getElem_toArray, List.getElem_cons_succ, List.getElem_cons_zero, List.getElem?_toArray, List.getElem?_cons_succ, List.getElem?_cons_zero, List.setIfInBounds_toArray, List.set_cons_zero, List.set_cons_succ])
   refine wpAnyL_take (i := 6) (v := ?_) rfl (by kernel_rfl) (by kernel_rfl) (by kernel_rfl) (by kernel_rfl) (fun _ _ _ h => h) (Or.inl ⟨by rfl, ?_⟩) (by assumption) ?_
   rotate_left
   ·intro w hSw; (try dsimp only at hSw); go_simp; try with_reducible rfl
   (try simp only [Act.put, List.getElem_toArray, List.getElem_cons_succ, List.getElem_cons_zero, List.getElem?_toArray, List.getElem?_cons_succ, List.getElem?_cons_zero, List.setIfInBounds_toArray, List.set_cons_zero, List.set_cons_succ])
   refine wpAnyL_take (i := 8) (v := ?_) rfl (by kernel_rfl) (by kernel_rfl) (by kernel_rfl) (by kernel_rfl) (fun _ _ _ h => h) (Or.inl ⟨by rfl, ?_⟩) (by assumption) ?_
   rotate_left
   ·intro w hSw; (try dsimp only at hSw); go_simp; try with_reducible rfl
   (try simp only [Act.put, List.getElem_toArray, List.getElem_cons_succ, List.getElem_cons_zero, List.getElem?_toArray, List.getElem?_cons_succ, List.getElem?_cons_zero, List.setIfInBounds_toArray, List.set_cons_zero, List.set_cons_succ])
   refine wpAnyL_take (i := 1) (v := ?_) rfl (by kernel_rfl) (by kernel_rfl) (by kernel_rfl) (by kernel_rfl) (fun _ _ _ h => h) (Or.inl ⟨by rfl, ?_⟩) (by assumption) ?_
   rotate_left
   ·intro w hSw; (try dsimp only at hSw); go_simp; try with_reducible rfl
   (try simp only [Act.put, List.getElem_toArray, List.getElem_cons_succ, List.getElem_cons_zero, List.getElem?_toArray, List.getElem?_cons_succ, List.getElem?_cons_zero, List.setIfInBounds_toArray, List.set_cons_zero, List.set_cons_succ])
   refine wpAnyL_take (i := 3) (v := ?_) rfl (by kernel_rfl) (by kernel_rfl) (by kernel_rfl) (by kernel_rfl) (fun _ _ _ h => h) (Or.inl ⟨by rfl, ?_⟩) (by assumption) ?_
   rotate_left
   ·intro w hSw; (try dsimp only at hSw); go_simp; try with_reducible rfl
   (try simp only [Act.put, List.getElem_toArray, List.getElem_cons_succ, List.getElem_cons_zero, List.getElem?_toArray, List.getElem?_cons_succ, List.getElem?_cons_zero, List.setIfInBounds_toArray, List.set_cons_zero, List.set_cons_succ])
   refine wpAnyL_take (i := 7) (v := ?_) rfl (by kernel_rfl) (by kernel_rfl) (by kernel_rfl) (by kernel_rfl) (fun _ _ _ h => h) (Or.inl ⟨by rfl, ?_⟩) (by assumption) ?_
   rotate_left
   ·intro w hSw; (try dsimp only at hSw); go_simp; try with_reducible rfl
   (try simp only [Act.put, List.getElem_toArray, List.getElem_cons_succ, List.getElem_cons_zero, List.getElem?_toArray, List.getElem?_cons_succ, List.getElem?_cons_zero, List.setIfInBounds_toArray, List.set_cons_zero, List.set_cons_succ])
   refine wpAnyL_take (i := 9) (v := ?_) rfl (by kernel_rfl) (by kernel_rfl) (by kernel_rfl) (by kernel_rfl) (fun _ _ _ h => h) (Or.inl ⟨by rfl, ?_⟩) (by assumption) ?_
   rotate_left
   ·intro w hSw; (try dsimp only at hSw); go_simp; try with_reducible rfl
   (try simp only [Act.put, List.getElem_toArray, List.getElem_cons_succ, List.getElem_cons_zero, List.getElem?_toArray, List.getElem?_cons_succ, List.getElem?_cons_zero, List.setIfInBounds_toArray, List.set_cons_zero, List.set_cons_succ])
   refine wpAnyL_take (i := 4) (v := ?_) rfl (by kernel_rfl) (by kernel_rfl) (by kernel_rfl) (by kernel_rfl) (fun _ _ _ h => h) (Or.inl ⟨by rfl, ?_⟩) (by assumption) ?_
   rotate_left
   ·intro w hSw; (try dsimp only at hSw); go_simp; try with_reducible rfl
   (try simp only [Act.put, List.getElem_toArray, List.getElem_cons_succ, List.getElem_cons_zero, List.getElem?_toArray, List.getElem?_cons_succ, List.getElem?_cons_zero, List.setIfInBounds_toArray, List.set_cons_zero, List.set_cons_succ])
   refine wpAnyL_take (i := 5) (v := ?_) rfl (by kernel_rfl) (by kernel_rfl) (by kernel_rfl) (by kernel_rfl) (fun _ _ _ h => h) (Or.inl ⟨by rfl, ?_⟩) (by assumption) ?_
   rotate_left
   ·intro w hSw; (try dsimp only at hSw); go_simp; try with_reducible rfl
   (try simp only [Act.put, List.getElem_toArray, List.getElem_cons_succ, List.getElem_cons_zero, List.getElem?_toArray, List.getElem?_cons_succ, List.getElem?_cons_zero, List.setIfInBounds_toArray, List.set_cons_zero, List.set_cons_succ])
   refine wpAnyL_ready (rs := [10, 14]) (by kernel_rfl) (by simp) ?_
   refine AllReadyL.cons rfl (fun K hK => ?_) (AllReadyL.cons rfl (fun K hK => ?_) AllReadyL.nil)
   ·go_simp
    go_at_call 79
    refine (specShardDecide_any (new lo) _ (d.shards[j]) mt my _ (RS.out.grow FW0.out) SHI.out.small).mono ?_
    rintro e w6 ⟨u6, rfl, own6, fr6⟩
    have SHP := hid (SHI.out.dec mt my)
    generalize hps : dec (d.shards[j]) mt my = pp at *
    obtain ⟨ps, pb⟩ := pp
    clear hps
    obtain ⟨pa, pcap, rfl, _, _⟩ := own6.reads.shape
    have PR := hid (own6.reads.weak (new_low (lo' := lo) (Nat.le_trans hlo (by first | exact hlV | exact Nat.le_trans hlV (by simp)))))
    clear own6
    simp only at SHP
    replace PR : Hid (RecsR (new lo) w6 (.slice pa ps.length pcap) ps) := PR
    have FW := hid (FW.out.trans fr6.nil)
    clear fr6
    refine hK.out _ _ (Or.inr ?_) (fun hHeld => ?_)
    ·exact KP.out _ FW.out
    replace hHeld := hHeld.resolve_right (by decide)
    clear hK K
    (try simp only [Act.put, List.getElem_toArray, List.getElem_cons_succ, List.getElem_cons_zero, List.getElem?_toArray, List.getElem?_cons_succ, List.getElem?_cons_zero, List.setIfInBounds_toArray, List.set_cons_zero, List.set_cons_succ])
    refine wpAnyL_take (i := 11) (v := ?_) rfl (by kernel_rfl) (by kernel_rfl) (by kernel_rfl) (by kernel_rfl) (fun _ _ _ h => h) (Or.inl ⟨by rfl, ?_⟩) (by assumption) ?_
    rotate_left
    ·intro w hSw; (try dsimp only at hSw); go_simp; try with_reducible rfl
    (try simp only [Act.put, List.getElem_toArray, List.getElem_cons_succ, List.getElem_cons_zero, List.getElem?_toArray, List.getElem?_cons_succ, List.getElem?_cons_zero, List.setIfInBounds_toArray, List.set_cons_zero, List.set_cons_succ])
    refine wpAnyL_take (i := 12) (v := ?_) rfl (by kernel_rfl) (by kernel_rfl) (by kernel_rfl) (by kernel_rfl) (fun _ _ _ h => h) (Or.inl ⟨by rfl, ?_⟩) (by assumption) ?_
    rotate_left
    ·intro w hSw; (try dsimp only at hSw); go_simp; try with_reducible rfl
    (try simp only [Act.put, List.getElem_toArray, List.getElem_cons_succ, List.getElem_cons_zero, List.getElem?_toArray, List.getElem?_cons_succ, List.getElem?_cons_zero, List.setIfInBounds_toArray, List.set_cons_zero, List.set_cons_succ])
    refine wpAnyL_take (i := 13) (v := ?_) rfl (by kernel_rfl) (by kernel_rfl) (by kernel_rfl) (by kernel_rfl) (fun _ _ _ h => h) (Or.inl ⟨by rfl, ?_⟩) (by assumption) ?_
    rotate_left
    ·intro w hSw; (try dsimp only at hSw); go_simp; try with_reducible rfl
    (try simp only [Act.put, List.getElem_toArray, List.getElem_cons_succ, List.getElem_cons_zero, List.getElem?_toArray, List.getElem?_cons_succ, List.getElem?_cons_zero, List.setIfInBounds_toArray, List.set_cons_zero, List.set_cons_succ])
    refine wpAnyL_ready (rs := [14]) (by kernel_rfl) (by simp) ?_
    refine AllReadyL.cons rfl (fun K hK => ?_) AllReadyL.nil
    go_simp
    have BX := hid (heap_alloc_new w6 (.cells #[.slice none 0 0] 81))
    have PR6 := hid PR.out
    have FW6 := hid FW.out
    have PR := hid (PR.out.grow ((Fr.refl 0 [] w6).alloc (.cells #[.slice none 0 0] 81)))
    have hXV : V.heap.size ≤ w6.heap.size := FW.out.size
    have FW := hid (FW.out.alloc (.cells #[.slice none 0 0] 81))
    have t0 := cell_of (o := 0) BX.out rfl
    have t1 := free_of (o := 0) BX.out
    refine hK.out _ _ (Or.inr ?_) (fun hHeld => ?_)
    ·exact KP.out _ FW.out
    replace hHeld := hHeld.resolve_right (by decide)
    clear hK K
    (try simp only [Act.put, List.getElem_toArray, List.getElem_cons_succ, List.getElem_cons_zero, List.getElem?_toArray, List.getElem?_cons_succ, List.getElem?_cons_zero, List.setIfInBounds_toArray, List.set_cons_zero, List.set_cons_succ])
    refine wpAnyL_ready (rs := [15]) (by kernel_rfl) (by simp) ?_
    refine AllReadyL.cons rfl (fun K hK => ?_) AllReadyL.nil
    go_simp
    have BX := hid (heap_alloc_new w6 (.cells #[.slice pa ps.length pcap] 81))
    have PR := hid (PR6.out.grow ((Fr.refl 0 [] w6).alloc (.cells #[.slice pa ps.length pcap] 81)))
    have FW := hid (FW6.out.alloc (.cells #[.slice pa ps.length pcap] 81))
    refine hK.out _ _ (Or.inr ?_) (fun hHeld => ?_)
    ·exact KP.out _ FW.out
    replace hHeld := hHeld.resolve_right (by decide)
    clear hK K
    (try simp only [Act.put, List.getElem_toArray, List.getElem_cons_succ, List.getElem_cons_zero, List.getElem?_toArray, List.getElem?_cons_succ, List.getElem?_cons_zero, List.setIfInBounds_toArray, List.set_cons_zero, List.set_cons_succ])
    refine wpAnyL_one (i := 16) (by kernel_rfl) rfl (fun K hK => ?_)
    go_simp
    refine hK.out _ _ (Or.inl rfl) (fun hHeld => ?_)
    clear hK K hHeld
    (try simp only [Act.put, List.getElem_toArray, List.getElem_cons_succ, List.getElem_cons_zero, List.getElem?_toArray, List.getElem?_cons_succ, List.getElem?_cons_zero, List.setIfInBounds_toArray, List.set_cons_zero, List.set_cons_succ])
    refine wpAnyL_done (by kernel_rfl) ?_ _
    have FN := hid (FW0.out.trans FW.out.nil)
    have B0 := hid (FW.out.keep _ _ B0.out (.inr (by simp)))
    have B1 := hid (FW.out.keep _ _ B1.out (.inr (by simp)))
    have B2 := hid (FW.out.keep _ _ B2.out (.inr (by simp)))
    have NX := hid (⟨Nat.ne_of_gt (Nat.lt_of_lt_of_le hl0 hXV), Nat.ne_of_gt (Nat.lt_of_lt_of_le hl1 hXV), Nat.ne_of_gt (Nat.lt_of_lt_of_le hl2 hXV)⟩ : w6.heap.size ≠ w.heap.size ∧ w6.heap.size ≠ w.heap.size + 1 ∧ w6.heap.size ≠ w.heap.size + 2)
    have BX := hid (show (w6.alloc (.cells #[.slice pa ps.length pcap] 81)).heap[w6.heap.size]? = some (.cells #[.slice pa ps.length pcap] 81 (0, 0)) by simpa using BX.out)
    have PR := hid PR.out
    clear FW KP hXV FW0 hl0 hl1 hl2 hls hlV hHeld
    obtain ⟨Wn, hWn⟩ : ∃ W' : World, W' = w6.alloc (.cells #[.slice pa ps.length pcap] 81) := ⟨_, rfl⟩
    obtain ⟨X, hX⟩ : ∃ X : Nat, X = w6.heap.size := ⟨_, rfl⟩
    rw [← hWn] at BX PR FN B0 B1 B2 ⊢
    rw [← hX] at BX NX ⊢
    clear hWn hX
    have NX0 := NX.out.1
    have NX1 := NX.out.2.1
    have NX2 := NX.out.2.2
    have hl0 := lt_of_get B0.out
    have hl1 := lt_of_get B1.out
    have hl2 := lt_of_get B2.out
    have hlX := lt_of_get BX.out
    have hset : ∀ rs ∈ d.shards.set j ps, ShI rs := fun rs hrs => by
     rcases List.mem_or_eq_of_mem_set hrs with h | rfl
     ·exact WI.out.2.2.1 _ h
     ·exact SHP.out
    have e0 := cell_of (o := 0) B0.out rfl
    have e1 := cell_of (o := 1) B0.out rfl
    have e2 := cell_of (o := 2) B0.out rfl
    have e3 := cell_of (o := 3) B0.out rfl
    have e4 := cell_of (o := 2) B1.out rfl
    have e5 := cell_of (o := 0) BX.out rfl
    go_wp2_with (go_at_call 182; go_must (refine (l51Put_any lo _ _ _ _ _ d j ps _ (HV.out.grow FN.out) (Nat.le_trans hlo FN.out.size) hjl hsl PR.out).mono ?_; rintro e w7 ⟨u3, rfl, sr, fr7⟩; obtain ⟨sc, sccap, hsce, _, _⟩ := sr.shape; rw [List.length_set] at hsce; subst hsce; have SR := hid sr; have FR7 := hid fr7; have G1 := hid (fr7.keep _ _ B2.out (.inr (by simp))); have s4 := fun o => free_of (o := o) G1.out; have s5 := cell_of (o := 0) G1.out rfl; have s6 := cell_of (o := 1) G1.out rfl; have s7 := cell_of (o := 2) G1.out rfl; have s8 := cell_of (o := 3) G1.out rfl; have hlG := lt_of_get G1.out; clear sr fr7))
    have F7 := FN.out.trans FR7.out.nil
    have h4 := box4 (u1 := .slice ta d.co.txns.length tcap) (u2 := .slice oa d.co.order.length ocap) (u3 := .slice sc d.shards.length sccap) (u4 := .slice na d.net.length ncap) G1.out
    have g0 := cell_of (o := 0) h4 rfl
    have g1 := cell_of (o := 1) h4 rfl
    have g2 := cell_of (o := 2) h4 rfl
    have g3 := cell_of (o := 3) h4 rfl
    have FT := box4_fr (u1 := .slice ta d.co.txns.length tcap) (u2 := .slice oa d.co.order.length ocap) (u3 := .slice sc d.shards.length sccap) (u4 := .slice na d.net.length ncap) G1.out
    exact bodyPost_ret (v := .agg #[.slice ta d.co.txns.length tcap, .slice oa d.co.order.length ocap, .slice sc d.shards.length sccap, .slice na d.net.length ncap]) (by simp [results, Tryz.results158, go_sem, g0, g1, g2, g3]) rfl ⟨_, _, _, _, ⟨d.co, d.shards.set j ps, d.net⟩, rfl, WdR.tk (d := ⟨d.co, d.shards.set j ps, d.net⟩) ⟨(HV.out.grow F7).1, SR.out, (HV.out.grow F7).2.2⟩ FT (by simp [Apt]), ⟨WI.out.1, by rw [← HS3.out]; simp, hset, WI.out.2.2.2⟩, (((F7.setNew (p := ⟨w.heap.size + 2, 0, none⟩) (by dsimp only; omega) _).setNew (p := ⟨w.heap.size + 2, 1, none⟩) (by dsimp only; omega) _).setNew (p := ⟨w.heap.size + 2, 2, none⟩) (by dsimp only; omega) _).setNew (by dsimp only; omega) _⟩
   ·go_simp
    have BX := hid (heap_alloc_new V (.cells #[.slice none 0 0] 81))
    have hXV : V.heap.size ≤ V.heap.size := Nat.le_refl _
    have FW := hid (FW.out.alloc (.cells #[.slice none 0 0] 81))
    have t0 := cell_of (o := 0) BX.out rfl
    have t1 := free_of (o := 0) BX.out
    refine hK.out _ _ (Or.inr ?_) (fun hHeld => ?_)
    ·exact KP.out _ FW.out
    replace hHeld := hHeld.resolve_right (by decide)
    clear hK K
    (try simp only [Act.put, List.getElem_toArray, List.getElem_cons_succ, List.getElem_cons_zero, List.getElem?_toArray, List.getElem?_cons_succ, List.getElem?_cons_zero, List.setIfInBounds_toArray, List.set_cons_zero, List.set_cons_succ])
    refine wpAnyL_ready (rs := [10]) (by kernel_rfl) (by simp) ?_
    refine AllReadyL.cons rfl (fun K hK => ?_) AllReadyL.nil
    go_simp
    go_at_call 79
    refine (specShardDecide_any (new lo) _ (d.shards[j]) mt my _ ((RS.out.grow FW0.out).grow ((Fr.refl V.heap.size [] V).alloc (.cells #[.slice none 0 0] 81))) SHI.out.small).mono ?_
    rintro e w6 ⟨u6, rfl, own6, fr6⟩
    have SHP := hid (SHI.out.dec mt my)
    generalize hps : dec (d.shards[j]) mt my = pp at *
    obtain ⟨ps, pb⟩ := pp
    clear hps
    obtain ⟨pa, pcap, rfl, _, _⟩ := own6.reads.shape
    have PR := hid (own6.reads.weak (new_low (lo' := lo) (Nat.le_trans hlo (by first | exact hlV | exact Nat.le_trans hlV (by simp)))))
    clear own6
    simp only at SHP
    replace PR : Hid (RecsR (new lo) w6 (.slice pa ps.length pcap) ps) := PR
    have BX := hid (fr6.keep _ _ BX.out (.inr (by simp)))
    have FW := hid (FW.out.trans fr6.nil)
    clear fr6
    have t0 := cell_of (o := 0) BX.out rfl
    have t1 := free_of (o := 0) BX.out
    refine hK.out _ _ (Or.inr ?_) (fun hHeld => ?_)
    ·exact KP.out _ FW.out
    replace hHeld := hHeld.resolve_right (by decide)
    clear hK K
    (try simp only [Act.put, List.getElem_toArray, List.getElem_cons_succ, List.getElem_cons_zero, List.getElem?_toArray, List.getElem?_cons_succ, List.getElem?_cons_zero, List.setIfInBounds_toArray, List.set_cons_zero, List.set_cons_succ])
    refine wpAnyL_take (i := 11) (v := ?_) rfl (by kernel_rfl) (by kernel_rfl) (by kernel_rfl) (by kernel_rfl) (fun _ _ _ h => h) (Or.inl ⟨by rfl, ?_⟩) (by assumption) ?_
    rotate_left
    ·intro w hSw; (try dsimp only at hSw); go_simp; try with_reducible rfl
    (try simp only [Act.put, List.getElem_toArray, List.getElem_cons_succ, List.getElem_cons_zero, List.getElem?_toArray, List.getElem?_cons_succ, List.getElem?_cons_zero, List.setIfInBounds_toArray, List.set_cons_zero, List.set_cons_succ])
    refine wpAnyL_take (i := 12) (v := ?_) rfl (by kernel_rfl) (by kernel_rfl) (by kernel_rfl) (by kernel_rfl) (fun _ _ _ h => h) (Or.inl ⟨by rfl, ?_⟩) (by assumption) ?_
    rotate_left
    ·intro w hSw; (try dsimp only at hSw); go_simp; try with_reducible rfl
    (try simp only [Act.put, List.getElem_toArray, List.getElem_cons_succ, List.getElem_cons_zero, List.getElem?_toArray, List.getElem?_cons_succ, List.getElem?_cons_zero, List.setIfInBounds_toArray, List.set_cons_zero, List.set_cons_succ])
    refine wpAnyL_take (i := 13) (v := ?_) rfl (by kernel_rfl) (by kernel_rfl) (by kernel_rfl) (by kernel_rfl) (fun _ _ _ h => h) (Or.inl ⟨by rfl, ?_⟩) (by assumption) ?_
    rotate_left
    ·intro w hSw; (try dsimp only at hSw); go_simp; try with_reducible rfl
    (try simp only [Act.put, List.getElem_toArray, List.getElem_cons_succ, List.getElem_cons_zero, List.getElem?_toArray, List.getElem?_cons_succ, List.getElem?_cons_zero, List.setIfInBounds_toArray, List.set_cons_zero, List.set_cons_succ])
    refine wpAnyL_ready (rs := [15]) (by kernel_rfl) (by simp) ?_
    refine AllReadyL.cons rfl (fun K hK => ?_) AllReadyL.nil
    go_simp
    have FXS := hid ((Fr.refl 0 [81] w6).setOld (p := ⟨V.heap.size, 0, none⟩) BX.out (Nat.zero_le _) (by simp [otag]) (.slice pa ps.length pcap))
    have BX := hid (block_set BX.out 0 (.slice pa ps.length pcap))
    have PR := hid (PR.out.tk FXS.out (by simp) (by simp))
    have FW := hid (FW.out.setNew (p := ⟨V.heap.size, 0, none⟩) hXV (.slice pa ps.length pcap))
    refine hK.out _ _ (Or.inr ?_) (fun hHeld => ?_)
    ·exact KP.out _ FW.out
    replace hHeld := hHeld.resolve_right (by decide)
    clear hK K
    (try simp only [Act.put, List.getElem_toArray, List.getElem_cons_succ, List.getElem_cons_zero, List.getElem?_toArray, List.getElem?_cons_succ, List.getElem?_cons_zero, List.setIfInBounds_toArray, List.set_cons_zero, List.set_cons_succ])
    refine wpAnyL_one (i := 16) (by kernel_rfl) rfl (fun K hK => ?_)
    go_simp
    refine hK.out _ _ (Or.inl rfl) (fun hHeld => ?_)
    clear hK K hHeld
    (try simp only [Act.put, List.getElem_toArray, List.getElem_cons_succ, List.getElem_cons_zero, List.getElem?_toArray, List.getElem?_cons_succ, List.getElem?_cons_zero, List.setIfInBounds_toArray, List.set_cons_zero, List.set_cons_succ])
    refine wpAnyL_done (by kernel_rfl) ?_ _
    have FN := hid (FW0.out.trans FW.out.nil)
    have B0 := hid (FW.out.keep _ _ B0.out (.inr (by simp)))
    have B1 := hid (FW.out.keep _ _ B1.out (.inr (by simp)))
    have B2 := hid (FW.out.keep _ _ B2.out (.inr (by simp)))
    have NX := hid (⟨Nat.ne_of_gt (Nat.lt_of_lt_of_le hl0 hXV), Nat.ne_of_gt (Nat.lt_of_lt_of_le hl1 hXV), Nat.ne_of_gt (Nat.lt_of_lt_of_le hl2 hXV)⟩ : V.heap.size ≠ w.heap.size ∧ V.heap.size ≠ w.heap.size + 1 ∧ V.heap.size ≠ w.heap.size + 2)
    have BX := hid (show (w6.setCell ⟨V.heap.size, 0, none⟩ (.slice pa ps.length pcap)).heap[V.heap.size]? = some (.cells #[.slice pa ps.length pcap] 81 (0, 0)) by simpa using BX.out)
    have PR := hid PR.out
    clear FW KP hXV FW0 hl0 hl1 hl2 hls hlV hHeld
    obtain ⟨Wn, hWn⟩ : ∃ W' : World, W' = w6.setCell ⟨V.heap.size, 0, none⟩ (.slice pa ps.length pcap) := ⟨_, rfl⟩
    obtain ⟨X, hX⟩ : ∃ X : Nat, X = V.heap.size := ⟨_, rfl⟩
    rw [← hWn] at BX PR FN B0 B1 B2 ⊢
    rw [← hX] at BX NX ⊢
    clear hWn hX
    have NX0 := NX.out.1
    have NX1 := NX.out.2.1
    have NX2 := NX.out.2.2
    have hl0 := lt_of_get B0.out
    have hl1 := lt_of_get B1.out
    have hl2 := lt_of_get B2.out
    have hlX := lt_of_get BX.out
    have hset : ∀ rs ∈ d.shards.set j ps, ShI rs := fun rs hrs => by
     rcases List.mem_or_eq_of_mem_set hrs with h | rfl
     ·exact WI.out.2.2.1 _ h
     ·exact SHP.out
    have e0 := cell_of (o := 0) B0.out rfl
    have e1 := cell_of (o := 1) B0.out rfl
    have e2 := cell_of (o := 2) B0.out rfl
    have e3 := cell_of (o := 3) B0.out rfl
    have e4 := cell_of (o := 2) B1.out rfl
    have e5 := cell_of (o := 0) BX.out rfl
    go_wp2_with (go_at_call 182; go_must (refine (l51Put_any lo _ _ _ _ _ d j ps _ (HV.out.grow FN.out) (Nat.le_trans hlo FN.out.size) hjl hsl PR.out).mono ?_; rintro e w7 ⟨u3, rfl, sr, fr7⟩; obtain ⟨sc, sccap, hsce, _, _⟩ := sr.shape; rw [List.length_set] at hsce; subst hsce; have SR := hid sr; have FR7 := hid fr7; have G1 := hid (fr7.keep _ _ B2.out (.inr (by simp))); have s4 := fun o => free_of (o := o) G1.out; have s5 := cell_of (o := 0) G1.out rfl; have s6 := cell_of (o := 1) G1.out rfl; have s7 := cell_of (o := 2) G1.out rfl; have s8 := cell_of (o := 3) G1.out rfl; have hlG := lt_of_get G1.out; clear sr fr7))
    have F7 := FN.out.trans FR7.out.nil
    have h4 := box4 (u1 := .slice ta d.co.txns.length tcap) (u2 := .slice oa d.co.order.length ocap) (u3 := .slice sc d.shards.length sccap) (u4 := .slice na d.net.length ncap) G1.out
    have g0 := cell_of (o := 0) h4 rfl
    have g1 := cell_of (o := 1) h4 rfl
    have g2 := cell_of (o := 2) h4 rfl
    have g3 := cell_of (o := 3) h4 rfl
    have FT := box4_fr (u1 := .slice ta d.co.txns.length tcap) (u2 := .slice oa d.co.order.length ocap) (u3 := .slice sc d.shards.length sccap) (u4 := .slice na d.net.length ncap) G1.out
    exact bodyPost_ret (v := .agg #[.slice ta d.co.txns.length tcap, .slice oa d.co.order.length ocap, .slice sc d.shards.length sccap, .slice na d.net.length ncap]) (by simp [results, Tryz.results158, go_sem, g0, g1, g2, g3]) rfl ⟨_, _, _, _, ⟨d.co, d.shards.set j ps, d.net⟩, rfl, WdR.tk (d := ⟨d.co, d.shards.set j ps, d.net⟩) ⟨(HV.out.grow F7).1, SR.out, (HV.out.grow F7).2.2⟩ FT (by simp [Apt]), ⟨WI.out.1, by rw [← HS3.out]; simp, hset, WI.out.2.2.2⟩, (((F7.setNew (p := ⟨w.heap.size + 2, 0, none⟩) (by dsimp only; omega) _).setNew (p := ⟨w.heap.size + 2, 1, none⟩) (by dsimp only; omega) _).setNew (p := ⟨w.heap.size + 2, 2, none⟩) (by dsimp only; omega) _).setNew (by dsimp only; omega) _⟩

end Go.Proofs.YtknoanpgadecbaaGreatDoor
