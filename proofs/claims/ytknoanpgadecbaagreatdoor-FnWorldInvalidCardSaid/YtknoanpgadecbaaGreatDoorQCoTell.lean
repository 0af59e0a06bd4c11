/- The reference's l51Tell and l51Ask. -/
import Derived.Test.YtknoanpgadecbaaGreatDoorQCoPost
set_option linter.unusedVariables false
set_option linter.unusedSimpArgs false
namespace Go.Proofs.YtknoanpgadecbaaGreatDoor
open Go.RowKit
set_option linter.unusedVariables false

def NetI (ms : List Msg) : Prop := ms.length ≤ 14 ∧ ∀ m ∈ ms, 0 ≤ m.shard ∧ m.shard ≤ 2

theorem netI_post {ms : List Msg} {m : Msg} (h : NetI ms) (hm : 0 ≤ m.shard ∧ m.shard ≤ 2) : NetI (netPost ms m) := by
 unfold netPost
 split
 ·refine ⟨by simp; omega, fun x hx => ?_⟩
  rcases List.mem_append.1 hx with hx | hx
  ·exact h.2 x hx
  ·obtain rfl := List.mem_singleton.1 hx
   exact hm
 ·exact h

set_option maxRecDepth 20000 in
set_option maxHeartbeats 8000000 in
theorem l51Tell_any (lo : Nat) (v1 v2 v3 v4 : Value) (d : Wd) (k : Nat) (w : World) (hv : WdR lo w v1 v2 v3 v4 d) (hlo : lo ≤ w.heap.size) (hk : k < d.co.txns.length) (hi : TnI d.co.txns[k]) (hn : NetI d.net) (htl : d.co.txns.length ≤ 1000000) :
  Calls Tryz.prog 159 #[.agg #[v1, v2, v3, v4], .int .i64 k] w fun e w' =>
   ∃ u4 ms, e = .returned (.agg #[v1, v2, v3, u4]) ∧ NetR lo w' u4 ms ∧ NetI ms ∧ Fr w.heap.size [] w w' := by
 obtain ⟨ta, tcap, rfl, _, htc⟩ := hv.1.1.shape
 obtain ⟨oa, ocap, rfl, _, _⟩ := hv.1.2.shape
 obtain ⟨sa, scap, rfl, _, _⟩ := hv.2.1.shape
 obtain ⟨na, ncap, rfl, hnc, _⟩ := hv.2.2.shape
 rcases htc with h | ⟨b, off, rfl, hbs, hcell⟩
 ·rw [h] at hk; simp at hk
 obtain ⟨pa, pcap, va, vcap, x0, x1, x2, hpp, hvv⟩ := hcell k hk
 have hki : (k : Int) < (d.co.txns.length : Int) := by omega
 have HV := hid hv
 have HPP := hid hpp
 have TI := hid hi
 have NI := hid hn
 clear hcell hpp hvv hv hi hn
 generalize d.co.txns[k] = t at *
 have hpl := TI.out.2.1
 have FA := hid (((Fr.refl w.heap.size [] w).alloc (.cells #[.slice (some ⟨b, off, none⟩) d.co.txns.length tcap, .slice oa d.co.order.length ocap, .slice sa d.shards.length scap, .slice na d.net.length ncap] 30)).alloc (.cells #[.slice none 0 0, .slice none 0 0, .slice none 0 0, .slice none 0 0] 30))
 have z0 := FA.out.cell hbs x0
 have z1 := FA.out.cell hbs x1
 have z2 := FA.out.cell hbs x2
 clear x0 x1 x2
 go_enter Tryz.func159, Tryz.ntmps159
 go_wp2
 have FX := hid (FA.out.alloc (.cells #[.slice pa t.parts.length pcap, .slice va t.votes.length vcap, .int .i64 t.dec] 74))
 have B0 := hid (heap_up (heap_up (heap_alloc_new w (.cells #[.slice (some ⟨b, off, none⟩) d.co.txns.length tcap, .slice oa d.co.order.length ocap, .slice sa d.shards.length scap, .slice na d.net.length ncap] 30)) (.cells #[.slice none 0 0, .slice none 0 0, .slice none 0 0, .slice none 0 0] 30)) (.cells #[.slice pa t.parts.length pcap, .slice va t.votes.length vcap, .int .i64 t.dec] 74))
 have B1 := hid (show (((w.alloc (.cells #[.slice (some ⟨b, off, none⟩) d.co.txns.length tcap, .slice oa d.co.order.length ocap, .slice sa d.shards.length scap, .slice na d.net.length ncap] 30)).alloc (.cells #[.slice none 0 0, .slice none 0 0, .slice none 0 0, .slice none 0 0] 30)).alloc (.cells #[.slice pa t.parts.length pcap, .slice va t.votes.length vcap, .int .i64 t.dec] 74)).heap[w.heap.size + 1]? = some (.cells #[.slice none 0 0, .slice none 0 0, .slice none 0 0, .slice none 0 0] 30 (0, 0)) by
  have := heap_up (heap_alloc_new (w.alloc (.cells #[.slice (some ⟨b, off, none⟩) d.co.txns.length tcap, .slice oa d.co.order.length ocap, .slice sa d.shards.length scap, .slice na d.net.length ncap] 30)) (.cells #[.slice none 0 0, .slice none 0 0, .slice none 0 0, .slice none 0 0] 30)) (.cells #[.slice pa t.parts.length pcap, .slice va t.votes.length vcap, .int .i64 t.dec] 74)
  simpa using this)
 have B2 := hid (show (((w.alloc (.cells #[.slice (some ⟨b, off, none⟩) d.co.txns.length tcap, .slice oa d.co.order.length ocap, .slice sa d.shards.length scap, .slice na d.net.length ncap] 30)).alloc (.cells #[.slice none 0 0, .slice none 0 0, .slice none 0 0, .slice none 0 0] 30)).alloc (.cells #[.slice pa t.parts.length pcap, .slice va t.votes.length vcap, .int .i64 t.dec] 74)).heap[w.heap.size + 1 + 1]? = some (.cells #[.slice pa t.parts.length pcap, .slice va t.votes.length vcap, .int .i64 t.dec] 74 (0, 0)) by
  have := heap_alloc_new ((w.alloc (.cells #[.slice (some ⟨b, off, none⟩) d.co.txns.length tcap, .slice oa d.co.order.length ocap, .slice sa d.shards.length scap, .slice na d.net.length ncap] 30)).alloc (.cells #[.slice none 0 0, .slice none 0 0, .slice none 0 0, .slice none 0 0] 30)) (.cells #[.slice pa t.parts.length pcap, .slice va t.votes.length vcap, .int .i64 t.dec] 74)
  simpa using this)
 go_loopw [6] (fun vi wr => ∃ (i : Nat) (ms : List Msg) (na : Option Addr) (ncap : Nat), i ≤ t.parts.length ∧ vi = .int .i64 i ∧ NetR lo wr (.slice na ms.length ncap) ms ∧ NetI ms ∧ wr.heap[w.heap.size]? = some (.cells #[.slice (some ⟨b, off, none⟩) d.co.txns.length tcap, .slice oa d.co.order.length ocap, .slice sa d.shards.length scap, .slice na ms.length ncap] 30 (0, 0)) ∧ wr.heap[w.heap.size + 1]? = some (.cells #[.slice none 0 0, .slice none 0 0, .slice none 0 0, .slice none 0 0] 30 (0, 0)) ∧ wr.heap[w.heap.size + 1 + 1]? = some (.cells #[.slice pa t.parts.length pcap, .slice va t.votes.length vcap, .int .i64 t.dec] 74 (0, 0)) ∧ Fr w.heap.size [] w wr) (fun vi _ => t.parts.length - (intOf vi).toNat)
 case atStart => exact ⟨0, d.net, na, ncap, Nat.zero_le _, rfl, HV.out.2.2.tk FX.out (by simp), NI.out, B0.out, B1.out, B2.out, FX.out⟩
 case round =>
  clear FX B0 B1 B2 FA z0 z1 z2 NI
  obtain ⟨i, ms, na, ncap, hile, rfl, hnr, hni, hb0, hb1, hb2, hfr⟩ := hrel
  have B0 := hid hb0
  have B1 := hid hb1
  have B2 := hid hb2
  have NN := hid hnr
  have NI := hid hni
  have HF := hid hfr
  have hsz := hfr.size
  have q0 := cell_of (o := 0) hb2 rfl
  have q1 := cell_of (o := 2) hb2 rfl
  clear hb0 hb1 hb2 hnr hni hfr
  by_cases hgo : i < t.parts.length ∧ t.dec ≠ 0
  ·obtain ⟨hlt, hd⟩ := hgo
   have hii : (i : Int) < (t.parts.length : Int) := by omega
   obtain ⟨pa', pcap', hpe, _, hpc⟩ := HPP.out.shape
   cases hpe
   rcases hpc with h | ⟨pb, poff, rfl, hps, hpcell⟩
   ·rw [h] at hlt; simp at hlt
   obtain ⟨_, _, y0, _, _⟩ := hpcell i hlt
   replace y0 := HF.out.cell hps y0
   have PI := TI.out.1 _ (List.getElem_mem hlt)
   have SH := hid (show 0 ≤ (t.parts[i]).shard ∧ (t.parts[i]).shard ≤ 2 from ⟨PI.1, PI.2.1⟩)
   clear hpcell PI
   generalize (t.parts[i]).shard = y at *
   have q2 := True.intro
   have q3 := True.intro
   have q4 := True.intro
   have hd1 : (t.dec != 0) = true := by simpa using hd
   go_wp2
   refine wp_region_L 13 (S := (fun x => x.cell? ⟨w.heap.size, 0, none⟩ = some (.slice (some ⟨b, off, none⟩) d.co.txns.length tcap) ∧ x.cell? ⟨w.heap.size, 1, none⟩ = some (.slice oa d.co.order.length ocap) ∧ x.cell? ⟨w.heap.size, 2, none⟩ = some (.slice sa d.shards.length scap) ∧ x.cell? ⟨w.heap.size, 3, none⟩ = some (.slice na ms.length ncap) ∧ x.cell? ⟨w.heap.size + 1 + 1, 0, none⟩ = some (.slice (some ⟨pb, poff, none⟩) t.parts.length pcap) ∧ x.cell? ⟨w.heap.size + 1 + 1, 2, none⟩ = some (.int .i64 t.dec) ∧ x.cell? ⟨pb, poff + i * 2, none⟩ = some (.int .i64 y))) (by kernel_rfl) ?_ (fun hHeld => ?_)
   ·have f := (Fr.refl wr.heap.size [] wr).drew
    exact ⟨f.cell (lt_of_get B0.out) (cell_of (o := 0) B0.out rfl), f.cell (lt_of_get B0.out) (cell_of (o := 1) B0.out rfl), f.cell (lt_of_get B0.out) (cell_of (o := 2) B0.out rfl), f.cell (lt_of_get B0.out) (cell_of (o := 3) B0.out rfl), f.cell (lt_of_get B2.out) (cell_of (o := 0) B2.out rfl), f.cell (lt_of_get B2.out) (cell_of (o := 2) B2.out rfl), f.cell (World.block_lt_of_cell? _ _ y0) y0⟩
   have FD := (Fr.refl wr.heap.size [] wr).drew
   replace B0 := hid (FD.keep _ _ B0.out (.inr (by simp)))
   replace B1 := hid (FD.keep _ _ B1.out (.inr (by simp)))
   have y1 := FD.cell (World.block_lt_of_cell? _ _ y0) y0
   replace B2 := hid (FD.keep _ _ B2.out (.inr (by simp)))
   replace NN := hid (NN.out.tk FD (by simp))
   have FW0 := hid (HF.out.trans FD.nil)
   clear FD HF q0 q1 q2 q3 q4
   generalize wr.drew = V at *
   have hl0 := lt_of_get B0.out
   have hl1 := lt_of_get B1.out
   have hl2 := lt_of_get B2.out
   have hlp := World.block_lt_of_cell? _ _ y1
   have FW := hid (Fr.refl V.heap.size [] V)
   have KP := hid (fun (x : World) (f : Fr V.heap.size [] V x) => (⟨f.cell hl0 (cell_of (o := 0) B0.out rfl), f.cell hl0 (cell_of (o := 1) B0.out rfl), f.cell hl0 (cell_of (o := 2) B0.out rfl), f.cell hl0 (cell_of (o := 3) B0.out rfl), f.cell hl2 (cell_of (o := 0) B2.out rfl), f.cell hl2 (cell_of (o := 2) B2.out rfl), f.cell hlp y1⟩ : x.cell? ⟨w.heap.size, 0, none⟩ = some (.slice (some ⟨b, off, none⟩) d.co.txns.length tcap) ∧ x.cell? ⟨w.heap.size, 1, none⟩ = some (.slice oa d.co.order.length ocap) ∧ x.cell? ⟨w.heap.size, 2, none⟩ = some (.slice sa d.shards.length scap) ∧ x.cell? ⟨w.heap.size, 3, none⟩ = some (.slice na ms.length ncap) ∧ x.cell? ⟨w.heap.size + 1 + 1, 0, none⟩ = some (.slice (some ⟨pb, poff, none⟩) t.parts.length pcap) ∧ x.cell? ⟨w.heap.size + 1 + 1, 2, none⟩ = some (.int .i64 t.dec) ∧ x.cell? ⟨pb, poff + i * 2, none⟩ = some (.int .i64 y)))
   refine wpAnyL_take (i := 0) (v := ?_) rfl (by kernel_rfl) (by kernel_rfl) (by kernel_rfl) (by kernel_rfl) (fun _ _ _ h => h) (Or.inl ⟨by rfl, ?_⟩) (by assumption) ?_
   rotate_left
   ·intro w hSw; (try dsimp only at hSw); go_simp; try with_reducible rfl
   (try simp only [Act.put, List.getElem_toArray, List.getElem_cons_succ, List.getElem_cons_zero, List.getElem?_toArray, List.getElem?_cons_succ, List.getElem?_cons_zero, List.setIfInBounds_toArray, List.set_cons_zero, List.set_cons_succ])
   refine wpAnyL_take (i := 1) (v := ?_) rfl (by kernel_rfl) (by kernel_rfl) (by kernel_rfl) (by kernel_rfl) (fun _ _ _ h => h) (Or.inl ⟨by rfl, ?_⟩) (by assumption) ?_
   rotate_left
   ·intro w hSw; (try dsimp only at hSw); go_simp; try with_reducible rfl
   (try simp only [Act.put, List.getElem_toArray, List.getElem_cons_succ, List.getElem_cons_zero, List.getElem?_toArray, List.getElem?_cons_succ, List.getElem?_cons_zero, List.setIfInBounds_toArray, List.set_cons_zero, List.set_cons_succ])
   refine wpAnyL_take (i := 2) (v := ?_) rfl (by kernel_rfl) (by kernel_rfl) (by kernel_rfl) (by kernel_rfl) (fun _ _ _ h => h) (Or.inl ⟨by rfl, ?_⟩) (by assumption) ?_
   rotate_left
   ·intro w hSw; (try dsimp only at hSw); go_simp; try with_reducible rfl
   (try simp only [Act.put, List.getElem_toArray, List.getElem_cons_succ, List.getElem_cons_zero, List.getElem?_toArray, List.getElem?_cons_succ, List.getElem?_cons_zero, List.setIfInBounds_toArray, List.set_cons_zero, List.set_cons_succ])
   refine wpAnyL_take (i := 4) (v := ?_) rfl (by kernel_rfl) (by kernel_rfl) (by kernel_rfl) (by kernel_rfl) (fun _ _ _ h => h) (Or.inl ⟨by rfl, ?_⟩) (by assumption) ?_
   rotate_left
   ·intro w hSw; (try dsimp only at hSw); go_simp; try with_reducible rfl
   (try simp only [Act.put, List.getElem_toArray, List.getElem_cons_succ, List.getElem_cons_zero, List.getElem?_toArray, List.getElem?_cons_succ, List.getElem?_cons_zero, List.setIfInBounds_toArray, List.set_cons_zero, List.set_cons_succ])
   refine wpAnyL_take (i := 8) (v := ?_) rfl (by kernel_rfl) (by kernel_rfl) (by kernel_rfl) (by kernel_rfl) (fun _ _ _ h => h) (Or.inl ⟨by rfl, ?_⟩) (by assumption) ?_
   rotate_left
   ·intro w hSw; (try dsimp only at hSw); go_simp; try with_reducible rfl
   (try simp only [Act.put, List.getElem_toArray, List.getElem_cons_succ, List.getElem_cons_zero, List.getElem?_toArray, List.getElem?_cons_succ, List.getElem?_cons_zero, List.setIfInBounds_toArray, List.set_cons_zero, List.set_cons_succ])
   refine wpAnyL_take (i := 3) (v := ?_) rfl (by kernel_rfl) (by kernel_rfl) (by kernel_rfl) (by kernel_rfl) (fun _ _ _ h => h) (Or.inl ⟨by rfl, ?_⟩) (by assumption) ?_
   rotate_left
   ·intro w hSw; (try dsimp only at hSw); go_simp; try with_reducible rfl
   (try simp only [Act.put, List.getElem_toArray, List.getElem_cons_succ, List.getElem_cons_zero, List.getElem?_toArray, List.getElem?_cons_succ, List.getElem?_cons_zero, List.setIfInBounds_toArray, List.set_cons_zero, List.set_cons_succ])
   refine wpAnyL_take (i := 9) (v := ?_) rfl (by kernel_rfl) (by kernel_rfl) (by kernel_rfl) (by kernel_rfl) (fun _ _ _ h => h) (Or.inl ⟨by rfl, ?_⟩) (by assumption) ?_
   rotate_left
   ·intro w hSw; (try dsimp only at hSw); go_simp; try with_reducible rfl
   (try simp only [Act.put, List.getElem_toArray, List.getElem_cons_succ, List.getElem_cons_zero, List.getElem?_toArray, List.getElem?_cons_succ, List.getElem?_cons_zero, List.setIfInBounds_toArray, List.set_cons_zero, List.set_cons_succ])
   refine wpAnyL_take (i := 5) (v := ?_) rfl (by kernel_rfl) (by kernel_rfl) (by kernel_rfl) (by kernel_rfl) (fun _ _ _ h => h) (Or.inl ⟨by rfl, ?_⟩) (by assumption) ?_
   rotate_left
   ·intro w hSw; (try dsimp only at hSw); go_simp; try with_reducible rfl
   (try simp only [Act.put, List.getElem_toArray, List.getElem_cons_succ, List.getElem_cons_zero, List.getElem?_toArray, List.getElem?_cons_succ, List.getElem?_cons_zero, List.setIfInBounds_toArray, List.set_cons_zero, List.set_cons_succ])
   refine wpAnyL_take (i := 10) (v := ?_) rfl (by kernel_rfl) (by kernel_rfl) (by kernel_rfl) (by kernel_rfl) (fun _ _ _ h => h) (Or.inl ⟨by rfl, ?_⟩) (by assumption) ?_
   rotate_left
   ·intro w hSw; (try dsimp only at hSw); go_simp; try with_reducible rfl
   (try simp only [Act.put, List.getElem_toArray, List.getElem_cons_succ, List.getElem_cons_zero, List.getElem?_toArray, List.getElem?_cons_succ, List.getElem?_cons_zero, List.setIfInBounds_toArray, List.set_cons_zero, List.set_cons_succ])
   refine wpAnyL_take (i := 6) (v := ?_) rfl (by kernel_rfl) (by kernel_rfl) (by kernel_rfl) (by kernel_rfl) (fun _ _ _ h => h) (Or.inl ⟨by rfl, ?_⟩) (by assumption) ?_
   rotate_left
   ·intro w hSw; (try dsimp only at hSw); go_simp; try with_reducible rfl
   (try simp only [Act.put, List.getElem_toArray, List.getElem_cons_succ, List.getElem_cons_zero, List.getElem?_toArray, List.getElem?_cons_succ, List.getElem?_cons_zero, List.setIfInBounds_toArray, List.set_cons_zero, List.set_cons_succ])
   refine wpAnyL_take (i := 7) (v := ?_) rfl (by kernel_rfl) (by kernel_rfl) (by kernel_rfl) (by kernel_rfl) (fun _ _ _ h => h) (Or.inl ⟨by rfl, ?_⟩) (by assumption) ?_
   rotate_left
   ·intro w hSw; (try dsimp only at hSw); go_simp; try with_reducible rfl
   (try simp only [Act.put, List.getElem_toArray, List.getElem_cons_succ, List.getElem_cons_zero, List.getElem?_toArray, List.getElem?_cons_succ, List.getElem?_cons_zero, List.setIfInBounds_toArray, List.set_cons_zero, List.set_cons_succ])
   refine wpAnyL_take (i := 11) (v := ?_) rfl (by kernel_rfl) (by kernel_rfl) (by kernel_rfl) (by kernel_rfl) (fun _ _ _ h => h) (Or.inl ⟨by rfl, ?_⟩) (by assumption) ?_
   rotate_left
   ·intro w hSw; (try dsimp only at hSw); go_simp; try with_reducible rfl
   (try simp only [Act.put, List.getElem_toArray, List.getElem_cons_succ, List.getElem_cons_zero, List.getElem?_toArray, List.getElem?_cons_succ, List.getElem?_cons_zero, List.setIfInBounds_toArray, List.set_cons_zero, List.set_cons_succ])
   refine wpAnyL_ready (rs := [12]) (by kernel_rfl) (by simp) ?_
   refine AllReadyL.cons rfl (fun K hK => ?_) AllReadyL.nil
   go_simp
   go_at_call 157
   refine (l51Post_any lo _ _ _ _ ⟨d.co, d.shards, ms⟩ ⟨3, (k : Int), y, decide (t.dec = 2)⟩ _ ⟨HV.out.1.tk FW0.out (by simp) (by simp) (by simp) (by simp), HV.out.2.1.tk FW0.out (by simp) (by simp) (by simp), NN.out⟩ (Nat.le_trans hlo FW0.out.size)).mono ?_
   rintro e w6 ⟨u4, rfl, nr, fr6⟩
   obtain ⟨nb, ncap', rfl, _, _⟩ := nr.shape
   have NR := hid nr
   have FW := hid (FW.out.trans fr6)
   have E0 := hid (fr6.keep _ _ B0.out (.inr (by simp)))
   have E1 := hid (fr6.keep _ _ B1.out (.inr (by simp)))
   have E2 := hid (fr6.keep _ _ B2.out (.inr (by simp)))
   have s0 := cell_of (o := 0) E0.out rfl
   have s1 := cell_of (o := 1) E0.out rfl
   have s2 := cell_of (o := 2) E0.out rfl
   have s3 := cell_of (o := 3) E0.out rfl
   have s4 := fun o => free_of (o := o) E0.out
   clear nr fr6
   refine hK.out _ _ (Or.inr ?_) (fun hHeld => ?_)
   ·exact KP.out _ FW.out
   replace hHeld := hHeld.resolve_right (by decide)
   clear hK K
   (try simp only [Act.put, List.getElem_toArray, List.getElem_cons_succ, List.getElem_cons_zero, List.getElem?_toArray, List.getElem?_cons_succ, List.getElem?_cons_zero, List.setIfInBounds_toArray, List.set_cons_zero, List.set_cons_succ])
   refine wpAnyL_one (i := 13) (by kernel_rfl) rfl (fun K hK => ?_)
   go_simp
   refine hK.out _ _ (Or.inl rfl) (fun hHeld => ?_)
   clear hK K hHeld
   (try simp only [Act.put, List.getElem_toArray, List.getElem_cons_succ, List.getElem_cons_zero, List.getElem?_toArray, List.getElem?_cons_succ, List.getElem?_cons_zero, List.setIfInBounds_toArray, List.set_cons_zero, List.set_cons_succ])
   refine wpAnyL_done (by kernel_rfl) ?_ _
   have g4 := box4 (u1 := .slice (some ⟨b, off, none⟩) d.co.txns.length tcap) (u2 := .slice oa d.co.order.length ocap) (u3 := .slice sa d.shards.length scap) (u4 := .slice nb (netPost ms ⟨3, (k : Int), y, decide (t.dec = 2)⟩).length ncap') E0.out
   have FT := box4_fr (u1 := .slice (some ⟨b, off, none⟩) d.co.txns.length tcap) (u2 := .slice oa d.co.order.length ocap) (u3 := .slice sa d.shards.length scap) (u4 := .slice nb (netPost ms ⟨3, (k : Int), y, decide (t.dec = 2)⟩).length ncap') E0.out
   go_wp2
   go_roundw
   case rel => exact ⟨i + 1, _, nb, ncap', by omega, by go_num, NR.out.tk FT (by simp), netI_post NI.out (by exact SH.out), g4, block_setne (block_setne (block_setne (block_setne E1.out (by dsimp only; omega)) (by dsimp only; omega)) (by dsimp only; omega)) (by dsimp only; omega), block_setne (block_setne (block_setne (block_setne E2.out (by dsimp only; omega)) (by dsimp only; omega)) (by dsimp only; omega)) (by dsimp only; omega), ((((FW0.out.trans FW.out.nil).setNew (p := ⟨w.heap.size, 0, none⟩) (by dsimp only; omega) _).setNew (p := ⟨w.heap.size, 1, none⟩) (by dsimp only; omega) _).setNew (p := ⟨w.heap.size, 2, none⟩) (by dsimp only; omega) _).setNew (by dsimp only; omega) _⟩
   case measure => simp [intOf]; omega
  ·have r0 := cell_of (o := 0) B0.out rfl
   have r1 := cell_of (o := 1) B0.out rfl
   have r2 := cell_of (o := 2) B0.out rfl
   have r3 := cell_of (o := 3) B0.out rfl
   have r4 := fun o => free_of (o := o) B1.out
   have r5 := cell_of (o := 0) B1.out rfl
   have r6 := cell_of (o := 1) B1.out rfl
   have r7 := cell_of (o := 2) B1.out rfl
   have r8 := cell_of (o := 3) B1.out rfl
   rcases Nat.lt_or_ge i t.parts.length with hlt | hge
   ·have hd : t.dec = 0 := Classical.not_not.1 fun h => hgo ⟨hlt, h⟩
    have hii : (i : Int) < (t.parts.length : Int) := by omega
    have hd0 : (t.dec != 0) = false := by simp [hd]
    clear hd
    go_wp2
    have h4 := box4 (u1 := .slice (some ⟨b, off, none⟩) d.co.txns.length tcap) (u2 := .slice oa d.co.order.length ocap) (u3 := .slice sa d.shards.length scap) (u4 := .slice na ms.length ncap) B1.out
    have g0 := cell_of (o := 0) h4 rfl
    have g1 := cell_of (o := 1) h4 rfl
    have g2 := cell_of (o := 2) h4 rfl
    have g3 := cell_of (o := 3) h4 rfl
    have FT := box4_fr (u1 := .slice (some ⟨b, off, none⟩) d.co.txns.length tcap) (u2 := .slice oa d.co.order.length ocap) (u3 := .slice sa d.shards.length scap) (u4 := .slice na ms.length ncap) B1.out
    exact bodyPost_ret (v := .agg #[.slice (some ⟨b, off, none⟩) d.co.txns.length tcap, .slice oa d.co.order.length ocap, .slice sa d.shards.length scap, .slice na ms.length ncap]) (by simp [results, Tryz.results159, go_sem, g0, g1, g2, g3]) rfl ⟨_, ms, rfl, NN.out.tk FT (by simp), NI.out, (((HF.out.setNew (p := ⟨w.heap.size + 1, 0, none⟩) (by dsimp only; omega) _).setNew (p := ⟨w.heap.size + 1, 1, none⟩) (by dsimp only; omega) _).setNew (p := ⟨w.heap.size + 1, 2, none⟩) (by dsimp only; omega) _).setNew (by dsimp only; omega) _⟩
   ·obtain rfl : i = t.parts.length := by omega
    go_wp2
    have h4 := box4 (u1 := .slice (some ⟨b, off, none⟩) d.co.txns.length tcap) (u2 := .slice oa d.co.order.length ocap) (u3 := .slice sa d.shards.length scap) (u4 := .slice na ms.length ncap) B1.out
    have g0 := cell_of (o := 0) h4 rfl
    have g1 := cell_of (o := 1) h4 rfl
    have g2 := cell_of (o := 2) h4 rfl
    have g3 := cell_of (o := 3) h4 rfl
    have FT := box4_fr (u1 := .slice (some ⟨b, off, none⟩) d.co.txns.length tcap) (u2 := .slice oa d.co.order.length ocap) (u3 := .slice sa d.shards.length scap) (u4 := .slice na ms.length ncap) B1.out
    exact bodyPost_ret (v := .agg #[.slice (some ⟨b, off, none⟩) d.co.txns.length tcap, .slice oa d.co.order.length ocap, .slice sa d.shards.length scap, .slice na ms.length ncap]) (by simp [results, Tryz.results159, go_sem, g0, g1, g2, g3]) rfl ⟨_, ms, rfl, NN.out.tk FT (by simp), NI.out, (((HF.out.setNew (p := ⟨w.heap.size + 1, 0, none⟩) (by dsimp only; omega) _).setNew (p := ⟨w.heap.size + 1, 1, none⟩) (by dsimp only; omega) _).setNew (p := ⟨w.heap.size + 1, 2, none⟩) (by dsimp only; omega) _).setNew (by dsimp only; omega) _⟩

set_option maxRecDepth 20000 in
set_option maxHeartbeats 8000000 in
theorem l51Ask_any (lo : Nat) (v1 v2 v3 v4 : Value) (d : Wd) (k : Int) (w : World) (hv : WdR lo w v1 v2 v3 v4 d) (hlo : lo ≤ w.heap.size) (hc : CoI d.co) (hn : NetI d.net) :
  Calls Tryz.prog 156 #[.agg #[v1, v2, v3, v4], .int .i64 k] w fun e w' =>
   ∃ u4 ms, e = .returned (.agg #[v1, v2, v3, u4]) ∧ NetR lo w' u4 ms ∧ NetI ms ∧ Fr w.heap.size [] w w' := by
 obtain ⟨ta, tcap, rfl, _, htc⟩ := hv.1.1.shape
 obtain ⟨oa, ocap, rfl, _, _⟩ := hv.1.2.shape
 obtain ⟨sa, scap, rfl, _, _⟩ := hv.2.1.shape
 obtain ⟨na, ncap, rfl, hnc, _⟩ := hv.2.2.shape
 have HV := hid hv
 have CI := hid hc
 have NI := hid hn
 clear hv hn hc htc
 have FA := hid (((Fr.refl w.heap.size [] w).alloc (.cells #[.slice ta d.co.txns.length tcap, .slice oa d.co.order.length ocap, .slice sa d.shards.length scap, .slice na d.net.length ncap] 30)).alloc (.cells #[.slice none 0 0, .slice none 0 0, .slice none 0 0, .slice none 0 0] 30))
 have A0 := hid (heap_up (heap_alloc_new w (.cells #[.slice ta d.co.txns.length tcap, .slice oa d.co.order.length ocap, .slice sa d.shards.length scap, .slice na d.net.length ncap] 30)) (.cells #[.slice none 0 0, .slice none 0 0, .slice none 0 0, .slice none 0 0] 30))
 have A1 := hid (show ((w.alloc (.cells #[.slice ta d.co.txns.length tcap, .slice oa d.co.order.length ocap, .slice sa d.shards.length scap, .slice na d.net.length ncap] 30)).alloc (.cells #[.slice none 0 0, .slice none 0 0, .slice none 0 0, .slice none 0 0] 30)).heap[w.heap.size + 1]? = some (.cells #[.slice none 0 0, .slice none 0 0, .slice none 0 0, .slice none 0 0] 30 (0, 0)) by
  have := heap_alloc_new (w.alloc (.cells #[.slice ta d.co.txns.length tcap, .slice oa d.co.order.length ocap, .slice sa d.shards.length scap, .slice na d.net.length ncap] 30)) (.cells #[.slice none 0 0, .slice none 0 0, .slice none 0 0, .slice none 0 0] 30)
  simpa using this)
 go_enter Tryz.func156, Tryz.ntmps156
 go_wp2_with (go_at_call 181; go_must (refine (specWaits_any lo _ _ d.co k _ (HV.out.1.grow FA.out) CI.out).mono ?_; rintro e w1 ⟨v, l, rfl, own1, hl, hll, fr1⟩; obtain ⟨la, lcap, rfl, _, _⟩ := own1.reads.shape; have FX := hid (FA.out.trans fr1.nil); have B0 := hid (fr1.keep _ _ A0.out (.inr (by simp))); have B1 := hid (fr1.keep _ _ A1.out (.inr (by simp))); have LR := hid (own1.reads.weak (new_low (Nat.zero_le _))); have LI := hid hl; clear own1 hl fr1))
 go_loopw [6] (fun vi wr => ∃ (i : Nat) (ms : List Msg) (na : Option Addr) (ncap : Nat), i ≤ l.length ∧ vi = .int .i64 i ∧ NetR lo wr (.slice na ms.length ncap) ms ∧ NetI ms ∧ wr.heap[w.heap.size]? = some (.cells #[.slice ta d.co.txns.length tcap, .slice oa d.co.order.length ocap, .slice sa d.shards.length scap, .slice na ms.length ncap] 30 (0, 0)) ∧ wr.heap[w.heap.size + 1]? = some (.cells #[.slice none 0 0, .slice none 0 0, .slice none 0 0, .slice none 0 0] 30 (0, 0)) ∧ IntsR (new 0) wr (.slice la l.length lcap) l ∧ Fr w.heap.size [] w wr) (fun vi _ => l.length - (intOf vi).toNat)
 case atStart => exact ⟨0, d.net, na, ncap, Nat.zero_le _, rfl, HV.out.2.2.tk FX.out (by simp), NI.out, B0.out, B1.out, LR.out, FX.out⟩
 case round =>
  clear FX B0 B1 FA A0 A1 NI LR
  obtain ⟨i, ms, na, ncap, hile, rfl, hnr, hni, hb0, hb1, hir, hfr⟩ := hrel
  have B0 := hid hb0
  have B1 := hid hb1
  have IR := hid hir
  have NN := hid hnr
  have NI := hid hni
  have HF := hid hfr
  have hsz := hfr.size
  clear hb0 hb1 hir hnr hni hfr
  by_cases hlt : i < l.length
  ·have hii : (i : Int) < (l.length : Int) := by omega
   obtain ⟨la', lcap', hpe, _, hpc⟩ := IR.out.shape
   cases hpe
   rcases hpc with h | ⟨pb, poff, rfl, hps, hpcell⟩
   ·rw [h] at hlt; simp at hlt
   have y0 := hpcell i hlt
   have SH := hid (LI.out _ (List.getElem_mem hlt))
   clear hpcell
   generalize l[i] = y at *
   have q0 := True.intro
   have q1 := True.intro
   have q2 := True.intro
   have q3 := True.intro
   have q4 := True.intro
   go_wp2
   refine wp_region_L 8 (S := (fun x => x.cell? ⟨w.heap.size, 0, none⟩ = some (.slice ta d.co.txns.length tcap) ∧ x.cell? ⟨w.heap.size, 1, none⟩ = some (.slice oa d.co.order.length ocap) ∧ x.cell? ⟨w.heap.size, 2, none⟩ = some (.slice sa d.shards.length scap) ∧ x.cell? ⟨w.heap.size, 3, none⟩ = some (.slice na ms.length ncap) ∧ x.cell? ⟨pb, poff + i, none⟩ = some (.int .i64 y))) (by kernel_rfl) ?_ (fun hHeld => ?_)
   ·have f := (Fr.refl wr.heap.size [] wr).drew
    exact ⟨f.cell (lt_of_get B0.out) (cell_of (o := 0) B0.out rfl), f.cell (lt_of_get B0.out) (cell_of (o := 1) B0.out rfl), f.cell (lt_of_get B0.out) (cell_of (o := 2) B0.out rfl), f.cell (lt_of_get B0.out) (cell_of (o := 3) B0.out rfl), f.cell (World.block_lt_of_cell? _ _ y0) y0⟩
   have FD := (Fr.refl wr.heap.size [] wr).drew
   replace B0 := hid (FD.keep _ _ B0.out (.inr (by simp)))
   replace B1 := hid (FD.keep _ _ B1.out (.inr (by simp)))
   have y1 := FD.cell (World.block_lt_of_cell? _ _ y0) y0
   replace IR := hid (IR.out.tk FD (by simp))
   replace NN := hid (NN.out.tk FD (by simp))
   have FW0 := hid (HF.out.trans FD.nil)
   clear FD HF q0 q1 q2 q3 q4
   generalize wr.drew = V at *
   have hl0 := lt_of_get B0.out
   have hl1 := lt_of_get B1.out
   have hlp := World.block_lt_of_cell? _ _ y1
   have FW := hid (Fr.refl V.heap.size [] V)
   have KP := hid (fun (x : World) (f : Fr V.heap.size [] V x) => (⟨f.cell hl0 (cell_of (o := 0) B0.out rfl), f.cell hl0 (cell_of (o := 1) B0.out rfl), f.cell hl0 (cell_of (o := 2) B0.out rfl), f.cell hl0 (cell_of (o := 3) B0.out rfl), f.cell hlp y1⟩ : x.cell? ⟨w.heap.size, 0, none⟩ = some (.slice ta d.co.txns.length tcap) ∧ x.cell? ⟨w.heap.size, 1, none⟩ = some (.slice oa d.co.order.length ocap) ∧ x.cell? ⟨w.heap.size, 2, none⟩ = some (.slice sa d.shards.length scap) ∧ x.cell? ⟨w.heap.size, 3, none⟩ = some (.slice na ms.length ncap) ∧ x.cell? ⟨pb, poff + i, none⟩ = some (.int .i64 y)))
   refine wpAnyL_take (i := 0) (v := ?_) rfl (by kernel_rfl) (by kernel_rfl) (by kernel_rfl) (by kernel_rfl) (fun _ _ _ h => h) (Or.inl ⟨by rfl, ?_⟩) (by assumption) ?_
   rotate_left
   ·intro w hSw; (try dsimp only at hSw); go_simp; try with_reducible rfl
   (try simp only [Act.put, List.getElem_toArray, List.getElem_cons_succ, List.getElem_cons_zero, List.getElem?_toArray, List.getElem?_cons_succ, List.getElem?_cons_zero, List.setIfInBounds_toArray, List.set_cons_zero, List.set_cons_succ])
   refine wpAnyL_take (i := 1) (v := ?_) rfl (by kernel_rfl) (by kernel_rfl) (by kernel_rfl) (by kernel_rfl) (fun _ _ _ h => h) (Or.inl ⟨by rfl, ?_⟩) (by assumption) ?_
   rotate_left
   ·intro w hSw; (try dsimp only at hSw); go_simp; try with_reducible rfl
   (try simp only [Act.put, List.getElem_toArray, List.getElem_cons_succ, List.getElem_cons_zero, List.getElem?_toArray, List.getElem?_cons_succ, List.getElem?_cons_zero, List.setIfInBounds_toArray, List.set_cons_zero, List.set_cons_succ])
   refine wpAnyL_take (i := 2) (v := ?_) rfl (by kernel_rfl) (by kernel_rfl) (by kernel_rfl) (by kernel_rfl) (fun _ _ _ h => h) (Or.inl ⟨by rfl, ?_⟩) (by assumption) ?_
   rotate_left
   ·intro w hSw; (try dsimp only at hSw); go_simp; try with_reducible rfl
   (try simp only [Act.put, List.getElem_toArray, List.getElem_cons_succ, List.getElem_cons_zero, List.getElem?_toArray, List.getElem?_cons_succ, List.getElem?_cons_zero, List.setIfInBounds_toArray, List.set_cons_zero, List.set_cons_succ])
   refine wpAnyL_take (i := 3) (v := ?_) rfl (by kernel_rfl) (by kernel_rfl) (by kernel_rfl) (by kernel_rfl) (fun _ _ _ h => h) (Or.inl ⟨by rfl, ?_⟩) (by assumption) ?_
   rotate_left
   ·intro w hSw; (try dsimp only at hSw); go_simp; try with_reducible rfl
   (try simp only [Act.put, List.getElem_toArray, List.getElem_cons_succ, List.getElem_cons_zero, List.getElem?_toArray, List.getElem?_cons_succ, List.getElem?_cons_zero, List.setIfInBounds_toArray, List.set_cons_zero, List.set_cons_succ])
   refine wpAnyL_take (i := 4) (v := ?_) rfl (by kernel_rfl) (by kernel_rfl) (by kernel_rfl) (by kernel_rfl) (fun _ _ _ h => h) (Or.inl ⟨by rfl, ?_⟩) (by assumption) ?_
   rotate_left
   ·intro w hSw; (try dsimp only at hSw); go_simp; try with_reducible rfl
   (try simp only [Act.put, List.getElem_toArray, List.getElem_cons_succ, List.getElem_cons_zero, List.getElem?_toArray, List.getElem?_cons_succ, List.getElem?_cons_zero, List.setIfInBounds_toArray, List.set_cons_zero, List.set_cons_succ])
   refine wpAnyL_take (i := 5) (v := ?_) rfl (by kernel_rfl) (by kernel_rfl) (by kernel_rfl) (by kernel_rfl) (fun _ _ _ h => h) (Or.inl ⟨by rfl, ?_⟩) (by assumption) ?_
   rotate_left
   ·intro w hSw; (try dsimp only at hSw); go_simp; try with_reducible rfl
   (try simp only [Act.put, List.getElem_toArray, List.getElem_cons_succ, List.getElem_cons_zero, List.getElem?_toArray, List.getElem?_cons_succ, List.getElem?_cons_zero, List.setIfInBounds_toArray, List.set_cons_zero, List.set_cons_succ])
   refine wpAnyL_take (i := 6) (v := ?_) rfl (by kernel_rfl) (by kernel_rfl) (by kernel_rfl) (by kernel_rfl) (fun _ _ _ h => h) (Or.inl ⟨by rfl, ?_⟩) (by assumption) ?_
   rotate_left
   ·intro w hSw; (try dsimp only at hSw); go_simp; try with_reducible rfl
   (try simp only [Act.put, List.getElem_toArray, List.getElem_cons_succ, List.getElem_cons_zero, List.getElem?_toArray, List.getElem?_cons_succ, List.getElem?_cons_zero, List.setIfInBounds_toArray, List.set_cons_zero, List.set_cons_succ])
   refine wpAnyL_ready (rs := [7]) (by kernel_rfl) (by simp) ?_
   refine AllReadyL.cons rfl (fun K hK => ?_) AllReadyL.nil
   go_simp
   go_at_call 157
   refine (l51Post_any lo _ _ _ _ ⟨d.co, d.shards, ms⟩ ⟨1, (k : Int), y, false⟩ _ ⟨HV.out.1.tk FW0.out (by simp) (by simp) (by simp) (by simp), HV.out.2.1.tk FW0.out (by simp) (by simp) (by simp), NN.out⟩ (Nat.le_trans hlo FW0.out.size)).mono ?_
   rintro e w6 ⟨u4, rfl, nr, fr6⟩
   obtain ⟨nb, ncap', rfl, _, _⟩ := nr.shape
   have NR := hid nr
   have FW := hid (FW.out.trans fr6)
   have E0 := hid (fr6.keep _ _ B0.out (.inr (by simp)))
   have E1 := hid (fr6.keep _ _ B1.out (.inr (by simp)))
   have fr6' := fr6
   have s0 := cell_of (o := 0) E0.out rfl
   have s1 := cell_of (o := 1) E0.out rfl
   have s2 := cell_of (o := 2) E0.out rfl
   have s3 := cell_of (o := 3) E0.out rfl
   have s4 := fun o => free_of (o := o) E0.out
   clear nr fr6
   refine hK.out _ _ (Or.inr ?_) (fun hHeld => ?_)
   ·exact KP.out _ FW.out
   replace hHeld := hHeld.resolve_right (by decide)
   clear hK K
   (try simp only [Act.put, List.getElem_toArray, List.getElem_cons_succ, List.getElem_cons_zero, List.getElem?_toArray, List.getElem?_cons_succ, List.getElem?_cons_zero, List.setIfInBounds_toArray, List.set_cons_zero, List.set_cons_succ])
   refine wpAnyL_one (i := 8) (by kernel_rfl) rfl (fun K hK => ?_)
   go_simp
   refine hK.out _ _ (Or.inl rfl) (fun hHeld => ?_)
   clear hK K hHeld
   (try simp only [Act.put, List.getElem_toArray, List.getElem_cons_succ, List.getElem_cons_zero, List.getElem?_toArray, List.getElem?_cons_succ, List.getElem?_cons_zero, List.setIfInBounds_toArray, List.set_cons_zero, List.set_cons_succ])
   refine wpAnyL_done (by kernel_rfl) ?_ _
   have g4 := box4 (u1 := .slice ta d.co.txns.length tcap) (u2 := .slice oa d.co.order.length ocap) (u3 := .slice sa d.shards.length scap) (u4 := .slice nb (netPost ms ⟨1, (k : Int), y, false⟩).length ncap') E0.out
   have FT := box4_fr (u1 := .slice ta d.co.txns.length tcap) (u2 := .slice oa d.co.order.length ocap) (u3 := .slice sa d.shards.length scap) (u4 := .slice nb (netPost ms ⟨1, (k : Int), y, false⟩).length ncap') E0.out
   go_wp2
   go_roundw
   case rel => exact ⟨i + 1, _, nb, ncap', by omega, by go_num, NR.out.tk FT (by simp), netI_post NI.out (by exact SH.out), g4, block_setne (block_setne (block_setne (block_setne E1.out (by dsimp only; omega)) (by dsimp only; omega)) (by dsimp only; omega)) (by dsimp only; omega), (IR.out.tk fr6' (by simp)).tk FT (by simp), ((((FW0.out.trans FW.out.nil).setNew (p := ⟨w.heap.size, 0, none⟩) (by dsimp only; omega) _).setNew (p := ⟨w.heap.size, 1, none⟩) (by dsimp only; omega) _).setNew (p := ⟨w.heap.size, 2, none⟩) (by dsimp only; omega) _).setNew (by dsimp only; omega) _⟩
   case measure => simp [intOf]; omega
  ·obtain rfl : i = l.length := by omega
   have r0 := cell_of (o := 0) B0.out rfl
   have r1 := cell_of (o := 1) B0.out rfl
   have r2 := cell_of (o := 2) B0.out rfl
   have r3 := cell_of (o := 3) B0.out rfl
   have r4 := fun o => free_of (o := o) B1.out
   have r5 := cell_of (o := 0) B1.out rfl
   have r6 := cell_of (o := 1) B1.out rfl
   have r7 := cell_of (o := 2) B1.out rfl
   have r8 := cell_of (o := 3) B1.out rfl
   go_wp2
   have h4 := box4 (u1 := .slice ta d.co.txns.length tcap) (u2 := .slice oa d.co.order.length ocap) (u3 := .slice sa d.shards.length scap) (u4 := .slice na ms.length ncap) B1.out
   have g0 := cell_of (o := 0) h4 rfl
   have g1 := cell_of (o := 1) h4 rfl
   have g2 := cell_of (o := 2) h4 rfl
   have g3 := cell_of (o := 3) h4 rfl
   have FT := box4_fr (u1 := .slice ta d.co.txns.length tcap) (u2 := .slice oa d.co.order.length ocap) (u3 := .slice sa d.shards.length scap) (u4 := .slice na ms.length ncap) B1.out
   exact bodyPost_ret (v := .agg #[.slice ta d.co.txns.length tcap, .slice oa d.co.order.length ocap, .slice sa d.shards.length scap, .slice na ms.length ncap]) (by simp [results, Tryz.results156, go_sem, g0, g1, g2, g3]) rfl ⟨_, ms, rfl, NN.out.tk FT (by simp), NI.out, (((HF.out.setNew (p := ⟨w.heap.size + 1, 0, none⟩) (by dsimp only; omega) _).setNew (p := ⟨w.heap.size + 1, 1, none⟩) (by dsimp only; omega) _).setNew (p := ⟨w.heap.size + 1, 2, none⟩) (by dsimp only; omega) _).setNew (by dsimp only; omega) _⟩

end Go.Proofs.YtknoanpgadecbaaGreatDoor
