/- The reference's l51Post. -/
import Derived.Test.YtknoanpgadecbaaGreatDoorQM7
set_option linter.unusedVariables false
set_option linter.unusedSimpArgs false
namespace Go.Proofs.YtknoanpgadecbaaGreatDoor
open Go.RowKit
set_option linter.unusedVariables false

theorem infoM : (Tryz.prog.info? 47).map (fun i => (i.zero, i.size, i.bytes)) = some (some (.agg #[.int .i64 0, .int .i64 0, .int .i64 0, .bool false]), 4, 32) := by kernel_rfl

theorem oneM (ms : List Msg) : ∀ u ∈ ms.flatMap encM, u.oneCell' = true := by
 intro u hu
 obtain ⟨m, _, hu⟩ := List.mem_flatMap.1 hu
 simp [encM] at hu
 rcases hu with rfl | rfl | rfl | rfl <;> rfl
theorem oneM1 (m : Msg) : ∀ u ∈ [Value.int .i64 m.kind, .int .i64 m.txn, .int .i64 m.shard, .bool m.yes], u.oneCell' = true := by
 intro u hu
 simp at hu
 rcases hu with rfl | rfl | rfl | rfl <;> rfl

theorem ownsRow_grown {lo E sz n : Nat} {w w' : World} {v : Value} {cs : List Value} {row : Option Nat} (h : w.ownsRow lo E sz v n cs) (hg : w.grownBy w' row) (hr : ∀ b, v.ownBlock = some b → row ≠ some b) : w'.ownsRow lo E sz v n cs := by
 obtain ⟨hl, hs⟩ := id h
 rcases hs with ⟨rfl, h0⟩ | ⟨b, cap, cu, rfl, h1, h2, h3⟩
 ·exact ⟨hl, .inl ⟨rfl, h0⟩⟩
 ·refine ⟨hl, .inr ⟨b, cap, cu, rfl, h1, ?_, h3⟩⟩
  rw [hg.block b (lt_of_get h2) (fun e => hr b rfl e.symm)]
  exact h2

theorem box4 {w : World} {n : Nat} {x1 x2 x3 x4 u1 u2 u3 u4 : Value} {T : Nat} (h : w.heap[n]? = some (.cells #[x1, x2, x3, x4] T (0, 0))) :
  ((((w.setCell ⟨n, 0, none⟩ u1).setCell ⟨n, 1, none⟩ u2).setCell ⟨n, 2, none⟩ u3).setCell ⟨n, 3, none⟩ u4).heap[n]? = some (.cells #[u1, u2, u3, u4] T (0, 0)) := by
 have := block_set (block_set (block_set (block_set h 0 u1) 1 u2) 2 u3) 3 u4
 simpa using this
theorem box4_fr {w : World} {n : Nat} {x1 x2 x3 x4 u1 u2 u3 u4 : Value} {T : Nat} (h : w.heap[n]? = some (.cells #[x1, x2, x3, x4] T (0, 0))) :
  Fr 0 [T] w ((((w.setCell ⟨n, 0, none⟩ u1).setCell ⟨n, 1, none⟩ u2).setCell ⟨n, 2, none⟩ u3).setCell ⟨n, 3, none⟩ u4) :=
 ((((Fr.refl 0 [T] w).setOld (p := ⟨n, 0, none⟩) h (Nat.zero_le _) (by simp [otag]) u1).setOld (p := ⟨n, 1, none⟩) (block_set h 0 u1) (Nat.zero_le _) (by simp [otag]) u2).setOld (p := ⟨n, 2, none⟩) (block_set (block_set h 0 u1) 1 u2) (Nat.zero_le _) (by simp [otag]) u3).setOld (p := ⟨n, 3, none⟩) (block_set (block_set (block_set h 0 u1) 1 u2) 2 u3) (Nat.zero_le _) (by simp [otag]) u4

def netPost (ms : List Msg) (m : Msg) : List Msg := if ms.length < 14 then ms ++ [m] else ms

set_option maxRecDepth 20000 in
set_option maxHeartbeats 8000000 in
theorem l51Post_any (lo : Nat) (v1 v2 v3 v4 : Value) (d : Wd) (m : Msg) (w : World) (hv : WdR lo w v1 v2 v3 v4 d) (hlo : lo ≤ w.heap.size) :
  Calls Tryz.prog 157 #[.agg #[v1, v2, v3, v4], .agg #[.int .i64 m.kind, .int .i64 m.txn, .int .i64 m.shard, .bool m.yes]] w fun e w' =>
   ∃ u4, e = .returned (.agg #[v1, v2, v3, u4]) ∧ NetR lo w' u4 (netPost d.net m) ∧ Fr w.heap.size [] w w' := by
 obtain ⟨ta, tcap, rfl, _, _⟩ := hv.1.1.shape
 obtain ⟨oa, ocap, rfl, _, _⟩ := hv.1.2.shape
 obtain ⟨sa, scap, rfl, _, _⟩ := hv.2.1.shape
 obtain ⟨na, ncap, rfl, hnc, _⟩ := hv.2.2.shape
 obtain ⟨im, hmi, hmz0, hmz1, hmz2⟩ := info_parts infoM
 have HV := hid hv
 have B0' := hid (heap_up (heap_up (heap_alloc_new w (.cells #[.slice ta d.co.txns.length tcap, .slice oa d.co.order.length ocap, .slice sa d.shards.length scap, .slice na d.net.length ncap] 30)) (.cells #[.int .i64 m.kind, .int .i64 m.txn, .int .i64 m.shard, .bool m.yes] 47)) (.cells #[.slice none 0 0, .slice none 0 0, .slice none 0 0, .slice none 0 0] 30))
 have B1' := hid (show (((w.alloc (.cells #[.slice ta d.co.txns.length tcap, .slice oa d.co.order.length ocap, .slice sa d.shards.length scap, .slice na d.net.length ncap] 30)).alloc (.cells #[.int .i64 m.kind, .int .i64 m.txn, .int .i64 m.shard, .bool m.yes] 47)).alloc (.cells #[.slice none 0 0, .slice none 0 0, .slice none 0 0, .slice none 0 0] 30)).heap[w.heap.size + 1]? = some (.cells #[.int .i64 m.kind, .int .i64 m.txn, .int .i64 m.shard, .bool m.yes] 47 (0, 0)) by
  have := heap_up (heap_alloc_new (w.alloc (.cells #[.slice ta d.co.txns.length tcap, .slice oa d.co.order.length ocap, .slice sa d.shards.length scap, .slice na d.net.length ncap] 30)) (.cells #[.int .i64 m.kind, .int .i64 m.txn, .int .i64 m.shard, .bool m.yes] 47)) (.cells #[.slice none 0 0, .slice none 0 0, .slice none 0 0, .slice none 0 0] 30)
  simpa using this)
 have B2' := hid (show (((w.alloc (.cells #[.slice ta d.co.txns.length tcap, .slice oa d.co.order.length ocap, .slice sa d.shards.length scap, .slice na d.net.length ncap] 30)).alloc (.cells #[.int .i64 m.kind, .int .i64 m.txn, .int .i64 m.shard, .bool m.yes] 47)).alloc (.cells #[.slice none 0 0, .slice none 0 0, .slice none 0 0, .slice none 0 0] 30)).heap[w.heap.size + 2]? = some (.cells #[.slice none 0 0, .slice none 0 0, .slice none 0 0, .slice none 0 0] 30 (0, 0)) by
  have := heap_alloc_new ((w.alloc (.cells #[.slice ta d.co.txns.length tcap, .slice oa d.co.order.length ocap, .slice sa d.shards.length scap, .slice na d.net.length ncap] 30)).alloc (.cells #[.int .i64 m.kind, .int .i64 m.txn, .int .i64 m.shard, .bool m.yes] 47)) (.cells #[.slice none 0 0, .slice none 0 0, .slice none 0 0, .slice none 0 0] 30)
  simpa using this)
 have FA := hid ((((Fr.refl w.heap.size [] w).alloc (.cells #[.slice ta d.co.txns.length tcap, .slice oa d.co.order.length ocap, .slice sa d.shards.length scap, .slice na d.net.length ncap] 30)).alloc (.cells #[.int .i64 m.kind, .int .i64 m.txn, .int .i64 m.shard, .bool m.yes] 47)).alloc (.cells #[.slice none 0 0, .slice none 0 0, .slice none 0 0, .slice none 0 0] 30))
 clear hv
 by_cases hlt : d.net.length < 14
 ·have hli : (d.net.length : Int) < 14 := by omega
  go_enter Tryz.func157, Tryz.ntmps157
  go_wp2
  obtain ⟨W, hW⟩ : ∃ W : World, W = ((w.alloc (.cells #[.slice ta d.co.txns.length tcap, .slice oa d.co.order.length ocap, .slice sa d.shards.length scap, .slice na d.net.length ncap] 30)).alloc (.cells #[.int .i64 m.kind, .int .i64 m.txn, .int .i64 m.shard, .bool m.yes] 47)).alloc (.cells #[.slice none 0 0, .slice none 0 0, .slice none 0 0, .slice none 0 0] 30) := ⟨_, rfl⟩
  rw [← hW] at B0' B1' B2' FA ⊢
  clear hW
  refine wp_region_L 8 (S := (fun x => x.cell? ⟨w.heap.size, 3, none⟩ = some (.slice na d.net.length ncap) ∧ x.cell? ⟨w.heap.size + 1, 0, none⟩ = some (.int .i64 m.kind) ∧ x.cell? ⟨w.heap.size + 1, 1, none⟩ = some (.int .i64 m.txn) ∧ x.cell? ⟨w.heap.size + 1, 2, none⟩ = some (.int .i64 m.shard) ∧ x.cell? ⟨w.heap.size + 1, 3, none⟩ = some (.bool m.yes))) (by kernel_rfl) ?_ (fun hHeld => ?_)
  ·have f := (Fr.refl W.heap.size [] W).drew
   exact ⟨f.cell (lt_of_get B0'.out) (cell_of (o := 3) B0'.out rfl), f.cell (lt_of_get B1'.out) (cell_of (o := 0) B1'.out rfl), f.cell (lt_of_get B1'.out) (cell_of (o := 1) B1'.out rfl), f.cell (lt_of_get B1'.out) (cell_of (o := 2) B1'.out rfl), f.cell (lt_of_get B1'.out) (cell_of (o := 3) B1'.out rfl)⟩
  have FD := (Fr.refl W.heap.size [] W).drew
  have B0 := hid (FD.keep _ _ B0'.out (.inr (by simp)))
  have B1 := hid (FD.keep _ _ B1'.out (.inr (by simp)))
  have B2 := hid (FD.keep _ _ B2'.out (.inr (by simp)))
  have FW0 := hid (FA.out.trans FD.nil)
  have NN := hid (HV.out.2.2.tk FW0.out (by simp))
  clear B0' B1' B2' FA FD HV
  generalize W.drew = V at *
  have hl0 := lt_of_get B0.out
  have hl1 := lt_of_get B1.out
  have hl2 := lt_of_get B2.out
  have FW := hid (Fr.refl V.heap.size [] V)
  have KP := hid (fun (x : World) (f : Fr V.heap.size [] V x) => (⟨f.cell hl0 (cell_of (o := 3) B0.out rfl), f.cell hl1 (cell_of (o := 0) B1.out rfl), f.cell hl1 (cell_of (o := 1) B1.out rfl), f.cell hl1 (cell_of (o := 2) B1.out rfl), f.cell hl1 (cell_of (o := 3) B1.out rfl)⟩ : x.cell? ⟨w.heap.size, 3, none⟩ = some (.slice na d.net.length ncap) ∧ x.cell? ⟨w.heap.size + 1, 0, none⟩ = some (.int .i64 m.kind) ∧ x.cell? ⟨w.heap.size + 1, 1, none⟩ = some (.int .i64 m.txn) ∧ x.cell? ⟨w.heap.size + 1, 2, none⟩ = some (.int .i64 m.shard) ∧ x.cell? ⟨w.heap.size + 1, 3, none⟩ = some (.bool m.yes)))
  refine wpAnyL_take (i := 1) (v := ?_) rfl (by kernel_rfl) (by kernel_rfl) (by kernel_rfl) (by kernel_rfl) (fun _ _ _ h => h) (Or.inl ⟨by rfl, ?_⟩) (by assumption) ?_
  rotate_left
  ·intro w hSw; (try dsimp only at hSw); go_simp; try with_reducible rfl
  (try simp only [Act.put, List.getElem_toArray, List.getElem_cons_succ, List.getElem_cons_zero, List.getElem?_toArray, List.getElem?_cons_succ, List.getElem?_cons_zero, List.setIfInBounds_toArray, List.set_cons_zero, List.set_cons_succ])
  refine wpAnyL_take (i := 4) (v := ?_) rfl (by kernel_rfl) (by kernel_rfl) (by kernel_rfl) (by kernel_rfl) (fun _ _ _ h => h) (Or.inl ⟨by rfl, ?_⟩) (by assumption) ?_
  rotate_left
  ·intro w hSw; (try dsimp only at hSw); go_simp; try with_reducible rfl
  (try simp only [Act.put, List.getElem_toArray, List.getElem_cons_succ, List.getElem_cons_zero, List.getElem?_toArray, List.getElem?_cons_succ, List.getElem?_cons_zero, List.setIfInBounds_toArray, List.set_cons_zero, List.set_cons_succ])
  refine wpAnyL_take (i := 2) (v := ?_) rfl (by kernel_rfl) (by kernel_rfl) (by kernel_rfl) (by kernel_rfl) (fun _ _ _ h => h) (Or.inl ⟨by rfl, ?_⟩) (by assumption) ?_
  rotate_left
  ·intro w hSw; (try dsimp only at hSw); go_simp; try with_reducible rfl
  (try simp only [Act.put, List.getElem_toArray, List.getElem_cons_succ, List.getElem_cons_zero, List.getElem?_toArray, List.getElem?_cons_succ, List.getElem?_cons_zero, List.setIfInBounds_toArray, List.set_cons_zero, List.set_cons_succ])
  refine wpAnyL_ready (rs := [0, 5]) (by kernel_rfl) (by simp) ?_
  refine AllReadyL.cons rfl (fun K hK => ?_) (AllReadyL.cons rfl (fun K hK => ?_) AllReadyL.nil)
  ·go_simp
   have OWN := hid (show (V.alloc (.cells #[] 47)).ownsRow V.heap.size 47 4 (.slice (some ⟨V.heap.size, 0, none⟩) 0 0) 0 [] by simpa using ownsRow_lo (lo' := V.heap.size) (World.ownsRow_made (e := 47) (size := 4) V #[] 0 (Nat.le_refl _) (by decide) (by simp)) (by simp))
   have FW := hid (FW.out.alloc (.cells #[] 47))
   refine hK.out _ _ (Or.inr ?_) (fun hHeld => ?_)
   ·exact KP.out _ FW.out
   replace hHeld := hHeld.resolve_right (by decide)
   clear hK K
   (try simp only [Act.put, List.getElem_toArray, List.getElem_cons_succ, List.getElem_cons_zero, List.getElem?_toArray, List.getElem?_cons_succ, List.getElem?_cons_zero, List.setIfInBounds_toArray, List.set_cons_zero, List.set_cons_succ])
   refine wpAnyL_ready (rs := [3, 5]) (by kernel_rfl) (by simp) ?_
   refine AllReadyL.cons rfl (fun K hK => ?_) (AllReadyL.cons rfl (fun K hK => ?_) AllReadyL.nil)
   ·refine step_apG rfl (.tmp 9) (.tmp 11) 28 rfl V.heap.size 47 im (.agg #[.int .i64 0, .int .i64 0, .int .i64 0, .bool false]) 4 32 Tryz.underlying28 hmi hmz0 hmz1 hmz2 rfl (by decide) (.slice (some ⟨V.heap.size, 0, none⟩) 0 0) 0 [] (by rfl) OWN.out (new lo) 47 (.slice na d.net.length ncap) d.net.length (d.net.flatMap encM) (by rfl) (SlR.keep NN.out FW.out (Safe.new (by simp))) (oneM _) (by unfold maxLen; omega) (by omega) FW.out.size ?_
    intro v3 w3 own3 gr3 _
    rw [Nat.zero_add, List.nil_append] at own3
    obtain ⟨a3, c3, rfl⟩ := own_any own3
    have FW := hid (FW.out.after (Fr.ofOwnGrown (B := V.heap.size) (T := [47]) OWN.out gr3 (Nat.le_refl _) (List.mem_singleton.2 rfl)))
    have OWN := hid own3
    clear own3 gr3
    refine hK.out _ _ (Or.inr ?_) (fun hHeld => ?_)
    ·exact KP.out _ FW.out
    replace hHeld := hHeld.resolve_right (by decide)
    clear hK K
    (try simp only [Act.put, List.getElem_toArray, List.getElem_cons_succ, List.getElem_cons_zero, List.getElem?_toArray, List.getElem?_cons_succ, List.getElem?_cons_zero, List.setIfInBounds_toArray, List.set_cons_zero, List.set_cons_succ])
    refine wpAnyL_ready (rs := [5]) (by kernel_rfl) (by simp) ?_
    refine AllReadyL.cons rfl (fun K hK => ?_) AllReadyL.nil
    go_simp
    have LIT := hid (show (w3.alloc (.cells #[.int .i64 m.kind, .int .i64 m.txn, .int .i64 m.shard, .bool m.yes] 47)).ownsRow V.heap.size 47 4 (.slice (some ⟨w3.heap.size, 0, none⟩) 1 1) 1 [.int .i64 m.kind, .int .i64 m.txn, .int .i64 m.shard, .bool m.yes] by simpa using ownsRow_lo (lo' := V.heap.size) (World.ownsRow_lit (base := w3.heap.size) (e := 47) (size := 4) w3 #[.int .i64 m.kind, .int .i64 m.txn, .int .i64 m.shard, .bool m.yes] 1 (Nat.le_refl _) (by decide) rfl) (by first | exact FW.out.size | simp))
    have OWN := hid (ownsRow_grow OWN.out ((Fr.refl 0 [] w3).alloc (.cells #[.int .i64 m.kind, .int .i64 m.txn, .int .i64 m.shard, .bool m.yes] 47)))
    have FW := hid (FW.out.alloc (.cells #[.int .i64 m.kind, .int .i64 m.txn, .int .i64 m.shard, .bool m.yes] 47))
    refine hK.out _ _ (Or.inr ?_) (fun hHeld => ?_)
    ·exact KP.out _ FW.out
    replace hHeld := hHeld.resolve_right (by decide)
    clear hK K
    (try simp only [Act.put, List.getElem_toArray, List.getElem_cons_succ, List.getElem_cons_zero, List.getElem?_toArray, List.getElem?_cons_succ, List.getElem?_cons_zero, List.setIfInBounds_toArray, List.set_cons_zero, List.set_cons_succ])
    refine wpAnyL_ready (rs := [6]) (by kernel_rfl) (by simp) ?_
    refine AllReadyL.cons rfl (fun K hK => ?_) AllReadyL.nil
    refine step_apG rfl (.tmp 12) (.tmp 14) 28 rfl V.heap.size 47 im (.agg #[.int .i64 0, .int .i64 0, .int .i64 0, .bool false]) 4 32 Tryz.underlying28 hmi hmz0 hmz1 hmz2 rfl (by decide) (.slice a3 d.net.length c3) d.net.length (d.net.flatMap encM) (by rfl) OWN.out (new V.heap.size) 47 (.slice (some ⟨w3.heap.size, 0, none⟩) 1 1) 1 [.int .i64 m.kind, .int .i64 m.txn, .int .i64 m.shard, .bool m.yes] (by rfl) (SlR.ofOwns LIT.out) (oneM1 m) (by unfold maxLen; omega) (by omega) FW.out.size ?_
    intro v6 w6 own6 gr6 _
    obtain ⟨a6, c6, rfl⟩ := own_any own6
    have FW := hid (FW.out.after (Fr.ofOwnGrown (B := V.heap.size) (T := [47]) OWN.out gr6 (Nat.le_refl _) (List.mem_singleton.2 rfl)))
    have OWN := hid own6
    have s0 := cell_of (o := 3) (FW.out.keep _ _ B0.out (.inr (by simp))) rfl
    have s1 := free_of (o := 3) (FW.out.keep _ _ B0.out (.inr (by simp)))
    clear own6 gr6
    refine hK.out _ _ (Or.inr ?_) (fun hHeld => ?_)
    ·exact KP.out _ FW.out
    replace hHeld := hHeld.resolve_right (by decide)
    clear hK K
    (try simp only [Act.put, List.getElem_toArray, List.getElem_cons_succ, List.getElem_cons_zero, List.getElem?_toArray, List.getElem?_cons_succ, List.getElem?_cons_zero, List.setIfInBounds_toArray, List.set_cons_zero, List.set_cons_succ])
    refine wpAnyL_take (i := 7) (v := ?_) rfl (by kernel_rfl) (by kernel_rfl) (by kernel_rfl) (by kernel_rfl) (fun _ _ _ h => h) (Or.inl ⟨by rfl, ?_⟩) (by assumption) ?_
    rotate_left
    ·intro w hSw; (try dsimp only at hSw); go_simp; try with_reducible rfl
    (try simp only [Act.put, List.getElem_toArray, List.getElem_cons_succ, List.getElem_cons_zero, List.getElem?_toArray, List.getElem?_cons_succ, List.getElem?_cons_zero, List.setIfInBounds_toArray, List.set_cons_zero, List.set_cons_succ])
    refine wpAnyL_one (i := 8) (by kernel_rfl) rfl (fun K hK => ?_)
    go_simp
    refine hK.out _ _ (Or.inl rfl) (fun hHeld => ?_)
    clear hK K hHeld
    (try simp only [Act.put, List.getElem_toArray, List.getElem_cons_succ, List.getElem_cons_zero, List.getElem?_toArray, List.getElem?_cons_succ, List.getElem?_cons_zero, List.setIfInBounds_toArray, List.set_cons_zero, List.set_cons_succ])
    refine wpAnyL_done (by kernel_rfl) ?_ _
    have E0 := hid (FW.out.keep _ _ B0.out (.inr (by simp)))
    have E2 := hid (FW.out.keep _ _ B2.out (.inr (by simp)))
    have ES := hid (block_set E0.out 3 (.slice a6 (d.net.length + 1) c6))
    have E2S := hid (block_setne (p := ⟨w.heap.size, 3, none⟩) (u := .slice a6 (d.net.length + 1) c6) E2.out (by dsimp only; omega))
    have f0 := cell_of (o := 0) ES.out rfl
    have f1 := cell_of (o := 1) ES.out rfl
    have f2 := cell_of (o := 2) ES.out rfl
    have f3 := cell_of (o := 3) ES.out rfl
    have f4 := fun o => free_of (o := o) E2S.out
    have f5 := cell_of (o := 0) E2S.out rfl
    have f6 := cell_of (o := 1) E2S.out rfl
    have f7 := cell_of (o := 2) E2S.out rfl
    have f8 := cell_of (o := 3) E2S.out rfl
    go_wp2
    have h4 := box4 (u1 := .slice ta d.co.txns.length tcap) (u2 := .slice oa d.co.order.length ocap) (u3 := .slice sa d.shards.length scap) (u4 := .slice a6 (d.net.length + 1) c6) E2S.out
    have g0 := cell_of (o := 0) h4 rfl
    have g1 := cell_of (o := 1) h4 rfl
    have g2 := cell_of (o := 2) h4 rfl
    have g3 := cell_of (o := 3) h4 rfl
    have FM := (Fr.refl 0 [30] w6).setOld (p := ⟨w.heap.size, 3, none⟩) E0.out (Nat.zero_le _) (by simp [otag]) (.slice a6 (d.net.length + 1) c6)
    have FT := box4_fr (u1 := .slice ta d.co.txns.length tcap) (u2 := .slice oa d.co.order.length ocap) (u3 := .slice sa d.shards.length scap) (u4 := .slice a6 (d.net.length + 1) c6) E2S.out
    have NR : NetR lo w6 (.slice a6 (d.net.length + 1) c6) (d.net ++ [m]) := by
     have := (SlR.ofOwns OWN.out).weak (new_low (Nat.le_trans hlo (Nat.le_trans FW0.out.size (Nat.le_refl _))))
     unfold NetR
     simpa [encM] using this
    rw [show netPost d.net m = d.net ++ [m] from if_pos hlt]
    exact bodyPost_ret (v := .agg #[.slice ta d.co.txns.length tcap, .slice oa d.co.order.length ocap, .slice sa d.shards.length scap, .slice a6 (d.net.length + 1) c6]) (by simp [results, Tryz.results157, go_sem, g0, g1, g2, g3]) rfl ⟨_, rfl, (NR.tk FM (by simp)).tk FT (by simp), ((((((FW0.out.trans FW.out.nil).setNew (p := ⟨w.heap.size, 3, none⟩) (by dsimp only; omega) _).setNew (p := ⟨w.heap.size + 2, 0, none⟩) (by dsimp only; omega) _).setNew (p := ⟨w.heap.size + 2, 1, none⟩) (by dsimp only; omega) _).setNew (p := ⟨w.heap.size + 2, 2, none⟩) (by dsimp only; omega) _).setNew (by dsimp only; omega) _)⟩
   ·go_simp
    have LIT := hid (show ((V.alloc (.cells #[] 47)).alloc (.cells #[.int .i64 m.kind, .int .i64 m.txn, .int .i64 m.shard, .bool m.yes] 47)).ownsRow V.heap.size 47 4 (.slice (some ⟨V.heap.size + 1, 0, none⟩) 1 1) 1 [.int .i64 m.kind, .int .i64 m.txn, .int .i64 m.shard, .bool m.yes] by simpa using ownsRow_lo (lo' := V.heap.size) (World.ownsRow_lit (base := (V.alloc (.cells #[] 47)).heap.size) (e := 47) (size := 4) (V.alloc (.cells #[] 47)) #[.int .i64 m.kind, .int .i64 m.txn, .int .i64 m.shard, .bool m.yes] 1 (Nat.le_refl _) (by decide) rfl) (by first | exact FW.out.size | simp))
    have OWN := hid (ownsRow_grow OWN.out ((Fr.refl 0 [] (V.alloc (.cells #[] 47))).alloc (.cells #[.int .i64 m.kind, .int .i64 m.txn, .int .i64 m.shard, .bool m.yes] 47)))
    have FW := hid (FW.out.alloc (.cells #[.int .i64 m.kind, .int .i64 m.txn, .int .i64 m.shard, .bool m.yes] 47))
    refine hK.out _ _ (Or.inr ?_) (fun hHeld => ?_)
    ·exact KP.out _ FW.out
    replace hHeld := hHeld.resolve_right (by decide)
    clear hK K
    (try simp only [Act.put, List.getElem_toArray, List.getElem_cons_succ, List.getElem_cons_zero, List.getElem?_toArray, List.getElem?_cons_succ, List.getElem?_cons_zero, List.setIfInBounds_toArray, List.set_cons_zero, List.set_cons_succ])
    refine wpAnyL_ready (rs := [3]) (by kernel_rfl) (by simp) ?_
    refine AllReadyL.cons rfl (fun K hK => ?_) AllReadyL.nil
    refine step_apG rfl (.tmp 9) (.tmp 11) 28 rfl V.heap.size 47 im (.agg #[.int .i64 0, .int .i64 0, .int .i64 0, .bool false]) 4 32 Tryz.underlying28 hmi hmz0 hmz1 hmz2 rfl (by decide) (.slice (some ⟨V.heap.size, 0, none⟩) 0 0) 0 [] (by rfl) OWN.out (new lo) 47 (.slice na d.net.length ncap) d.net.length (d.net.flatMap encM) (by rfl) (SlR.keep NN.out FW.out (Safe.new (by simp))) (oneM _) (by unfold maxLen; omega) (by omega) FW.out.size ?_
    intro v3 w3 own3 gr3 _
    rw [Nat.zero_add, List.nil_append] at own3
    obtain ⟨a3, c3, rfl⟩ := own_any own3
    have LIT := hid (ownsRow_grown LIT.out gr3 (fun b hb e => by simp [Value.ownBlock] at hb e; omega))
    have FW := hid (FW.out.after (Fr.ofOwnGrown (B := V.heap.size) (T := [47]) OWN.out gr3 (Nat.le_refl _) (List.mem_singleton.2 rfl)))
    have OWN := hid own3
    clear own3 gr3
    refine hK.out _ _ (Or.inr ?_) (fun hHeld => ?_)
    ·exact KP.out _ FW.out
    replace hHeld := hHeld.resolve_right (by decide)
    clear hK K
    (try simp only [Act.put, List.getElem_toArray, List.getElem_cons_succ, List.getElem_cons_zero, List.getElem?_toArray, List.getElem?_cons_succ, List.getElem?_cons_zero, List.setIfInBounds_toArray, List.set_cons_zero, List.set_cons_succ])
    refine wpAnyL_ready (rs := [6]) (by kernel_rfl) (by simp) ?_
    refine AllReadyL.cons rfl (fun K hK => ?_) AllReadyL.nil
    refine step_apG rfl (.tmp 12) (.tmp 14) 28 rfl V.heap.size 47 im (.agg #[.int .i64 0, .int .i64 0, .int .i64 0, .bool false]) 4 32 Tryz.underlying28 hmi hmz0 hmz1 hmz2 rfl (by decide) (.slice a3 d.net.length c3) d.net.length (d.net.flatMap encM) (by rfl) OWN.out (new V.heap.size) 47 (.slice (some ⟨V.heap.size + 1, 0, none⟩) 1 1) 1 [.int .i64 m.kind, .int .i64 m.txn, .int .i64 m.shard, .bool m.yes] (by rfl) (SlR.ofOwns LIT.out) (oneM1 m) (by unfold maxLen; omega) (by omega) FW.out.size ?_
    intro v6 w6 own6 gr6 _
    obtain ⟨a6, c6, rfl⟩ := own_any own6
    have FW := hid (FW.out.after (Fr.ofOwnGrown (B := V.heap.size) (T := [47]) OWN.out gr6 (Nat.le_refl _) (List.mem_singleton.2 rfl)))
    have OWN := hid own6
    have s0 := cell_of (o := 3) (FW.out.keep _ _ B0.out (.inr (by simp))) rfl
    have s1 := free_of (o := 3) (FW.out.keep _ _ B0.out (.inr (by simp)))
    clear own6 gr6
    refine hK.out _ _ (Or.inr ?_) (fun hHeld => ?_)
    ·exact KP.out _ FW.out
    replace hHeld := hHeld.resolve_right (by decide)
    clear hK K
    (try simp only [Act.put, List.getElem_toArray, List.getElem_cons_succ, List.getElem_cons_zero, List.getElem?_toArray, List.getElem?_cons_succ, List.getElem?_cons_zero, List.setIfInBounds_toArray, List.set_cons_zero, List.set_cons_succ])
    refine wpAnyL_take (i := 7) (v := ?_) rfl (by kernel_rfl) (by kernel_rfl) (by kernel_rfl) (by kernel_rfl) (fun _ _ _ h => h) (Or.inl ⟨by rfl, ?_⟩) (by assumption) ?_
    rotate_left
    ·intro w hSw; (try dsimp only at hSw); go_simp; try with_reducible rfl
    (try simp only [Act.put, List.getElem_toArray, List.getElem_cons_succ, List.getElem_cons_zero, List.getElem?_toArray, List.getElem?_cons_succ, List.getElem?_cons_zero, List.setIfInBounds_toArray, List.set_cons_zero, List.set_cons_succ])
    refine wpAnyL_one (i := 8) (by kernel_rfl) rfl (fun K hK => ?_)
    go_simp
    refine hK.out _ _ (Or.inl rfl) (fun hHeld => ?_)
    clear hK K hHeld
    (try simp only [Act.put, List.getElem_toArray, List.getElem_cons_succ, List.getElem_cons_zero, List.getElem?_toArray, List.getElem?_cons_succ, List.getElem?_cons_zero, List.setIfInBounds_toArray, List.set_cons_zero, List.set_cons_succ])
    refine wpAnyL_done (by kernel_rfl) ?_ _
    have E0 := hid (FW.out.keep _ _ B0.out (.inr (by simp)))
    have E2 := hid (FW.out.keep _ _ B2.out (.inr (by simp)))
    have ES := hid (block_set E0.out 3 (.slice a6 (d.net.length + 1) c6))
    have E2S := hid (block_setne (p := ⟨w.heap.size, 3, none⟩) (u := .slice a6 (d.net.length + 1) c6) E2.out (by dsimp only; omega))
    have f0 := cell_of (o := 0) ES.out rfl
    have f1 := cell_of (o := 1) ES.out rfl
    have f2 := cell_of (o := 2) ES.out rfl
    have f3 := cell_of (o := 3) ES.out rfl
    have f4 := fun o => free_of (o := o) E2S.out
    have f5 := cell_of (o := 0) E2S.out rfl
    have f6 := cell_of (o := 1) E2S.out rfl
    have f7 := cell_of (o := 2) E2S.out rfl
    have f8 := cell_of (o := 3) E2S.out rfl
    go_wp2
    have h4 := box4 (u1 := .slice ta d.co.txns.length tcap) (u2 := .slice oa d.co.order.length ocap) (u3 := .slice sa d.shards.length scap) (u4 := .slice a6 (d.net.length + 1) c6) E2S.out
    have g0 := cell_of (o := 0) h4 rfl
    have g1 := cell_of (o := 1) h4 rfl
    have g2 := cell_of (o := 2) h4 rfl
    have g3 := cell_of (o := 3) h4 rfl
    have FM := (Fr.refl 0 [30] w6).setOld (p := ⟨w.heap.size, 3, none⟩) E0.out (Nat.zero_le _) (by simp [otag]) (.slice a6 (d.net.length + 1) c6)
    have FT := box4_fr (u1 := .slice ta d.co.txns.length tcap) (u2 := .slice oa d.co.order.length ocap) (u3 := .slice sa d.shards.length scap) (u4 := .slice a6 (d.net.length + 1) c6) E2S.out
    have NR : NetR lo w6 (.slice a6 (d.net.length + 1) c6) (d.net ++ [m]) := by
     have := (SlR.ofOwns OWN.out).weak (new_low (Nat.le_trans hlo (Nat.le_trans FW0.out.size (Nat.le_refl _))))
     unfold NetR
     simpa [encM] using this
    rw [show netPost d.net m = d.net ++ [m] from if_pos hlt]
    exact bodyPost_ret (v := .agg #[.slice ta d.co.txns.length tcap, .slice oa d.co.order.length ocap, .slice sa d.shards.length scap, .slice a6 (d.net.length + 1) c6]) (by simp [results, Tryz.results157, go_sem, g0, g1, g2, g3]) rfl ⟨_, rfl, (NR.tk FM (by simp)).tk FT (by simp), ((((((FW0.out.trans FW.out.nil).setNew (p := ⟨w.heap.size, 3, none⟩) (by dsimp only; omega) _).setNew (p := ⟨w.heap.size + 2, 0, none⟩) (by dsimp only; omega) _).setNew (p := ⟨w.heap.size + 2, 1, none⟩) (by dsimp only; omega) _).setNew (p := ⟨w.heap.size + 2, 2, none⟩) (by dsimp only; omega) _).setNew (by dsimp only; omega) _)⟩
  ·go_simp
   have LIT := hid (show (V.alloc (.cells #[.int .i64 m.kind, .int .i64 m.txn, .int .i64 m.shard, .bool m.yes] 47)).ownsRow V.heap.size 47 4 (.slice (some ⟨V.heap.size, 0, none⟩) 1 1) 1 [.int .i64 m.kind, .int .i64 m.txn, .int .i64 m.shard, .bool m.yes] by simpa using ownsRow_lo (lo' := V.heap.size) (World.ownsRow_lit (base := V.heap.size) (e := 47) (size := 4) V #[.int .i64 m.kind, .int .i64 m.txn, .int .i64 m.shard, .bool m.yes] 1 (Nat.le_refl _) (by decide) rfl) (by first | exact FW.out.size | simp))
   have FW := hid (FW.out.alloc (.cells #[.int .i64 m.kind, .int .i64 m.txn, .int .i64 m.shard, .bool m.yes] 47))
   refine hK.out _ _ (Or.inr ?_) (fun hHeld => ?_)
   ·exact KP.out _ FW.out
   replace hHeld := hHeld.resolve_right (by decide)
   clear hK K
   (try simp only [Act.put, List.getElem_toArray, List.getElem_cons_succ, List.getElem_cons_zero, List.getElem?_toArray, List.getElem?_cons_succ, List.getElem?_cons_zero, List.setIfInBounds_toArray, List.set_cons_zero, List.set_cons_succ])
   refine wpAnyL_ready (rs := [0]) (by kernel_rfl) (by simp) ?_
   refine AllReadyL.cons rfl (fun K hK => ?_) AllReadyL.nil
   go_simp
   have OWN := hid (show ((V.alloc (.cells #[.int .i64 m.kind, .int .i64 m.txn, .int .i64 m.shard, .bool m.yes] 47)).alloc (.cells #[] 47)).ownsRow V.heap.size 47 4 (.slice (some ⟨V.heap.size + 1, 0, none⟩) 0 0) 0 [] by simpa using ownsRow_lo (lo' := V.heap.size) (World.ownsRow_made (e := 47) (size := 4) (V.alloc (.cells #[.int .i64 m.kind, .int .i64 m.txn, .int .i64 m.shard, .bool m.yes] 47)) #[] 0 (Nat.le_refl _) (by decide) (by simp)) (by simp))
   have LIT := hid (ownsRow_grow LIT.out ((Fr.refl 0 [] (V.alloc (.cells #[.int .i64 m.kind, .int .i64 m.txn, .int .i64 m.shard, .bool m.yes] 47))).alloc (.cells #[] 47)))
   have FW := hid (FW.out.alloc (.cells #[] 47))
   refine hK.out _ _ (Or.inr ?_) (fun hHeld => ?_)
   ·exact KP.out _ FW.out
   replace hHeld := hHeld.resolve_right (by decide)
   clear hK K
   (try simp only [Act.put, List.getElem_toArray, List.getElem_cons_succ, List.getElem_cons_zero, List.getElem?_toArray, List.getElem?_cons_succ, List.getElem?_cons_zero, List.setIfInBounds_toArray, List.set_cons_zero, List.set_cons_succ])
   refine wpAnyL_ready (rs := [3]) (by kernel_rfl) (by simp) ?_
   refine AllReadyL.cons rfl (fun K hK => ?_) AllReadyL.nil
   refine step_apG rfl (.tmp 9) (.tmp 11) 28 rfl V.heap.size 47 im (.agg #[.int .i64 0, .int .i64 0, .int .i64 0, .bool false]) 4 32 Tryz.underlying28 hmi hmz0 hmz1 hmz2 rfl (by decide) (.slice (some ⟨V.heap.size + 1, 0, none⟩) 0 0) 0 [] (by rfl) OWN.out (new lo) 47 (.slice na d.net.length ncap) d.net.length (d.net.flatMap encM) (by rfl) (SlR.keep NN.out FW.out (Safe.new (by simp))) (oneM _) (by unfold maxLen; omega) (by omega) FW.out.size ?_
   intro v3 w3 own3 gr3 _
   rw [Nat.zero_add, List.nil_append] at own3
   obtain ⟨a3, c3, rfl⟩ := own_any own3
   have LIT := hid (ownsRow_grown LIT.out gr3 (fun b hb e => by simp [Value.ownBlock] at hb e; omega))
   have FW := hid (FW.out.after (Fr.ofOwnGrown (B := V.heap.size) (T := [47]) OWN.out gr3 (Nat.le_refl _) (List.mem_singleton.2 rfl)))
   have OWN := hid own3
   clear own3 gr3
   refine hK.out _ _ (Or.inr ?_) (fun hHeld => ?_)
   ·exact KP.out _ FW.out
   replace hHeld := hHeld.resolve_right (by decide)
   clear hK K
   (try simp only [Act.put, List.getElem_toArray, List.getElem_cons_succ, List.getElem_cons_zero, List.getElem?_toArray, List.getElem?_cons_succ, List.getElem?_cons_zero, List.setIfInBounds_toArray, List.set_cons_zero, List.set_cons_succ])
   refine wpAnyL_ready (rs := [6]) (by kernel_rfl) (by simp) ?_
   refine AllReadyL.cons rfl (fun K hK => ?_) AllReadyL.nil
   refine step_apG rfl (.tmp 12) (.tmp 14) 28 rfl V.heap.size 47 im (.agg #[.int .i64 0, .int .i64 0, .int .i64 0, .bool false]) 4 32 Tryz.underlying28 hmi hmz0 hmz1 hmz2 rfl (by decide) (.slice a3 d.net.length c3) d.net.length (d.net.flatMap encM) (by rfl) OWN.out (new V.heap.size) 47 (.slice (some ⟨V.heap.size, 0, none⟩) 1 1) 1 [.int .i64 m.kind, .int .i64 m.txn, .int .i64 m.shard, .bool m.yes] (by rfl) (SlR.ofOwns LIT.out) (oneM1 m) (by unfold maxLen; omega) (by omega) FW.out.size ?_
   intro v6 w6 own6 gr6 _
   obtain ⟨a6, c6, rfl⟩ := own_any own6
   have FW := hid (FW.out.after (Fr.ofOwnGrown (B := V.heap.size) (T := [47]) OWN.out gr6 (Nat.le_refl _) (List.mem_singleton.2 rfl)))
   have OWN := hid own6
   have s0 := cell_of (o := 3) (FW.out.keep _ _ B0.out (.inr (by simp))) rfl
   have s1 := free_of (o := 3) (FW.out.keep _ _ B0.out (.inr (by simp)))
   clear own6 gr6
   refine hK.out _ _ (Or.inr ?_) (fun hHeld => ?_)
   ·exact KP.out _ FW.out
   replace hHeld := hHeld.resolve_right (by decide)
   clear hK K
   (try simp only [Act.put, List.getElem_toArray, List.getElem_cons_succ, List.getElem_cons_zero, List.getElem?_toArray, List.getElem?_cons_succ, List.getElem?_cons_zero, List.setIfInBounds_toArray, List.set_cons_zero, List.set_cons_succ])
   refine wpAnyL_take (i := 7) (v := ?_) rfl (by kernel_rfl) (by kernel_rfl) (by kernel_rfl) (by kernel_rfl) (fun _ _ _ h => h) (Or.inl ⟨by rfl, ?_⟩) (by assumption) ?_
   rotate_left
   ·intro w hSw; (try dsimp only at hSw); go_simp; try with_reducible rfl
   (try simp only [Act.put, List.getElem_toArray, List.getElem_cons_succ, List.getElem_cons_zero, List.getElem?_toArray, List.getElem?_cons_succ, List.getElem?_cons_zero, List.setIfInBounds_toArray, List.set_cons_zero, List.set_cons_succ])
   refine wpAnyL_one (i := 8) (by kernel_rfl) rfl (fun K hK => ?_)
   go_simp
   refine hK.out _ _ (Or.inl rfl) (fun hHeld => ?_)
   clear hK K hHeld
   (try simp only [Act.put, List.getElem_toArray, List.getElem_cons_succ, List.getElem_cons_zero, List.getElem?_toArray, List.getElem?_cons_succ, List.getElem?_cons_zero, List.setIfInBounds_toArray, List.set_cons_zero, List.set_cons_succ])
   refine wpAnyL_done (by kernel_rfl) ?_ _
   have E0 := hid (FW.out.keep _ _ B0.out (.inr (by simp)))
   have E2 := hid (FW.out.keep _ _ B2.out (.inr (by simp)))
   have ES := hid (block_set E0.out 3 (.slice a6 (d.net.length + 1) c6))
   have E2S := hid (block_setne (p := ⟨w.heap.size, 3, none⟩) (u := .slice a6 (d.net.length + 1) c6) E2.out (by dsimp only; omega))
   have f0 := cell_of (o := 0) ES.out rfl
   have f1 := cell_of (o := 1) ES.out rfl
   have f2 := cell_of (o := 2) ES.out rfl
   have f3 := cell_of (o := 3) ES.out rfl
   have f4 := fun o => free_of (o := o) E2S.out
   have f5 := cell_of (o := 0) E2S.out rfl
   have f6 := cell_of (o := 1) E2S.out rfl
   have f7 := cell_of (o := 2) E2S.out rfl
   have f8 := cell_of (o := 3) E2S.out rfl
   go_wp2
   have h4 := box4 (u1 := .slice ta d.co.txns.length tcap) (u2 := .slice oa d.co.order.length ocap) (u3 := .slice sa d.shards.length scap) (u4 := .slice a6 (d.net.length + 1) c6) E2S.out
   have g0 := cell_of (o := 0) h4 rfl
   have g1 := cell_of (o := 1) h4 rfl
   have g2 := cell_of (o := 2) h4 rfl
   have g3 := cell_of (o := 3) h4 rfl
   have FM := (Fr.refl 0 [30] w6).setOld (p := ⟨w.heap.size, 3, none⟩) E0.out (Nat.zero_le _) (by simp [otag]) (.slice a6 (d.net.length + 1) c6)
   have FT := box4_fr (u1 := .slice ta d.co.txns.length tcap) (u2 := .slice oa d.co.order.length ocap) (u3 := .slice sa d.shards.length scap) (u4 := .slice a6 (d.net.length + 1) c6) E2S.out
   have NR : NetR lo w6 (.slice a6 (d.net.length + 1) c6) (d.net ++ [m]) := by
    have := (SlR.ofOwns OWN.out).weak (new_low (Nat.le_trans hlo (Nat.le_trans FW0.out.size (Nat.le_refl _))))
    unfold NetR
    simpa [encM] using this
   rw [show netPost d.net m = d.net ++ [m] from if_pos hlt]
   exact bodyPost_ret (v := .agg #[.slice ta d.co.txns.length tcap, .slice oa d.co.order.length ocap, .slice sa d.shards.length scap, .slice a6 (d.net.length + 1) c6]) (by simp [results, Tryz.results157, go_sem, g0, g1, g2, g3]) rfl ⟨_, rfl, (NR.tk FM (by simp)).tk FT (by simp), ((((((FW0.out.trans FW.out.nil).setNew (p := ⟨w.heap.size, 3, none⟩) (by dsimp only; omega) _).setNew (p := ⟨w.heap.size + 2, 0, none⟩) (by dsimp only; omega) _).setNew (p := ⟨w.heap.size + 2, 1, none⟩) (by dsimp only; omega) _).setNew (p := ⟨w.heap.size + 2, 2, none⟩) (by dsimp only; omega) _).setNew (by dsimp only; omega) _)⟩
 ·have hli : ¬ (d.net.length : Int) < 14 := by omega
  go_enter Tryz.func157, Tryz.ntmps157
  have f0 := cell_of (o := 0) B0'.out rfl
  have f1 := cell_of (o := 1) B0'.out rfl
  have f2 := cell_of (o := 2) B0'.out rfl
  have f3 := cell_of (o := 3) B0'.out rfl
  have f4 := fun o => free_of (o := o) B2'.out
  have f5 := cell_of (o := 0) B2'.out rfl
  have f6 := cell_of (o := 1) B2'.out rfl
  have f7 := cell_of (o := 2) B2'.out rfl
  have f8 := cell_of (o := 3) B2'.out rfl
  go_wp2
  have R2 := (show (((w.alloc (.cells #[.slice ta d.co.txns.length tcap, .slice oa d.co.order.length ocap, .slice sa d.shards.length scap, .slice na d.net.length ncap] 30)).alloc (.cells #[.int .i64 m.kind, .int .i64 m.txn, .int .i64 m.shard, .bool m.yes] 47)).alloc (.cells #[.slice ta d.co.txns.length tcap, .slice oa d.co.order.length ocap, .slice sa d.shards.length scap, .slice na d.net.length ncap] 30)).heap[w.heap.size + 1 + 1]? = some (.cells #[.slice ta d.co.txns.length tcap, .slice oa d.co.order.length ocap, .slice sa d.shards.length scap, .slice na d.net.length ncap] 30 (0, 0)) by
   have := heap_alloc_new ((w.alloc (.cells #[.slice ta d.co.txns.length tcap, .slice oa d.co.order.length ocap, .slice sa d.shards.length scap, .slice na d.net.length ncap] 30)).alloc (.cells #[.int .i64 m.kind, .int .i64 m.txn, .int .i64 m.shard, .bool m.yes] 47)) (.cells #[.slice ta d.co.txns.length tcap, .slice oa d.co.order.length ocap, .slice sa d.shards.length scap, .slice na d.net.length ncap] 30)
   simpa using this)
  have g0 := cell_of (o := 0) R2 rfl
  have g1 := cell_of (o := 1) R2 rfl
  have g2 := cell_of (o := 2) R2 rfl
  have g3 := cell_of (o := 3) R2 rfl
  have FR := ((((Fr.refl w.heap.size [] w).alloc (.cells #[.slice ta d.co.txns.length tcap, .slice oa d.co.order.length ocap, .slice sa d.shards.length scap, .slice na d.net.length ncap] 30)).alloc (.cells #[.int .i64 m.kind, .int .i64 m.txn, .int .i64 m.shard, .bool m.yes] 47)).alloc (.cells #[.slice ta d.co.txns.length tcap, .slice oa d.co.order.length ocap, .slice sa d.shards.length scap, .slice na d.net.length ncap] 30))
  rw [show netPost d.net m = d.net from if_neg hlt]
  exact bodyPost_ret (v := .agg #[.slice ta d.co.txns.length tcap, .slice oa d.co.order.length ocap, .slice sa d.shards.length scap, .slice na d.net.length ncap]) (by simp [results, Tryz.results157, go_sem, g0, g1, g2, g3]) rfl ⟨_, rfl, HV.out.2.2.tk FR (by simp), FR⟩

end Go.Proofs.YtknoanpgadecbaaGreatDoor
