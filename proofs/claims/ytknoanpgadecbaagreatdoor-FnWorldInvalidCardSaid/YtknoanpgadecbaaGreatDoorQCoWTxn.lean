/- The reference's l51Txn. -/
import Derived.Test.YtknoanpgadecbaaGreatDoorQCoWTerm
import Derived.Test.YtknoanpgadecbaaGreatDoorQCoShard
set_option linter.unusedVariables false
set_option linter.unusedSimpArgs false
namespace Go.Proofs.YtknoanpgadecbaaGreatDoor
open Go.RowKit
set_option linter.unusedVariables false

set_option maxRecDepth 20000 in
set_option maxHeartbeats 8000000 in
theorem l51Txn_any (lo : Nat) (v1 v2 v3 v4 : Value) (d : Wd) (ek ea eb ec : Int) (w : World) (hv : WdR lo w v1 v2 v3 v4 d) (hlo : lo ≤ w.heap.size) (hi : WdI d) :
  Calls Tryz.prog 109 #[.agg #[v1, v2, v3, v4], .agg #[.int .i64 ek, .int .i64 ea, .int .i64 eb, .int .i64 ec]] w (WdOut lo w) := by
 obtain ⟨ta, tcap, rfl, _, _⟩ := hv.1.1.shape
 obtain ⟨oa, ocap, rfl, _, _⟩ := hv.1.2.shape
 obtain ⟨sa, scap, rfl, _, _⟩ := hv.2.1.shape
 obtain ⟨na, ncap, rfl, hnc, _⟩ := hv.2.2.shape
 have HV := hid hv
 have WI := hid hi
 have htl := hi.1.2.1
 have iw : IntKind.i64.wrap ((d.co.txns.length : Int) - 1) = (d.co.txns.length : Int) - 1 := by rw [IntKind.wrap_i64]; omega
 clear hv hi
 rcases ga : inR ea 0 ((d.co.txns.length : Int) - 1) with _ | _
 ·have GA := hid ga
  clear ga
  go_enter Tryz.func109, Tryz.ntmps109
  go_wp2_with (go_at_call 22; go_must (refine (l6In_any _ _ _ _).mono ?_; rintro e w4 ⟨rfl, hw4⟩; rw [GA.out]; subst hw4))
  have R2 := (show (((w.alloc (.cells #[.slice ta d.co.txns.length tcap, .slice oa d.co.order.length ocap, .slice sa d.shards.length scap, .slice na d.net.length ncap] 30)).alloc (.cells #[.int .i64 ek, .int .i64 ea, .int .i64 eb, .int .i64 ec] 36)).alloc (.cells #[.slice ta d.co.txns.length tcap, .slice oa d.co.order.length ocap, .slice sa d.shards.length scap, .slice na d.net.length ncap] 30)).heap[w.heap.size + 1 + 1]? = some (.cells #[.slice ta d.co.txns.length tcap, .slice oa d.co.order.length ocap, .slice sa d.shards.length scap, .slice na d.net.length ncap] 30 (0, 0)) by
   have := heap_alloc_new ((w.alloc (.cells #[.slice ta d.co.txns.length tcap, .slice oa d.co.order.length ocap, .slice sa d.shards.length scap, .slice na d.net.length ncap] 30)).alloc (.cells #[.int .i64 ek, .int .i64 ea, .int .i64 eb, .int .i64 ec] 36)) (.cells #[.slice ta d.co.txns.length tcap, .slice oa d.co.order.length ocap, .slice sa d.shards.length scap, .slice na d.net.length ncap] 30)
   simpa using this)
  have g0 := cell_of (o := 0) R2 rfl
  have g1 := cell_of (o := 1) R2 rfl
  have g2 := cell_of (o := 2) R2 rfl
  have g3 := cell_of (o := 3) R2 rfl
  have FR := (((Fr.refl w.heap.size [] w).alloc (.cells #[.slice ta d.co.txns.length tcap, .slice oa d.co.order.length ocap, .slice sa d.shards.length scap, .slice na d.net.length ncap] 30)).alloc (.cells #[.int .i64 ek, .int .i64 ea, .int .i64 eb, .int .i64 ec] 36)).alloc (.cells #[.slice ta d.co.txns.length tcap, .slice oa d.co.order.length ocap, .slice sa d.shards.length scap, .slice na d.net.length ncap] 30)
  exact bodyPost_ret (v := .agg #[.slice ta d.co.txns.length tcap, .slice oa d.co.order.length ocap, .slice sa d.shards.length scap, .slice na d.net.length ncap]) (by simp [results, Tryz.results109, go_sem, g0, g1, g2, g3]) rfl ⟨_, _, _, _, d, rfl, HV.out.grow FR, WI.out, FR⟩
 ·have GA := hid ga
  have hin := inR_iff.1 ga
  obtain ⟨k, rfl⟩ := Int.eq_ofNat_of_zero_le hin.1
  have hlt : k < d.co.txns.length := by have := hin.2; omega
  clear ga hin
  have FA := hid ((((Fr.refl w.heap.size [] w).alloc (.cells #[.slice ta d.co.txns.length tcap, .slice oa d.co.order.length ocap, .slice sa d.shards.length scap, .slice na d.net.length ncap] 30)).alloc (.cells #[.int .i64 ek, .int .i64 k, .int .i64 eb, .int .i64 ec] 36)).alloc (.cells #[.slice none 0 0, .slice none 0 0, .slice none 0 0, .slice none 0 0] 30))
  have B0 := hid (heap_up (heap_up (heap_alloc_new w (.cells #[.slice ta d.co.txns.length tcap, .slice oa d.co.order.length ocap, .slice sa d.shards.length scap, .slice na d.net.length ncap] 30)) (.cells #[.int .i64 ek, .int .i64 k, .int .i64 eb, .int .i64 ec] 36)) (.cells #[.slice none 0 0, .slice none 0 0, .slice none 0 0, .slice none 0 0] 30))
  have B1 := hid (show (((w.alloc (.cells #[.slice ta d.co.txns.length tcap, .slice oa d.co.order.length ocap, .slice sa d.shards.length scap, .slice na d.net.length ncap] 30)).alloc (.cells #[.int .i64 ek, .int .i64 k, .int .i64 eb, .int .i64 ec] 36)).alloc (.cells #[.slice none 0 0, .slice none 0 0, .slice none 0 0, .slice none 0 0] 30)).heap[w.heap.size + 1]? = some (.cells #[.int .i64 ek, .int .i64 k, .int .i64 eb, .int .i64 ec] 36 (0, 0)) by
   have := heap_up (heap_alloc_new (w.alloc (.cells #[.slice ta d.co.txns.length tcap, .slice oa d.co.order.length ocap, .slice sa d.shards.length scap, .slice na d.net.length ncap] 30)) (.cells #[.int .i64 ek, .int .i64 k, .int .i64 eb, .int .i64 ec] 36)) (.cells #[.slice none 0 0, .slice none 0 0, .slice none 0 0, .slice none 0 0] 30)
   simpa using this)
  have B2 := hid (show (((w.alloc (.cells #[.slice ta d.co.txns.length tcap, .slice oa d.co.order.length ocap, .slice sa d.shards.length scap, .slice na d.net.length ncap] 30)).alloc (.cells #[.int .i64 ek, .int .i64 k, .int .i64 eb, .int .i64 ec] 36)).alloc (.cells #[.slice none 0 0, .slice none 0 0, .slice none 0 0, .slice none 0 0] 30)).heap[w.heap.size + 2]? = some (.cells #[.slice none 0 0, .slice none 0 0, .slice none 0 0, .slice none 0 0] 30 (0, 0)) by
   have := heap_alloc_new ((w.alloc (.cells #[.slice ta d.co.txns.length tcap, .slice oa d.co.order.length ocap, .slice sa d.shards.length scap, .slice na d.net.length ncap] 30)).alloc (.cells #[.int .i64 ek, .int .i64 k, .int .i64 eb, .int .i64 ec] 36)) (.cells #[.slice none 0 0, .slice none 0 0, .slice none 0 0, .slice none 0 0] 30)
   simpa using this)
  by_cases h5 : ek = 5
  ·subst h5
   go_enter Tryz.func109, Tryz.ntmps109
   go_upto_if 29 with (first | (go_at_call 22; go_must (refine (l6In_any _ _ _ _).mono ?_; rintro e w4 ⟨rfl, hw4⟩; rw [GA.out]; subst hw4)) | (go_at_call 74; go_must (refine (specTimeout_any lo _ _ d.co (k : Int) _ (HV.out.grow FA.out).1 WI.out.1).mono ?_; rintro e w2 ⟨u1, u2, c', ok, rfl, cr2, ci2, hin, fr2⟩; obtain ⟨ua, ucap, rfl, _, _⟩ := cr2.1.shape; obtain ⟨ob, obcap, rfl, _, _⟩ := cr2.2.shape; have CR := hid cr2; have CI := hid ci2; have HIN := hid hin; have FR2 := hid fr2; clear cr2 ci2 fr2 hin)))
   have hsA := FA.out.size
   have C0 := hid (FR2.out.keep _ _ B0.out (.inr (by simp)))
   have C2 := hid (FR2.out.keep _ _ B2.out (.inr (by simp)))
   have hc0 := lt_of_get C0.out
   have hc2 := lt_of_get C2.out
   have FB := hid ((Fr.refl w2.heap.size [] w2).alloc (.cells #[.slice ua c'.txns.length ucap, .slice ob c'.order.length obcap] 26))
   have D0 := hid (FB.out.keep _ _ C0.out (.inr (by simp)))
   have D2 := hid (FB.out.keep _ _ C2.out (.inr (by simp)))
   have D1 := hid (FB.out.keep _ _ (FR2.out.keep _ _ B1.out (.inr (by simp))) (.inr (by simp)))
   have DX := hid (heap_alloc_new w2 (.cells #[.slice ua c'.txns.length ucap, .slice ob c'.order.length obcap] 26))
   have F2 := hid ((FA.out.trans FR2.out.nil).trans FB.out.nil)
   have CR2 := hid ((CR.out.lower (lo' := lo) (Nat.le_trans hlo hsA)).grow FB.out)
   obtain ⟨W, hW⟩ : ∃ W : World, W = w2.alloc (.cells #[.slice ua c'.txns.length ucap, .slice ob c'.order.length obcap] 26) := ⟨_, rfl⟩
   obtain ⟨X, hX⟩ : ∃ X, X = w2.heap.size := ⟨_, rfl⟩
   rw [← hW] at D0 D1 D2 DX F2 CR2 ⊢
   rw [← hX] at DX ⊢
   have hX0 : X ≠ w.heap.size := by omega
   have hX2 : X ≠ w.heap.size + 2 := by omega
   clear hX hW FB C0 C2 CR hc0 hc2 FA B0 B1 B2 FR2 hsA
   have p0 := cell_of (o := 0) D0.out rfl
   have p1 := cell_of (o := 1) D0.out rfl
   have p2 := cell_of (o := 2) D0.out rfl
   have p3 := cell_of (o := 3) D0.out rfl
   have p4 := fun o => free_of (o := o) D2.out
   have p5 := cell_of (o := 0) D2.out rfl
   have p6 := cell_of (o := 1) D2.out rfl
   have p7 := cell_of (o := 2) D2.out rfl
   have p8 := cell_of (o := 3) D2.out rfl
   have hl0 := lt_of_get D0.out
   have hl2 := lt_of_get D2.out
   have d1 := cell_of (o := 1) D1.out rfl
   rcases ok with _ | _
   ·go_wp2
    have h4 := box4 (u1 := .slice ta d.co.txns.length tcap) (u2 := .slice oa d.co.order.length ocap) (u3 := .slice sa d.shards.length scap) (u4 := .slice na d.net.length ncap) D2.out
    have g0 := cell_of (o := 0) h4 rfl
    have g1 := cell_of (o := 1) h4 rfl
    have g2 := cell_of (o := 2) h4 rfl
    have g3 := cell_of (o := 3) h4 rfl
    have FT := box4_fr (u1 := .slice ta d.co.txns.length tcap) (u2 := .slice oa d.co.order.length ocap) (u3 := .slice sa d.shards.length scap) (u4 := .slice na d.net.length ncap) D2.out
    exact bodyPost_ret (v := .agg #[.slice ta d.co.txns.length tcap, .slice oa d.co.order.length ocap, .slice sa d.shards.length scap, .slice na d.net.length ncap]) (by simp [results, Tryz.results109, go_sem, g0, g1, g2, g3]) rfl ⟨_, _, _, _, d, rfl, (HV.out.grow F2.out).tk FT (by simp [Apt]), WI.out, (((F2.out.setNew (p := ⟨w.heap.size + 2, 0, none⟩) (by dsimp only; omega) _).setNew (p := ⟨w.heap.size + 2, 1, none⟩) (by dsimp only; omega) _).setNew (p := ⟨w.heap.size + 2, 2, none⟩) (by dsimp only; omega) _).setNew (by dsimp only; omega) _⟩
   ·have hkl : k < c'.txns.length := by have := (HIN.out rfl).2; omega
    have x0 := cell_of (o := 0) DX.out rfl
    have x1 := cell_of (o := 1) DX.out rfl
    have p9 := fun o => free_of (o := o) D0.out
    have FS := hid (box2p_fr (u1 := .slice ua c'.txns.length ucap) (u2 := .slice ob c'.order.length obcap) D0.out)
    have E2 := hid (block_setne (p := ⟨w.heap.size, 1, none⟩) (u := .slice ob c'.order.length obcap) (block_setne (p := ⟨w.heap.size, 0, none⟩) (u := .slice ua c'.txns.length ucap) D2.out (by dsimp only; omega)) (by dsimp only; omega))
    have FV := hid ((F2.out.setNew (p := ⟨w.heap.size, 0, none⟩) (by dsimp only; omega) (.slice ua c'.txns.length ucap)).setNew (p := ⟨w.heap.size, 1, none⟩) (by dsimp only; omega) (.slice ob c'.order.length obcap))
    have WR := hid (show WdR lo ((W.setCell ⟨w.heap.size, 0, none⟩ (.slice ua c'.txns.length ucap)).setCell ⟨w.heap.size, 1, none⟩ (.slice ob c'.order.length obcap)) (.slice ua c'.txns.length ucap) (.slice ob c'.order.length obcap) (.slice sa d.shards.length scap) (.slice na d.net.length ncap) ⟨c', d.shards, d.net⟩ from
     WdR.tk ⟨CR2.out, (HV.out.grow F2.out).2.1, (HV.out.grow F2.out).2.2⟩ FS.out (by simp [Apt]))
    go_wp2_with (go_at_call 159; go_must (refine (l51Tell_any lo _ _ _ _ ⟨c', d.shards, d.net⟩ k _ WR.out (Nat.le_trans hlo FV.out.size) hkl (CI.out.1 _ (List.getElem_mem hkl)) WI.out.2.2.2 (by have := CI.out.2.1; simp only; omega)).mono ?_; rintro e w5 ⟨u4, ms, rfl, nr, ni, fr5⟩; obtain ⟨nb, ncap', rfl, _, _⟩ := nr.shape; have NR := hid nr; have NI := hid ni; have FR5 := hid fr5; have G1 := hid (fr5.keep _ _ E2.out (.inr (by simp))); have s4 := fun o => free_of (o := o) G1.out; have s5 := cell_of (o := 0) G1.out rfl; have s6 := cell_of (o := 1) G1.out rfl; have s7 := cell_of (o := 2) G1.out rfl; have s8 := cell_of (o := 3) G1.out rfl; have hlG := lt_of_get G1.out; clear nr ni fr5))
    have WR2 : WdR lo w5 (.slice ua c'.txns.length ucap) (.slice ob c'.order.length obcap) (.slice sa d.shards.length scap) (.slice nb ms.length ncap') ⟨c', d.shards, ms⟩ := ⟨(WR.out.grow FR5.out).1, (WR.out.grow FR5.out).2.1, NR.out⟩
    have F5 := FV.out.trans FR5.out.nil
    have h4 := box4 (u1 := .slice ua c'.txns.length ucap) (u2 := .slice ob c'.order.length obcap) (u3 := .slice sa d.shards.length scap) (u4 := .slice nb ms.length ncap') G1.out
    have g0 := cell_of (o := 0) h4 rfl
    have g1 := cell_of (o := 1) h4 rfl
    have g2 := cell_of (o := 2) h4 rfl
    have g3 := cell_of (o := 3) h4 rfl
    have FT := box4_fr (u1 := .slice ua c'.txns.length ucap) (u2 := .slice ob c'.order.length obcap) (u3 := .slice sa d.shards.length scap) (u4 := .slice nb ms.length ncap') G1.out
    exact bodyPost_ret (v := .agg #[.slice ua c'.txns.length ucap, .slice ob c'.order.length obcap, .slice sa d.shards.length scap, .slice nb ms.length ncap']) (by simp [results, Tryz.results109, go_sem, g0, g1, g2, g3]) rfl ⟨_, _, _, _, ⟨c', d.shards, ms⟩, rfl, (WR2).tk FT (by simp [Apt]), ⟨CI.out, WI.out.2.1, WI.out.2.2.1, NI.out⟩, (((F5.setNew (p := ⟨w.heap.size + 2, 0, none⟩) (by dsimp only; omega) _).setNew (p := ⟨w.heap.size + 2, 1, none⟩) (by dsimp only; omega) _).setNew (p := ⟨w.heap.size + 2, 2, none⟩) (by dsimp only; omega) _).setNew (by dsimp only; omega) _⟩
  ·by_cases h6 : ek = 6
   ·subst h6
    go_enter Tryz.func109, Tryz.ntmps109
    go_wp2_with (go_at_call 22; go_must (refine (l6In_any _ _ _ _).mono ?_; rintro e w4 ⟨rfl, hw4⟩; rw [GA.out]; subst hw4))
    obtain ⟨W, hW⟩ : ∃ W : World, W = ((w.alloc (.cells #[.slice ta d.co.txns.length tcap, .slice oa d.co.order.length ocap, .slice sa d.shards.length scap, .slice na d.net.length ncap] 30)).alloc (.cells #[.int .i64 6, .int .i64 k, .int .i64 eb, .int .i64 ec] 36)).alloc (.cells #[.slice none 0 0, .slice none 0 0, .slice none 0 0, .slice none 0 0] 30) := ⟨_, rfl⟩
    rw [← hW] at B0 B1 B2 FA ⊢
    clear hW
    refine wp_region_L 7 (S := (fun x => x.cell? ⟨w.heap.size, 0, none⟩ = some (.slice ta d.co.txns.length tcap) ∧ x.cell? ⟨w.heap.size, 1, none⟩ = some (.slice oa d.co.order.length ocap) ∧ x.cell? ⟨w.heap.size, 2, none⟩ = some (.slice sa d.shards.length scap) ∧ x.cell? ⟨w.heap.size, 3, none⟩ = some (.slice na d.net.length ncap) ∧ x.cell? ⟨w.heap.size + 1, 1, none⟩ = some (.int .i64 k))) (by kernel_rfl) ?_ (fun hHeld => ?_)
    ·have f := (Fr.refl W.heap.size [] W).drew
     exact ⟨f.cell (lt_of_get B0.out) (cell_of (o := 0) B0.out rfl), f.cell (lt_of_get B0.out) (cell_of (o := 1) B0.out rfl), f.cell (lt_of_get B0.out) (cell_of (o := 2) B0.out rfl), f.cell (lt_of_get B0.out) (cell_of (o := 3) B0.out rfl), f.cell (lt_of_get B1.out) (cell_of (o := 1) B1.out rfl)⟩
    have FD := (Fr.refl W.heap.size [] W).drew
    replace B0 := hid (FD.keep _ _ B0.out (.inr (by simp)))
    replace B1 := hid (FD.keep _ _ B1.out (.inr (by simp)))
    replace B2 := hid (FD.keep _ _ B2.out (.inr (by simp)))
    have FW0 := hid (FA.out.trans FD.nil)
    clear FD FA
    generalize W.drew = V at *
    have hl0 := lt_of_get B0.out
    have hl1 := lt_of_get B1.out
    have FW := hid (Fr.refl V.heap.size [] V)
    have KP := hid (fun (x : World) (f : Fr V.heap.size [] V x) => (⟨f.cell hl0 (cell_of (o := 0) B0.out rfl), f.cell hl0 (cell_of (o := 1) B0.out rfl), f.cell hl0 (cell_of (o := 2) B0.out rfl), f.cell hl0 (cell_of (o := 3) B0.out rfl), f.cell hl1 (cell_of (o := 1) B1.out rfl)⟩ : x.cell? ⟨w.heap.size, 0, none⟩ = some (.slice ta d.co.txns.length tcap) ∧ x.cell? ⟨w.heap.size, 1, none⟩ = some (.slice oa d.co.order.length ocap) ∧ x.cell? ⟨w.heap.size, 2, none⟩ = some (.slice sa d.shards.length scap) ∧ x.cell? ⟨w.heap.size, 3, none⟩ = some (.slice na d.net.length ncap) ∧ x.cell? ⟨w.heap.size + 1, 1, none⟩ = some (.int .i64 k)))
    refine wpAnyL_take (i := 0) (v := ?_) rfl (by kernel_rfl) (by kernel_rfl) (by kernel_rfl) (by kernel_rfl) (fun _ _ _ h => h) (Or.inl ⟨by rfl, ?_⟩) (by assumption) ?_
    rotate_left
    ·intro w hSw; (try dsimp only at hSw); go_simp; try with_reducible rfl
    (try simp only [Act.put, List.getElem_toArray, List.getElem_cons_succ, List.getElem_cons_zero, List.getElem?_toArray, List.getElem?_cons_succ, List.getElem?_cons_zero, List.setIfInBounds_toArray, List.set_cons_zero, List.set_cons_succ])
    refine wpAnyL_take (i := 1) (v := ?_) rfl (by kernel_rfl) (by kernel_rfl) (by kernel_rfl) (by kernel_rfl) (fun _ _ _ h => h) (Or.inl ⟨by rfl, ?_⟩) (by assumption) ?_
    rotate_left
    ·intro w hSw; (try dsimp only at hSw); go_simp; try with_reducible rfl
    (try simp only [Act.put, List.getElem_toArray, List.getElem_cons_succ, List.getElem_cons_zero, List.getElem?_toArray, List.getElem?_cons_succ, List.getElem?_cons_zero, List.setIfInBounds_toArray, List.set_cons_zero, List.set_cons_succ])
    refine wpAnyL_take (i := 4) (v := ?_) rfl (by kernel_rfl) (by kernel_rfl) (by kernel_rfl) (by kernel_rfl) (fun _ _ _ h => h) (Or.inl ⟨by rfl, ?_⟩) (by assumption) ?_
    rotate_left
    ·intro w hSw; (try dsimp only at hSw); go_simp; try with_reducible rfl
    (try simp only [Act.put, List.getElem_toArray, List.getElem_cons_succ, List.getElem_cons_zero, List.getElem?_toArray, List.getElem?_cons_succ, List.getElem?_cons_zero, List.setIfInBounds_toArray, List.set_cons_zero, List.set_cons_succ])
    refine wpAnyL_take (i := 2) (v := ?_) rfl (by kernel_rfl) (by kernel_rfl) (by kernel_rfl) (by kernel_rfl) (fun _ _ _ h => h) (Or.inl ⟨by rfl, ?_⟩) (by assumption) ?_
    rotate_left
    ·intro w hSw; (try dsimp only at hSw); go_simp; try with_reducible rfl
    (try simp only [Act.put, List.getElem_toArray, List.getElem_cons_succ, List.getElem_cons_zero, List.getElem?_toArray, List.getElem?_cons_succ, List.getElem?_cons_zero, List.setIfInBounds_toArray, List.set_cons_zero, List.set_cons_succ])
    refine wpAnyL_take (i := 5) (v := ?_) rfl (by kernel_rfl) (by kernel_rfl) (by kernel_rfl) (by kernel_rfl) (fun _ _ _ h => h) (Or.inl ⟨by rfl, ?_⟩) (by assumption) ?_
    rotate_left
    ·intro w hSw; (try dsimp only at hSw); go_simp; try with_reducible rfl
    (try simp only [Act.put, List.getElem_toArray, List.getElem_cons_succ, List.getElem_cons_zero, List.getElem?_toArray, List.getElem?_cons_succ, List.getElem?_cons_zero, List.setIfInBounds_toArray, List.set_cons_zero, List.set_cons_succ])
    refine wpAnyL_ready (rs := [3]) (by kernel_rfl) (by simp) ?_
    refine AllReadyL.cons rfl (fun K hK => ?_) AllReadyL.nil
    go_simp
    go_at_call 156
    refine (l51Ask_any lo _ _ _ _ d (k : Int) _ (HV.out.grow FW0.out) (Nat.le_trans hlo FW0.out.size) WI.out.1 WI.out.2.2.2).mono ?_
    rintro e w5 ⟨u4, ms, rfl, nr, ni, fr5⟩
    obtain ⟨nb, ncap', rfl, _, _⟩ := nr.shape
    have NR := hid nr
    have NI := hid ni
    have FW0 := hid (FW0.out.trans fr5.nil)
    have FW := hid (FW.out.trans fr5)
    clear nr ni fr5
    refine hK.out _ _ (Or.inr ?_) (fun hHeld => ?_)
    ·exact KP.out _ FW.out
    replace hHeld := hHeld.resolve_right (by decide)
    clear hK K
    (try simp only [Act.put, List.getElem_toArray, List.getElem_cons_succ, List.getElem_cons_zero, List.getElem?_toArray, List.getElem?_cons_succ, List.getElem?_cons_zero, List.setIfInBounds_toArray, List.set_cons_zero, List.set_cons_succ])
    refine wpAnyL_ready (rs := [6]) (by kernel_rfl) (by simp) ?_
    refine AllReadyL.cons rfl (fun K hK => ?_) AllReadyL.nil
    go_simp
    go_at_call 159
    refine (l51Tell_any lo _ _ _ _ ⟨d.co, d.shards, ms⟩ k _ ⟨(HV.out.grow FW0.out).1, (HV.out.grow FW0.out).2.1, NR.out⟩ (Nat.le_trans hlo FW0.out.size) hlt (WI.out.1.1 _ (List.getElem_mem hlt)) NI.out (by simp only; omega)).mono ?_
    rintro e w6 ⟨u5, ms2, rfl, nr, ni, fr6⟩
    obtain ⟨nb2, ncap2, rfl, _, _⟩ := nr.shape
    have NR2 := hid nr
    have NI2 := hid ni
    have FW0 := hid (FW0.out.trans fr6.nil)
    have FW := hid (FW.out.trans fr6.nil)
    have G1 := hid (FW.out.keep _ _ B2.out (.inr (by simp)))
    have s4 := fun o => free_of (o := o) G1.out
    have s5 := cell_of (o := 0) G1.out rfl
    have s6 := cell_of (o := 1) G1.out rfl
    have s7 := cell_of (o := 2) G1.out rfl
    have s8 := cell_of (o := 3) G1.out rfl
    have hlG := lt_of_get G1.out
    clear nr ni fr6
    refine hK.out _ _ (Or.inr ?_) (fun hHeld => ?_)
    ·exact KP.out _ FW.out
    replace hHeld := hHeld.resolve_right (by decide)
    clear hK K
    (try simp only [Act.put, List.getElem_toArray, List.getElem_cons_succ, List.getElem_cons_zero, List.getElem?_toArray, List.getElem?_cons_succ, List.getElem?_cons_zero, List.setIfInBounds_toArray, List.set_cons_zero, List.set_cons_succ])
    refine wpAnyL_one (i := 7) (by kernel_rfl) rfl (fun K hK => ?_)
    go_simp
    refine hK.out _ _ (Or.inl rfl) (fun hHeld => ?_)
    clear hK K hHeld
    (try simp only [Act.put, List.getElem_toArray, List.getElem_cons_succ, List.getElem_cons_zero, List.getElem?_toArray, List.getElem?_cons_succ, List.getElem?_cons_zero, List.setIfInBounds_toArray, List.set_cons_zero, List.set_cons_succ])
    refine wpAnyL_done (by kernel_rfl) ?_ _
    go_wp2
    have F5 := FW0.out
    have h4 := box4 (u1 := .slice ta d.co.txns.length tcap) (u2 := .slice oa d.co.order.length ocap) (u3 := .slice sa d.shards.length scap) (u4 := .slice nb2 ms2.length ncap2) G1.out
    have g0 := cell_of (o := 0) h4 rfl
    have g1 := cell_of (o := 1) h4 rfl
    have g2 := cell_of (o := 2) h4 rfl
    have g3 := cell_of (o := 3) h4 rfl
    have FT := box4_fr (u1 := .slice ta d.co.txns.length tcap) (u2 := .slice oa d.co.order.length ocap) (u3 := .slice sa d.shards.length scap) (u4 := .slice nb2 ms2.length ncap2) G1.out
    exact bodyPost_ret (v := .agg #[.slice ta d.co.txns.length tcap, .slice oa d.co.order.length ocap, .slice sa d.shards.length scap, .slice nb2 ms2.length ncap2]) (by simp [results, Tryz.results109, go_sem, g0, g1, g2, g3]) rfl ⟨_, _, _, _, ⟨d.co, d.shards, ms2⟩, rfl, (show WdR lo w6 (.slice ta d.co.txns.length tcap) (.slice oa d.co.order.length ocap) (.slice sa d.shards.length scap) (.slice nb2 ms2.length ncap2) ⟨d.co, d.shards, ms2⟩ from ⟨(HV.out.grow F5).1, (HV.out.grow F5).2.1, NR2.out⟩).tk FT (by simp [Apt]), ⟨WI.out.1, WI.out.2.1, WI.out.2.2.1, NI2.out⟩, (((F5.setNew (p := ⟨w.heap.size + 2, 0, none⟩) (by dsimp only; omega) _).setNew (p := ⟨w.heap.size + 2, 1, none⟩) (by dsimp only; omega) _).setNew (p := ⟨w.heap.size + 2, 2, none⟩) (by dsimp only; omega) _).setNew (by dsimp only; omega) _⟩
   ·by_cases h7 : ek = 7
    ·subst h7
     go_enter Tryz.func109, Tryz.ntmps109
     go_wp2_with (first | (go_at_call 22; go_must (refine (l6In_any _ _ _ _).mono ?_; rintro e w4 ⟨rfl, hw4⟩; rw [GA.out]; subst hw4)) | (go_at_call 160; go_must (refine (l51Term_any lo _ _ _ _ d k _ (HV.out.grow FA.out) (Nat.le_trans hlo FA.out.size) WI.out hlt).mono ?_; rintro e w7 ⟨u1, u2, u3, u4, d', rfl, wr, wi, fr7⟩; obtain ⟨ua, ucap, rfl, _, _⟩ := wr.1.1.shape; obtain ⟨ub, ubcap, rfl, _, _⟩ := wr.1.2.shape; obtain ⟨uc, uccap, rfl, _, _⟩ := wr.2.1.shape; obtain ⟨ud, udcap, rfl, _, _⟩ := wr.2.2.shape; have WR7 := hid wr; have WI7 := hid wi; have FR7 := hid fr7; have G1 := hid (fr7.keep _ _ B2.out (.inr (by simp))); have s4 := fun o => free_of (o := o) G1.out; have s5 := cell_of (o := 0) G1.out rfl; have s6 := cell_of (o := 1) G1.out rfl; have s7 := cell_of (o := 2) G1.out rfl; have s8 := cell_of (o := 3) G1.out rfl; have hlG := lt_of_get G1.out; clear wr wi fr7)))
     have F7 := FA.out.trans FR7.out.nil
     have h4 := box4 (u1 := .slice ua d'.co.txns.length ucap) (u2 := .slice ub d'.co.order.length ubcap) (u3 := .slice uc d'.shards.length uccap) (u4 := .slice ud d'.net.length udcap) G1.out
     have g0 := cell_of (o := 0) h4 rfl
     have g1 := cell_of (o := 1) h4 rfl
     have g2 := cell_of (o := 2) h4 rfl
     have g3 := cell_of (o := 3) h4 rfl
     have FT := box4_fr (u1 := .slice ua d'.co.txns.length ucap) (u2 := .slice ub d'.co.order.length ubcap) (u3 := .slice uc d'.shards.length uccap) (u4 := .slice ud d'.net.length udcap) G1.out
     exact bodyPost_ret (v := .agg #[.slice ua d'.co.txns.length ucap, .slice ub d'.co.order.length ubcap, .slice uc d'.shards.length uccap, .slice ud d'.net.length udcap]) (by simp [results, Tryz.results109, go_sem, g0, g1, g2, g3]) rfl ⟨_, _, _, _, d', rfl, (WR7.out).tk FT (by simp [Apt]), WI7.out, (((F7.setNew (p := ⟨w.heap.size + 2, 0, none⟩) (by dsimp only; omega) _).setNew (p := ⟨w.heap.size + 2, 1, none⟩) (by dsimp only; omega) _).setNew (p := ⟨w.heap.size + 2, 2, none⟩) (by dsimp only; omega) _).setNew (by dsimp only; omega) _⟩
    ·have q5 : (ek == 5) = false := by simpa using h5
     have q6 : (ek == 6) = false := by simpa using h6
     have q7 : (ek == 7) = false := by simpa using h7
     go_enter Tryz.func109, Tryz.ntmps109
     go_wp2_with (go_at_call 22; go_must (refine (l6In_any _ _ _ _).mono ?_; rintro e w4 ⟨rfl, hw4⟩; rw [GA.out]; subst hw4))
     have R2 := (show (((w.alloc (.cells #[.slice ta d.co.txns.length tcap, .slice oa d.co.order.length ocap, .slice sa d.shards.length scap, .slice na d.net.length ncap] 30)).alloc (.cells #[.int .i64 ek, .int .i64 k, .int .i64 eb, .int .i64 ec] 36)).alloc (.cells #[.slice ta d.co.txns.length tcap, .slice oa d.co.order.length ocap, .slice sa d.shards.length scap, .slice na d.net.length ncap] 30)).heap[w.heap.size + 1 + 1]? = some (.cells #[.slice ta d.co.txns.length tcap, .slice oa d.co.order.length ocap, .slice sa d.shards.length scap, .slice na d.net.length ncap] 30 (0, 0)) by
      have := heap_alloc_new ((w.alloc (.cells #[.slice ta d.co.txns.length tcap, .slice oa d.co.order.length ocap, .slice sa d.shards.length scap, .slice na d.net.length ncap] 30)).alloc (.cells #[.int .i64 ek, .int .i64 k, .int .i64 eb, .int .i64 ec] 36)) (.cells #[.slice ta d.co.txns.length tcap, .slice oa d.co.order.length ocap, .slice sa d.shards.length scap, .slice na d.net.length ncap] 30)
      simpa using this)
     have g0 := cell_of (o := 0) R2 rfl
     have g1 := cell_of (o := 1) R2 rfl
     have g2 := cell_of (o := 2) R2 rfl
     have g3 := cell_of (o := 3) R2 rfl
     have FR := (((Fr.refl w.heap.size [] w).alloc (.cells #[.slice ta d.co.txns.length tcap, .slice oa d.co.order.length ocap, .slice sa d.shards.length scap, .slice na d.net.length ncap] 30)).alloc (.cells #[.int .i64 ek, .int .i64 k, .int .i64 eb, .int .i64 ec] 36)).alloc (.cells #[.slice ta d.co.txns.length tcap, .slice oa d.co.order.length ocap, .slice sa d.shards.length scap, .slice na d.net.length ncap] 30)
     exact bodyPost_ret (v := .agg #[.slice ta d.co.txns.length tcap, .slice oa d.co.order.length ocap, .slice sa d.shards.length scap, .slice na d.net.length ncap]) (by simp [results, Tryz.results109, go_sem, g0, g1, g2, g3]) rfl ⟨_, _, _, _, d, rfl, HV.out.grow FR, WI.out, FR⟩

end Go.Proofs.YtknoanpgadecbaaGreatDoor
