/- The reference's CoordinatorVote. -/
import Derived.Test.YtknoanpgadecbaaGreatDoorQCoVote
import Derived.Test.YtknoanpgadecbaaGreatDoorQM6
import Derived.Deep.RegionHeld3
import Derived.Test.YtknoanpgadecbaaGreatDoorQM4
set_option linter.unusedVariables false
set_option linter.unusedSimpArgs false
namespace Go.Proofs.YtknoanpgadecbaaGreatDoor
open Go.RowKit
set_option linter.unusedVariables false

theorem coOk_len {c : Co} (h : coOk c = true) : c.order.length ≤ 12 := by
 simp [coOk] at h
 have h2 : comm c c.txns.length ≤ c.txns.length := by
  unfold comm
  exact Nat.le_trans List.countP_le_length (by simp)
 omega

set_option maxRecDepth 20000 in
set_option maxHeartbeats 4000000 in
theorem specVote_own (lo : Nat) (v1 v2 : Value) (c : Co) (txn x : Int) (yes : Bool) (w : World) (hv : CoR lo w v1 v2 c) (hi : CoI c) :
  Calls Tryz.prog 75 #[.agg #[v1, v2], .int .i64 txn, .int .i64 x, .bool yes] w fun e w' =>
   ∃ u1 u2 c' ok, e = .returned (.tuple #[.agg #[u1, u2], .bool ok]) ∧ CoOwn w.heap.size w' u1 u2 c' ∧ CoI c' ∧ (ok = true → 0 ≤ txn ∧ txn < c'.txns.length) ∧ Fr w.heap.size [] w w' := by
 obtain ⟨ta, tcap, rfl, _, hcell⟩ := hv.1.shape
 obtain ⟨oa, ocap, rfl, _, _⟩ := hv.2.shape
 have HV := hid hv
 have HC := hid hcell
 have CI := hid hi
 have htl := hi.2.1
 have hol := hi.2.2
 have A0 := hid (heap_up (heap_alloc_new w (.cells #[.slice ta c.txns.length tcap, .slice oa c.order.length ocap] 26)) (.cells #[.slice none 0 0, .slice none 0 0] 26))
 have A1 := hid (show ((w.alloc (.cells #[.slice ta c.txns.length tcap, .slice oa c.order.length ocap] 26)).alloc (.cells #[.slice none 0 0, .slice none 0 0] 26)).heap[w.heap.size + 1]? = some (.cells #[.slice none 0 0, .slice none 0 0] 26 (0, 0)) by
  have := heap_alloc_new (w.alloc (.cells #[.slice ta c.txns.length tcap, .slice oa c.order.length ocap] 26)) (.cells #[.slice none 0 0, .slice none 0 0] 26); simpa using this)
 have FA := hid (((Fr.refl w.heap.size [] w).alloc (.cells #[.slice ta c.txns.length tcap, .slice oa c.order.length ocap] 26)).alloc (.cells #[.slice none 0 0, .slice none 0 0] 26))
 have iw : IntKind.i64.wrap ((c.txns.length : Int) - 1) = (c.txns.length : Int) - 1 := by rw [IntKind.wrap_i64]; omega
 clear hv hi hcell
 go_enter Tryz.func75, Tryz.ntmps75
 rcases g1 : coOk c with _ | _
 ·have G1 := hid g1
  clear g1
  go_wp2_with (go_at_call 18; go_must (refine (specCoValid_any lo _ _ c _ (HV.out.grow FA.out) CI.out.b).mono ?_; rintro e w1 ⟨rfl, fr1⟩; rw [G1.out]; have F1 := hid (FA.out.trans fr1.nil); have C1 := hid (fr1.keep _ _ A1.out (.inr (by simp))); have p0 := cell_of (o := 0) C1.out rfl; have p1 := cell_of (o := 1) C1.out rfl; have p2 := fun o => free_of (o := o) C1.out))
  have g2 := cell_of (o := 0) (box2 (u1 := .slice none 0 0) (u2 := .slice none 0 0) C1.out) rfl
  have g3 := cell_of (o := 1) (box2 (u1 := .slice none 0 0) (u2 := .slice none 0 0) C1.out) rfl
  exact bodyPost_ret (v := .tuple #[.agg #[.slice none 0 0, .slice none 0 0], .bool false]) (by simp [results, Tryz.results75, go_sem, g2, g3]) rfl ⟨_, _, ⟨[], []⟩, false, rfl, CoOwn.nil _ _, CoI.nil, fun h => (by cases h), (F1.out.setNew (by dsimp only; omega) _).setNew (by dsimp only; omega) _⟩
 ·have G1 := hid g1
  clear g1
  rcases g2 : inR txn 0 ((c.txns.length : Int) - 1) with _ | _
  ·have G2 := hid g2
   clear g2
   go_wp2_with (first
    | (go_at_call 18; go_must (refine (specCoValid_any lo _ _ c _ (HV.out.grow FA.out) CI.out.b).mono ?_; rintro e w1 ⟨rfl, fr1⟩; rw [G1.out]; have F1 := hid (FA.out.trans fr1.nil); have C0 := hid (fr1.keep _ _ A0.out (.inr (by simp))); have C1 := hid (fr1.keep _ _ A1.out (.inr (by simp))); have p0 := cell_of (o := 0) C0.out rfl; have p1 := cell_of (o := 1) C0.out rfl))
    | (go_at_call 67; go_must (refine (l22Copy_any lo _ _ c _ (HV.out.grow F1.out) CI.out).mono ?_; rintro e w3 ⟨u1, u2, m3, rfl, own3, or3, hm3, hob3, fr3⟩; have CO3 := hid (CoOwn.ofM own3 or3 hob3 hm3); replace own3 := own3.own hm3; obtain ⟨ua, ucap, rfl, _, _⟩ := own3.reads.shape; obtain ⟨oa2, ocap2, rfl, _, _⟩ := or3.reads.shape; have OW3 := hid own3; have OR3 := hid or3.reads; have F3 := hid (F1.out.trans fr3.nil); have E1 := hid (fr3.keep _ _ C1.out (.inr (by simp))); have hs2 := F1.out.size; have hl1 := lt_of_get E1.out; have r2 := cell_of (o := 0) E1.out rfl; have r3 := cell_of (o := 1) E1.out rfl; have r4 := fun o => free_of (o := o) E1.out; clear own3 or3 fr3))
    | (go_at_call 22; go_must (refine (l6In_any _ _ _ _).mono ?_; rintro e w4 ⟨rfl, hw4⟩; rw [G2.out]; subst hw4)))
   have h3 := box2 (u1 := .slice ua c.txns.length ucap) (u2 := .slice oa2 c.order.length ocap2) E1.out
   have g2 := cell_of (o := 0) h3 rfl
   have g3 := cell_of (o := 1) h3 rfl
   have FT := box2_fr (u1 := .slice ua c.txns.length ucap) (u2 := .slice oa2 c.order.length ocap2) E1.out
   exact bodyPost_ret (v := .tuple #[.agg #[.slice ua c.txns.length ucap, .slice oa2 c.order.length ocap2], .bool false]) (by simp [results, Tryz.results75, go_sem, g2, g3]) rfl ⟨_, _, c, false, rfl, (CO3.out.lower hs2).tk FT (by simp) (by simp) (by simp) (by simp), CI.out, fun h => (by cases h), (F3.out.setNew (p := ⟨w.heap.size + 1, 0, none⟩) (by dsimp only; omega) _).setNew (by dsimp only; omega) _⟩
  ·have G2 := hid g2
   have hin := inR_iff.1 g2
   obtain ⟨k, rfl⟩ := Int.eq_ofNat_of_zero_le hin.1
   have hkl : k < c.txns.length := by have := hin.2; omega
   have hki : (k : Int) < (c.txns.length : Int) := by omega
   clear g2 hin
   have hlen := (tnOk_len (coOk_txn G1.out hkl)).1
   have hord := coOk_len G1.out
   rcases HC.out with h | ⟨b, off, rfl, hbs, hcell⟩
   ·rw [h] at hkl; simp at hkl
   obtain ⟨pa, pcap, va, vcap, x0, x1, x2, hpp, hvv⟩ := hcell k hkl
   have HPP := hid hpp
   have HVV := hid hvv
   have TI := hid (CI.out.1 _ (List.getElem_mem hkl))
   have HD := hid (rfl : (c.txns[k]).dec = (c.txns[k]).dec)
   clear hcell hpp hvv
   rcases partOf_cases (c.txns[k]).parts x with gp | ⟨j, hj, gp⟩
   ·have GP := hid gp
    clear gp
    go_wp2_with (first
     | (go_at_call 18; go_must (refine (specCoValid_any lo _ _ c _ (HV.out.grow FA.out) CI.out.b).mono ?_; rintro e w1 ⟨rfl, fr1⟩; rw [G1.out]; have F1 := hid (FA.out.trans fr1.nil); have C0 := hid (fr1.keep _ _ A0.out (.inr (by simp))); have C1 := hid (fr1.keep _ _ A1.out (.inr (by simp))); have p0 := cell_of (o := 0) C0.out rfl; have p1 := cell_of (o := 1) C0.out rfl ; have d0 := F1.out.cell hbs x0; have d1 := F1.out.cell hbs x1; have d2 := F1.out.cell hbs x2))
     | (go_at_call 50; go_must (refine (l22Shard_any lo _ (c.txns[k]).parts _ _ (HPP.out.grow F1.out) (by have := TI.out.2.1; omega)).mono ?_; rintro e w5 ⟨rfl, hw5⟩; rw [GP.out]; subst hw5))
     | (go_at_call 22; go_must (refine (l6In_any _ _ _ _).mono ?_; rintro e w4 ⟨rfl, hw4⟩; rw [G2.out]; subst hw4))
     | (go_at_call 67; go_must (refine (l22Copy_any lo _ _ c _ (HV.out.grow F1.out) CI.out).mono ?_; rintro e w3 ⟨u1, u2, m3, rfl, own3, or3, hm3, hob3, fr3⟩; have CO3 := hid (CoOwn.ofM own3 or3 hob3 hm3); replace own3 := own3.own hm3; obtain ⟨ua, ucap, rfl, _, _⟩ := own3.reads.shape; obtain ⟨oa2, ocap2, rfl, _, _⟩ := or3.reads.shape; have OW3 := hid own3; have OR3 := hid or3.reads; have F3 := hid (F1.out.trans fr3.nil); have E1 := hid (fr3.keep _ _ C1.out (.inr (by simp))); have hs2 := F1.out.size; have hl1 := lt_of_get E1.out; have r2 := cell_of (o := 0) E1.out rfl; have r3 := cell_of (o := 1) E1.out rfl; have r4 := fun o => free_of (o := o) E1.out; clear own3 or3 fr3)))
    have h3 := box2 (u1 := .slice ua c.txns.length ucap) (u2 := .slice oa2 c.order.length ocap2) E1.out
    have g2 := cell_of (o := 0) h3 rfl
    have g3 := cell_of (o := 1) h3 rfl
    have FT := box2_fr (u1 := .slice ua c.txns.length ucap) (u2 := .slice oa2 c.order.length ocap2) E1.out
    exact bodyPost_ret (v := .tuple #[.agg #[.slice ua c.txns.length ucap, .slice oa2 c.order.length ocap2], .bool false]) (by simp [results, Tryz.results75, go_sem, g2, g3]) rfl ⟨_, _, c, false, rfl, (CO3.out.lower hs2).tk FT (by simp) (by simp) (by simp) (by simp), CI.out, fun h => (by cases h), (F3.out.setNew (p := ⟨w.heap.size + 1, 0, none⟩) (by dsimp only; omega) _).setNew (by dsimp only; omega) _⟩
   ·have GP := hid gp
    clear gp
    have hjv : j < (c.txns[k]).votes.length := by omega
    have hji : (j : Int) < ((c.txns[k]).votes.length : Int) := by omega
    have hj0 : ¬ ((j : Int) < 0) := by omega
    obtain ⟨va', vcap', hve, _, hvc⟩ := HVV.out.shape
    cases hve
    rcases hvc with h | ⟨vb, voff, rfl, hvs, hvcell⟩
    ·rw [h] at hjv; simp at hjv
    have xv := hvcell j hjv
    clear hvcell
    by_cases hd : (c.txns[k]).dec = 0
    ·rw [hd] at x2
     replace hd := hid hd
     by_cases hq : (c.txns[k]).votes[j] = 0
     ·rw [hq] at xv
      replace hq := hid hq
      go_wp2_with (first
       | (go_at_call 18; go_must (refine (specCoValid_any lo _ _ c _ (HV.out.grow FA.out) CI.out.b).mono ?_; rintro e w1 ⟨rfl, fr1⟩; rw [G1.out]; have F1 := hid (FA.out.trans fr1.nil); have C0 := hid (fr1.keep _ _ A0.out (.inr (by simp))); have C1 := hid (fr1.keep _ _ A1.out (.inr (by simp))); have p0 := cell_of (o := 0) C0.out rfl; have p1 := cell_of (o := 1) C0.out rfl ; have d0 := F1.out.cell hbs x0; have d1 := F1.out.cell hbs x1; have d2 := F1.out.cell hbs x2; have dv := F1.out.cell hvs xv))
       | (go_at_call 50; go_must (refine (l22Shard_any lo _ (c.txns[k]).parts _ _ (HPP.out.grow F1.out) (by have := TI.out.2.1; omega)).mono ?_; rintro e w5 ⟨rfl, hw5⟩; rw [GP.out]; subst hw5))
       | (go_at_call 22; go_must (refine (l6In_any _ _ _ _).mono ?_; rintro e w4 ⟨rfl, hw4⟩; rw [G2.out]; subst hw4))
       | (go_at_call 110; go_must (refine (l22Vote_own lo _ _ c k j yes _ (HV.out.grow F1.out) CI.out hkl (by omega) (by omega)).mono ?_; rintro e w3 ⟨u1, u2, c', rfl, or3, ci3, hl3, fr3⟩; obtain ⟨ua, ucap, rfl, _, _⟩ := or3.reads.1.shape; obtain ⟨oa2, ocap2, rfl, _, _⟩ := or3.reads.2.shape; have OR3 := hid or3; have CI3 := hid ci3; have F3 := hid (F1.out.trans fr3.nil); have E1 := hid (fr3.keep _ _ C1.out (.inr (by simp))); have hs2 := F1.out.size; have hl1 := lt_of_get E1.out; have r2 := cell_of (o := 0) E1.out rfl; have r3 := cell_of (o := 1) E1.out rfl; have r4 := fun o => free_of (o := o) E1.out; have HL3 := hid hl3; clear or3 fr3 ci3 hl3)))
      have hlc := HL3.out
      have h3 := box2 (u1 := .slice ua c'.txns.length ucap) (u2 := .slice oa2 c'.order.length ocap2) E1.out
      have g2 := cell_of (o := 0) h3 rfl
      have g3 := cell_of (o := 1) h3 rfl
      have FT := box2_fr (u1 := .slice ua c'.txns.length ucap) (u2 := .slice oa2 c'.order.length ocap2) E1.out
      exact bodyPost_ret (v := .tuple #[.agg #[.slice ua c'.txns.length ucap, .slice oa2 c'.order.length ocap2], .bool true]) (by simp [results, Tryz.results75, go_sem, g2, g3]) rfl ⟨_, _, c', true, rfl, (OR3.out.lower hs2).tk FT (by simp) (by simp) (by simp) (by simp), CI3.out, fun _ => ⟨by omega, by omega⟩, (F3.out.setNew (p := ⟨w.heap.size + 1, 0, none⟩) (by dsimp only; omega) _).setNew (by dsimp only; omega) _⟩
     ·generalize hy : (c.txns[k]).votes[j] = y at xv hq
      clear hy
      have hq1 : (y != 0) = true := by simpa using hq
      go_wp2_with (first
       | (go_at_call 18; go_must (refine (specCoValid_any lo _ _ c _ (HV.out.grow FA.out) CI.out.b).mono ?_; rintro e w1 ⟨rfl, fr1⟩; rw [G1.out]; have F1 := hid (FA.out.trans fr1.nil); have C0 := hid (fr1.keep _ _ A0.out (.inr (by simp))); have C1 := hid (fr1.keep _ _ A1.out (.inr (by simp))); have p0 := cell_of (o := 0) C0.out rfl; have p1 := cell_of (o := 1) C0.out rfl ; have d0 := F1.out.cell hbs x0; have d1 := F1.out.cell hbs x1; have d2 := F1.out.cell hbs x2; have dv := F1.out.cell hvs xv))
       | (go_at_call 50; go_must (refine (l22Shard_any lo _ (c.txns[k]).parts _ _ (HPP.out.grow F1.out) (by have := TI.out.2.1; omega)).mono ?_; rintro e w5 ⟨rfl, hw5⟩; rw [GP.out]; subst hw5))
       | (go_at_call 22; go_must (refine (l6In_any _ _ _ _).mono ?_; rintro e w4 ⟨rfl, hw4⟩; rw [G2.out]; subst hw4))
       | (go_at_call 67; go_must (refine (l22Copy_any lo _ _ c _ (HV.out.grow F1.out) CI.out).mono ?_; rintro e w3 ⟨u1, u2, m3, rfl, own3, or3, hm3, hob3, fr3⟩; have CO3 := hid (CoOwn.ofM own3 or3 hob3 hm3); replace own3 := own3.own hm3; obtain ⟨ua, ucap, rfl, _, _⟩ := own3.reads.shape; obtain ⟨oa2, ocap2, rfl, _, _⟩ := or3.reads.shape; have OW3 := hid own3; have OR3 := hid or3.reads; have F3 := hid (F1.out.trans fr3.nil); have E1 := hid (fr3.keep _ _ C1.out (.inr (by simp))); have hs2 := F1.out.size; have hl1 := lt_of_get E1.out; have r2 := cell_of (o := 0) E1.out rfl; have r3 := cell_of (o := 1) E1.out rfl; have r4 := fun o => free_of (o := o) E1.out; clear own3 or3 fr3)))
      have h3 := box2 (u1 := .slice ua c.txns.length ucap) (u2 := .slice oa2 c.order.length ocap2) E1.out
      have g2 := cell_of (o := 0) h3 rfl
      have g3 := cell_of (o := 1) h3 rfl
      have FT := box2_fr (u1 := .slice ua c.txns.length ucap) (u2 := .slice oa2 c.order.length ocap2) E1.out
      exact bodyPost_ret (v := .tuple #[.agg #[.slice ua c.txns.length ucap, .slice oa2 c.order.length ocap2], .bool false]) (by simp [results, Tryz.results75, go_sem, g2, g3]) rfl ⟨_, _, c, false, rfl, (CO3.out.lower hs2).tk FT (by simp) (by simp) (by simp) (by simp), CI.out, fun h => (by cases h), (F3.out.setNew (p := ⟨w.heap.size + 1, 0, none⟩) (by dsimp only; omega) _).setNew (by dsimp only; omega) _⟩
    ·generalize hy : (c.txns[k]).dec = d at x2 hd
     clear hy
     go_wp2_with (first
      | (go_at_call 18; go_must (refine (specCoValid_any lo _ _ c _ (HV.out.grow FA.out) CI.out.b).mono ?_; rintro e w1 ⟨rfl, fr1⟩; rw [G1.out]; have F1 := hid (FA.out.trans fr1.nil); have C0 := hid (fr1.keep _ _ A0.out (.inr (by simp))); have C1 := hid (fr1.keep _ _ A1.out (.inr (by simp))); have p0 := cell_of (o := 0) C0.out rfl; have p1 := cell_of (o := 1) C0.out rfl ; have d0 := F1.out.cell hbs x0; have d1 := F1.out.cell hbs x1; have d2 := F1.out.cell hbs x2; have dv := F1.out.cell hvs xv))
      | (go_at_call 50; go_must (refine (l22Shard_any lo _ (c.txns[k]).parts _ _ (HPP.out.grow F1.out) (by have := TI.out.2.1; omega)).mono ?_; rintro e w5 ⟨rfl, hw5⟩; rw [GP.out]; subst hw5))
      | (go_at_call 22; go_must (refine (l6In_any _ _ _ _).mono ?_; rintro e w4 ⟨rfl, hw4⟩; rw [G2.out]; subst hw4))
      | (go_at_call 67; go_must (refine (l22Copy_any lo _ _ c _ (HV.out.grow F1.out) CI.out).mono ?_; rintro e w3 ⟨u1, u2, m3, rfl, own3, or3, hm3, hob3, fr3⟩; have CO3 := hid (CoOwn.ofM own3 or3 hob3 hm3); replace own3 := own3.own hm3; obtain ⟨ua, ucap, rfl, _, _⟩ := own3.reads.shape; obtain ⟨oa2, ocap2, rfl, _, _⟩ := or3.reads.shape; have OW3 := hid own3; have OR3 := hid or3.reads; have F3 := hid (F1.out.trans fr3.nil); have E1 := hid (fr3.keep _ _ C1.out (.inr (by simp))); have hs2 := F1.out.size; have hl1 := lt_of_get E1.out; have r2 := cell_of (o := 0) E1.out rfl; have r3 := cell_of (o := 1) E1.out rfl; have r4 := fun o => free_of (o := o) E1.out; clear own3 or3 fr3)))
     have h3 := box2 (u1 := .slice ua c.txns.length ucap) (u2 := .slice oa2 c.order.length ocap2) E1.out
     have g2 := cell_of (o := 0) h3 rfl
     have g3 := cell_of (o := 1) h3 rfl
     have FT := box2_fr (u1 := .slice ua c.txns.length ucap) (u2 := .slice oa2 c.order.length ocap2) E1.out
     exact bodyPost_ret (v := .tuple #[.agg #[.slice ua c.txns.length ucap, .slice oa2 c.order.length ocap2], .bool false]) (by simp [results, Tryz.results75, go_sem, g2, g3]) rfl ⟨_, _, c, false, rfl, (CO3.out.lower hs2).tk FT (by simp) (by simp) (by simp) (by simp), CI.out, fun h => (by cases h), (F3.out.setNew (p := ⟨w.heap.size + 1, 0, none⟩) (by dsimp only; omega) _).setNew (by dsimp only; omega) _⟩

theorem specVote_any (lo : Nat) (v1 v2 : Value) (c : Co) (txn x : Int) (yes : Bool) (w : World) (hv : CoR lo w v1 v2 c) (hi : CoI c) :
  Calls Tryz.prog 75 #[.agg #[v1, v2], .int .i64 txn, .int .i64 x, .bool yes] w fun e w' =>
   ∃ u1 u2 c' ok, e = .returned (.tuple #[.agg #[u1, u2], .bool ok]) ∧ CoR w.heap.size w' u1 u2 c' ∧ CoI c' ∧ (ok = true → 0 ≤ txn ∧ txn < c'.txns.length) ∧ Fr w.heap.size [] w w' :=
 (specVote_own lo v1 v2 c txn x yes w hv hi).mono fun _ _ ⟨u1, u2, c', ok, h1, h2, h3, h4, h5⟩ => ⟨u1, u2, c', ok, h1, h2.reads, h3, h4, h5⟩

structure CS (B r : Nat) (w0 : World) (X m : Nat) (v1 v2 : Value) (c : Co) (w : World) : Prop where
 hB : B ≤ w0.heap.size
 hr : r < w0.heap.size
 hX : w0.heap.size < X
 rb : w.heap[w0.heap.size]? = some (.cells #[.slice none 0 0, .slice none 0 0] 26 (0, 0))
 xb : w.heap[X]? = some (.cells #[v1, v2] 26 (0, 0))
 own : CoOwn w0.heap.size w v1 v2 c
 ci : CoI c
 ol : c.order.length ≤ 12
 rd : ∃ q, q ≤ m ∧ Rdr B w r q
 fr : Fr B [86] w0 w

theorem CS.tk {B r X m m' : Nat} {w0 w w' : World} {v1 v2 : Value} {c : Co} (h : CS B r w0 X m v1 v2 c w) (hf : Fr B [86] w w') (hR : ∃ q, q ≤ m' ∧ Rdr B w' r q) : CS B r w0 X m' v1 v2 c w' :=
 ⟨h.hB, h.hr, h.hX, hf.keep _ _ h.rb (.inr (by simp [otag])), hf.keep _ _ h.xb (.inr (by simp [otag])), h.own.tk hf (by simp) (by simp) (by simp) (by simp), h.ci, h.ol, hR, h.fr.trans hf⟩

theorem CS.grow {B B' r X m : Nat} {w0 w w' : World} {v1 v2 : Value} {c : Co} (h : CS B r w0 X m v1 v2 c w) (hf : Fr B' [] w w') : CS B r w0 X m v1 v2 c w' := by
 obtain ⟨q, h1, h2⟩ := h.rd
 exact h.tk hf.nil ⟨q, h1, h2.keep (hf.nil (B' := B) (T := [])) (by simp)⟩

theorem CS.more {B r X m m' : Nat} {w0 w : World} {v1 v2 : Value} {c : Co} (h : CS B r w0 X m v1 v2 c w) (hm : m ≤ m') : CS B r w0 X m' v1 v2 c w := by
 obtain ⟨q, h1, h2⟩ := h.rd
 exact h.tk (Fr.refl _ _ _) ⟨q, by omega, h2⟩

theorem CS.setN {B r X m N : Nat} {w0 w : World} {v1 v2 : Value} {c : Co} (h : CS B r w0 X m v1 v2 c w) (hN : X < N) {xs : Array Value} (hb : w.heap[N]? = some (.cells xs 26 (0, 0))) (j : Nat) (u : Value) : CS B r w0 X m v1 v2 c (w.setCell ⟨N, j, none⟩ u) := by
 obtain ⟨q, h1, h2⟩ := h.rd
 have hX := h.hX
 have hr := h.hr
 have FT := (Fr.refl 0 [26] w).setOld (p := ⟨N, j, none⟩) hb (Nat.zero_le _) (by simp [otag]) u
 exact ⟨h.hB, h.hr, h.hX, block_setne h.rb (by dsimp only; omega), block_setne h.xb (by dsimp only; omega), h.own.tk FT (by simp) (by simp) (by simp) (by simp), h.ci, h.ol, ⟨q, h1, h2.setAbove (by dsimp only; omega)⟩, h.fr.setNew (by dsimp only; omega) _⟩

theorem CS.setX {B r X m : Nat} {w0 w : World} {v1 v2 u1 u2 : Value} {c c' : Co} (h : CS B r w0 X m v1 v2 c w) (ho : CoOwn w0.heap.size w u1 u2 c') (hi : CoI c') (hol : c'.order.length ≤ 12) : CS B r w0 X m u1 u2 c' ((w.setCell ⟨X, 0, none⟩ u1).setCell ⟨X, 1, none⟩ u2) := by
 obtain ⟨q, h1, h2⟩ := h.rd
 have hX := h.hX
 have hr := h.hr
 have FT := box2_fr (u1 := u1) (u2 := u2) h.xb
 exact ⟨h.hB, h.hr, h.hX, block_setne (block_setne h.rb (by dsimp only; omega)) (by dsimp only; omega), box2 h.xb, ho.tk FT (by simp) (by simp) (by simp) (by simp), hi, hol, ⟨q, h1, (h2.setAbove (by dsimp only; omega)).setAbove (by dsimp only; omega)⟩, (h.fr.setNew (by dsimp only; omega) _).setNew (by dsimp only; omega) _⟩

theorem CS.pick {B r X m : Nat} {w0 w : World} {v1 v2 : Value} {c : Co} (n : Int) (h : CS B r w0 X m v1 v2 c w) (hm : m ≤ 1000000000) :
  Calls Tryz.prog 34 #[.pointer (some ⟨r, 0, none⟩), .int .i64 n] w fun e w' => ∃ k : Nat, e = .returned (.int .i64 (k : Int)) ∧ (k = 0 ∨ (k : Int) < n) ∧ CS B r w0 X (m + 1) v1 v2 c w' ∧ Fr B [86] w w' := by
 obtain ⟨q, h1, h2⟩ := h.rd
 refine (pick_at (n := n) h2 (by omega)).mono ?_
 rintro e w' ⟨k, rfl, hk, hR, hf⟩
 exact ⟨k, rfl, hk, h.tk hf ⟨_, by omega, hR⟩, hf⟩

theorem CS.parts {B r X m : Nat} {w0 w : World} {v1 v2 : Value} {c : Co} (h : CS B r w0 X m v1 v2 c w) (hm : m ≤ 999980000) :
  Calls Tryz.prog 73 #[.pointer (some ⟨r, 0, none⟩)] w fun e w' => ∃ v ps, e = .returned v ∧ PartsR w0.heap.size w' v ps ∧ ps.length ≤ 1000 ∧ (∀ p ∈ ps, p.ups.length ≤ 8) ∧ CS B r w0 X (m + 300) v1 v2 c w' ∧ Fr B [86] w w' := by
 obtain ⟨q, h1, h2⟩ := h.rd
 refine (l92Parts_any h2 (by omega)).mono ?_
 rintro e w' ⟨v, ps, rfl, hs⟩
 obtain ⟨q', h3, h4⟩ := hs.rd
 exact ⟨v, ps, rfl, hs.own.reads.lower h.fr.size, by have := hs.len; omega, hs.ups, h.tk hs.fr ⟨q', by omega, h4⟩, hs.fr⟩

def CoNext (B r : Nat) (w0 : World) (X m : Nat) (v1 v2 : Value) (c : Co) (w : World) (e : Ending) (w' : World) : Prop :=
 ∃ ua un ucap ob on obcap c' ok, e = .returned (.tuple #[.agg #[.slice ua un ucap, .slice ob on obcap], .bool ok]) ∧ CoOwn w0.heap.size w' (.slice ua un ucap) (.slice ob on obcap) c' ∧ CoI c' ∧ CS B r w0 X m v1 v2 c w' ∧ Fr B [86] w w'

theorem CS.begin {B r X m : Nat} {w0 w : World} {v1 v2 vp : Value} {c : Co} {ps : List Pt} (h : CS B r w0 X m v1 v2 c w) (hp : PartsR w0.heap.size w vp ps) (hl : ps.length ≤ 1000) (hu : ∀ p ∈ ps, p.ups.length ≤ 8) :
  Calls Tryz.prog 72 #[.agg #[v1, v2], vp] w (CoNext B r w0 X m v1 v2 c w) := by
 refine (specBegin_own w0.heap.size v1 v2 vp c ps w h.own.reads h.ci hp hl hu).mono ?_
 rintro e w' ⟨u1, u2, c', ok, rfl, ho, hi, hf⟩
 obtain ⟨ua, ucap, rfl, _, _⟩ := ho.reads.1.shape
 obtain ⟨ob, obcap, rfl, _, _⟩ := ho.reads.2.shape
 exact ⟨_, _, _, _, _, _, c', ok, rfl, ho.lower h.fr.size, hi, h.grow hf, hf.nil⟩

theorem CS.timeout {B r X m : Nat} {w0 w : World} {v1 v2 : Value} {c : Co} (t : Int) (h : CS B r w0 X m v1 v2 c w) :
  Calls Tryz.prog 74 #[.agg #[v1, v2], .int .i64 t] w (CoNext B r w0 X m v1 v2 c w) := by
 refine (specTimeout_own w0.heap.size v1 v2 c t w h.own.reads h.ci).mono ?_
 rintro e w' ⟨u1, u2, c', ok, rfl, ho, hi, _, hf⟩
 obtain ⟨ua, ucap, rfl, _, _⟩ := ho.reads.1.shape
 obtain ⟨ob, obcap, rfl, _, _⟩ := ho.reads.2.shape
 exact ⟨_, _, _, _, _, _, c', ok, rfl, ho.lower h.fr.size, hi, h.grow hf, hf.nil⟩

theorem CS.vote {B r X m : Nat} {w0 w : World} {v1 v2 : Value} {c : Co} (t x : Int) (yes : Bool) (h : CS B r w0 X m v1 v2 c w) :
  Calls Tryz.prog 75 #[.agg #[v1, v2], .int .i64 t, .int .i64 x, .bool yes] w (CoNext B r w0 X m v1 v2 c w) := by
 refine (specVote_own w0.heap.size v1 v2 c t x yes w h.own.reads h.ci).mono ?_
 rintro e w' ⟨u1, u2, c', ok, rfl, ho, hi, _, hf⟩
 obtain ⟨ua, ucap, rfl, _, _⟩ := ho.reads.1.shape
 obtain ⟨ob, obcap, rfl, _, _⟩ := ho.reads.2.shape
 exact ⟨_, _, _, _, _, _, c', ok, rfl, ho.lower h.fr.size, hi, h.grow hf, hf.nil⟩

theorem CS.valid {B r X m : Nat} {w0 w : World} {v1 v2 u1 u2 : Value} {c c' : Co} (h : CS B r w0 X m v1 v2 c w) (ho : CoOwn w0.heap.size w u1 u2 c') (hi : CoI c') :
  Calls Tryz.prog 18 #[.agg #[u1, u2]] w fun e w' => ∃ ok, e = .returned (.bool ok) ∧ (ok = true → c'.order.length ≤ 12) ∧ CS B r w0 X m v1 v2 c w' ∧ CoOwn w0.heap.size w' u1 u2 c' ∧ Fr B [86] w w' := by
 refine (specCoValid_any w0.heap.size _ _ c' w ho.reads hi.b).mono ?_
 rintro e w' ⟨rfl, hf⟩
 exact ⟨_, rfl, coOk_len, h.grow hf, ho.grow hf, hf.nil⟩

def DrawC (B r p : Nat) (w : World) (e : Ending) (w' : World) : Prop :=
 ∃ v1 v2 c q, e = .returned (.agg #[v1, v2]) ∧ CoR w.heap.size w' v1 v2 c ∧ CoI c ∧ Rdr B w' r q ∧ q ≤ p + 30000 ∧ Fr B [86] w w'

structure CF (B r : Nat) (w0 : World) (X m : Nat) (v1 v2 : Value) (c : Co) (w : World) : Prop where
 hB : B ≤ w0.heap.size
 hr : r < w0.heap.size
 rb : w.heap[w0.heap.size]? = some (.cells #[.slice none 0 0, .slice none 0 0] 26 (0, 0))
 xb : w.heap[X]? = some (.cells #[v1, v2] 26 (0, 0))
 re : CoR w0.heap.size w v1 v2 c
 ci : CoI c
 rd : ∃ q, q ≤ m ∧ Rdr B w r q
 fr : Fr B [86] w0 w

theorem CS.cf {B r X m : Nat} {w0 w : World} {v1 v2 : Value} {c : Co} (h : CS B r w0 X m v1 v2 c w) : CF B r w0 X m v1 v2 c w := ⟨h.hB, h.hr, h.rb, h.xb, h.own.reads, h.ci, h.rd, h.fr⟩

theorem CF.more {B r X m m' : Nat} {w0 w : World} {v1 v2 : Value} {c : Co} (h : CF B r w0 X m v1 v2 c w) (hm : m ≤ m') : CF B r w0 X m' v1 v2 c w := by
 obtain ⟨q, h1, h2⟩ := h.rd
 exact ⟨h.hB, h.hr, h.rb, h.xb, h.re, h.ci, ⟨q, by omega, h2⟩, h.fr⟩

theorem CF.fin {B r X m p : Nat} {w0 w : World} {v1 v2 : Value} {c : Co} (h : CF B r w0 X m v1 v2 c w) (hm : m ≤ p + 30000) : DrawC B r p w0 (.returned (.agg #[v1, v2])) ((w.setCell ⟨w0.heap.size, 0, none⟩ v1).setCell ⟨w0.heap.size, 1, none⟩ v2) := by
 obtain ⟨q, h1, h2⟩ := h.rd
 have hr := h.hr
 exact ⟨v1, v2, c, q, rfl, h.re.tk (box2_fr h.rb) (by simp) (by simp) (by simp) (by simp), h.ci, (h2.setAbove (q := ⟨w0.heap.size, 0, none⟩) hr).setAbove (q := ⟨w0.heap.size, 1, none⟩) hr, by omega, (h.fr.setNew (p := ⟨w0.heap.size, 0, none⟩) (Nat.le_refl _) _).setNew (p := ⟨w0.heap.size, 1, none⟩) (Nat.le_refl _) _⟩

theorem CoOwn.txns {lo : Nat} {w : World} {v1 v2 : Value} {c : Co} (h : CoOwn lo w v1 v2 c) : TxnsOwn lo w v1 c.txns := by
 obtain ⟨zs, h1, h2, h3, h4⟩ := h
 exact ⟨zs, h1, h2, fun z hz => ⟨(h4 z hz).1, (h4 z hz).2.1⟩⟩

theorem CoOwn.order {lo : Nat} {w : World} {v1 v2 : Value} {c : Co} (h : CoOwn lo w v1 v2 c) : OwnV lo w v2 c.order := by
 obtain ⟨zs, h1, h2, h3, h4⟩ := h
 exact h3

theorem CoOwn.pushed {lo B : Nat} {w w' : World} {v1 v2 v2' : Value} {c : Co} {n : Int} (h : CoOwn lo w v1 v2 c) (hg : w.grownBy w' v2.ownBlock) (hf : Fr B [3] w w') (ho : OwnV lo w' v2' (c.order ++ [n])) : CoR lo w' v1 v2' ⟨c.txns, c.order ++ [n]⟩ := by
 obtain ⟨zs, h1, h2, h3, h4⟩ := h
 refine ⟨⟨zs, h1, (SlR.ofOwns h2).keep hf (Safe.new (by simp)), fun z hz => ⟨(h4 z hz).1.tk hf (by simp) (by simp), ((h4 z hz).2.1.grown hg fun b hb e => (h4 z hz).2.2 b hb e).reads⟩⟩, ho.reads⟩

theorem CoOwn.storeI {lo : Nat} {w : World} {v1 v2 : Value} {c : Co} (h : CoOwn lo w v1 v2 c) (hi : CoI c) {g j : Nat} {n : Int} {cur : Array Value} (hn : -1000 ≤ n ∧ n ≤ 1000) (hg : w.heap[g]? = some (.cells cur 3 (0, 0))) :
  ∃ c', CoR lo (w.setCell ⟨g, j, none⟩ (.int .i64 n)) v1 v2 c' ∧ CoI c' ∧ c'.txns.length = c.txns.length ∧ c'.order.length = c.order.length := by
 obtain ⟨ts, l1, l2, ho1⟩ := h.txns.storeI (j := j) (n := n) hn hg
 obtain ⟨l', l3, _, ho2⟩ := h.order.storeI g j n hg
 exact ⟨⟨ts, l'⟩, ⟨ho1.reads (Nat.le_refl _), ho2.reads⟩, coI_dec hi l1 (fun i h1 h2 => ⟨(l2 i h1 h2).1, (l2 i h1 h2).2.1, (l2 i h1 h2).2.2.2⟩) (by rw [l3]; exact hi.2.2), l1, l3⟩

theorem CS.spoilD {B r X m g n cap k : Nat} {w0 w : World} {v2 : Value} {c : Co} (h : CS B r w0 X m (.slice (some ⟨g, 0, none⟩) n cap) v2 c w) (hk : k < c.txns.length) (d : Int) :
  CF B r w0 X m (.slice (some ⟨g, 0, none⟩) n cap) v2 ⟨c.txns.set k { c.txns[k] with dec := d }, c.order⟩ (w.setCell ⟨g, k * 3 + 2, none⟩ (.int .i64 d)) := by
 obtain ⟨q, h1, h2⟩ := h.rd
 obtain ⟨q0, q1, q2, q3, _, cg, q4⟩ := txnsM_cell h.own.txns hk
 have ne1 := ne_tag q4 h.xb (by decide)
 have ne2 := ne_tag q4 h.rb (by decide)
 have hr := h.hr
 refine ⟨h.hB, h.hr, block_setne h.rb (fun e => ne2 e.symm), block_setne h.xb (fun e => ne1 e.symm), (h.own.storeD hk d).reads, coI_dec h.ci (by simp) (fun i i1 i2 => ?_) h.ci.2.2, ⟨q, h1, h2.setAbove (by dsimp only; omega)⟩, h.fr.setNew (by dsimp only; omega) _⟩
 rw [List.getElem_set]
 split
 ·rename_i e; subst e; exact ⟨rfl, rfl, fun v hv => .inl hv⟩
 ·exact ⟨rfl, rfl, fun v hv => .inl hv⟩

theorem CS.spoilO {B r X m : Nat} {w0 w w' : World} {v1 v2 v2' : Value} {c : Co} {n : Int} (h : CS B r w0 X m v1 v2 c w) (hg : w.grownBy w' v2.ownBlock) (hf : Fr w0.heap.size [3] w w') (ho : OwnV w0.heap.size w' v2' (c.order ++ [n])) :
  CF B r w0 X m v1 v2' ⟨c.txns, c.order ++ [n]⟩ (w'.setCell ⟨X, 1, none⟩ v2') := by
 obtain ⟨q, h1, h2⟩ := h.rd
 have hr := h.hr
 have hX := h.hX
 have hol := h.ol
 have xb := hf.keep _ _ h.xb (.inr (by simp [otag]))
 have FT := (Fr.refl 0 [26] w').setOld (p := ⟨X, 1, none⟩) xb (Nat.zero_le _) (by simp [otag]) v2'
 exact ⟨h.hB, h.hr, block_setne (hf.keep _ _ h.rb (.inr (by simp [otag]))) (by dsimp only; omega), by simpa using block_set xb 1 v2', (h.own.pushed hg hf ho).tk FT (by simp) (by simp) (by simp) (by simp), ⟨h.ci.1, h.ci.2.1, by simp; omega⟩, ⟨q, h1, (h2.keep (hf.mono h.hB fun _ h => h) (by simp)).setAbove (by dsimp only; omega)⟩, (h.fr.after hf).setNew (by dsimp only; omega) _⟩

theorem CS.spoilV {B r X m vg n cap j : Nat} {w0 w : World} {v1 v2 : Value} {c : Co} {l : List Int} (h : CS B r w0 X m v1 v2 c w) (hv : OwnV w0.heap.size w (.slice (some ⟨vg, 0, none⟩) n cap) l) (hl : 0 < l.length) (x : Int) (hx : -1000 ≤ x ∧ x ≤ 1000) :
  ∃ c', CF B r w0 X m v1 v2 c' (w.setCell ⟨vg, j, none⟩ (.int .i64 x)) ∧ c'.txns.length = c.txns.length ∧ c'.order.length = c.order.length := by
 obtain ⟨q, h1, h2⟩ := h.rd
 obtain ⟨r0, r1, r2, r3, cv, r4⟩ := hv.cell hl
 have ne1 := ne_tag r4 h.xb (by decide)
 have ne2 := ne_tag r4 h.rb (by decide)
 have hr := h.hr
 obtain ⟨c', i1, i2, i3, i4⟩ := h.own.storeI (j := j) (n := x) h.ci hx r4
 exact ⟨c', ⟨h.hB, h.hr, block_setne h.rb (fun e => ne2 e.symm), block_setne h.xb (fun e => ne1 e.symm), i1, i2, ⟨q, h1, h2.setAbove (by dsimp only; omega)⟩, h.fr.setNew (by dsimp only; omega) _⟩, i3, i4⟩

set_option maxRecDepth 20000 in
set_option maxHeartbeats 4000000 in
theorem specWaits_any (lo : Nat) (v1 v2 : Value) (c : Co) (txn : Int) (w : World) (hv : CoR lo w v1 v2 c) (hi : CoI c) :
  Calls Tryz.prog 181 #[.agg #[v1, v2], .int .i64 txn] w fun e w' =>
   ∃ v l, e = .returned v ∧ OwnV w.heap.size w' v l ∧ (∀ x ∈ l, 0 ≤ x ∧ x ≤ 2) ∧ l.length ≤ 1000 ∧ Fr w.heap.size [] w w' := by
 obtain ⟨ta, tcap, rfl, _, hcell⟩ := hv.1.shape
 obtain ⟨oa, ocap, rfl, _, _⟩ := hv.2.shape
 obtain ⟨i0, hi', hz0, hz1, hz2⟩ := info_parts infoI
 have HV := hid hv
 have HC := hid hcell
 have CI := hid hi
 have htl := hi.2.1
 have hol := hi.2.2
 clear hi
 have hi := hi'
 have A0 := hid (heap_up (heap_alloc_new w (.cells #[.slice ta c.txns.length tcap, .slice oa c.order.length ocap] 26)) (.cells #[] 3))
 have FA := hid (((Fr.refl w.heap.size [] w).alloc (.cells #[.slice ta c.txns.length tcap, .slice oa c.order.length ocap] 26)).alloc (.cells #[] 3))
 have LA := hid (show OwnV w.heap.size ((w.alloc (.cells #[.slice ta c.txns.length tcap, .slice oa c.order.length ocap] 26)).alloc (.cells #[] 3)) (.slice (some ⟨w.heap.size + 1, 0, none⟩) 0 0) [] by
  have := ownsRow_lo (lo' := w.heap.size) (World.ownsRow_lit (e := 3) (size := 1) (w.alloc (.cells #[.slice ta c.txns.length tcap, .slice oa c.order.length ocap] 26)) #[] 0 (Nat.le_refl _) (by decide) rfl) (by simp)
  unfold OwnV
  simpa using this)
 have iw : IntKind.i64.wrap ((c.txns.length : Int) - 1) = (c.txns.length : Int) - 1 := by rw [IntKind.wrap_i64]; omega
 clear hv hcell hi'
 go_enter Tryz.func181, Tryz.ntmps181
 rcases g1 : coOk c with _ | _
 ·have G1 := hid g1
  clear g1
  go_wp2_with (go_at_call 18; go_must (refine (specCoValid_any lo _ _ c _ (HV.out.grow FA.out) CI.out.b).mono ?_; rintro e w1 ⟨rfl, fr1⟩; rw [G1.out]; have FR1 := hid fr1; have F1 := hid (FA.out.trans fr1.nil); clear fr1))
  go_ret
  exact ⟨_, [], rfl, LA.out.grow FR1.out, fun x hx => (by cases hx), by simp, F1.out⟩
 ·have G1 := hid g1
  clear g1
  rcases g2 : inR txn 0 ((c.txns.length : Int) - 1) with _ | _
  ·have G2 := hid g2
   clear g2
   go_wp2_with (first
    | (go_at_call 18; go_must (refine (specCoValid_any lo _ _ c _ (HV.out.grow FA.out) CI.out.b).mono ?_; rintro e w1 ⟨rfl, fr1⟩; rw [G1.out]; have FR1 := hid fr1; have F1 := hid (FA.out.trans fr1.nil); have C0 := hid (fr1.keep _ _ A0.out (.inr (by simp))); have p0 := cell_of (o := 0) C0.out rfl; clear fr1))
    | (go_at_call 22; go_must (refine (l6In_any _ _ _ _).mono ?_; rintro e w4 ⟨rfl, hw4⟩; rw [G2.out]; subst hw4)))
   go_ret
   exact ⟨_, [], rfl, LA.out.grow FR1.out, fun x hx => (by cases hx), by simp, F1.out⟩
  ·have G2 := hid g2
   have hin := inR_iff.1 g2
   obtain ⟨k, rfl⟩ := Int.eq_ofNat_of_zero_le hin.1
   have hkl : k < c.txns.length := by have := hin.2; omega
   have hki : (k : Int) < (c.txns.length : Int) := by omega
   clear g2 hin
   have HLEN := hid (tnOk_len (coOk_txn G1.out hkl)).1
   rcases HC.out with h | ⟨b, off, rfl, hbs, hcell⟩
   ·rw [h] at hkl; simp at hkl
   obtain ⟨pa, pcap, va, vcap, x0, x1, x2, hpp, hvv⟩ := hcell k hkl
   have HPP := hid hpp
   have HVV := hid hvv
   have TI := hid (CI.out.1 _ (List.getElem_mem hkl))
   clear hcell hpp hvv
   generalize c.txns[k] = t at *
   have hpl := TI.out.2.1
   by_cases hd : t.dec = 0
   ·rw [hd] at x2
    replace hd := hid hd
    go_wp2_with (first
     | (go_at_call 18; go_must (refine (specCoValid_any lo _ _ c _ (HV.out.grow FA.out) CI.out.b).mono ?_; rintro e w1 ⟨rfl, fr1⟩; rw [G1.out]; have FR1 := hid fr1; have F1 := hid (FA.out.trans fr1.nil); have C0 := hid (fr1.keep _ _ A0.out (.inr (by simp))); have p0 := cell_of (o := 0) C0.out rfl; have d0 := F1.out.cell hbs x0; have d1 := F1.out.cell hbs x1; have d2 := F1.out.cell hbs x2; clear fr1))
     | (go_at_call 22; go_must (refine (l6In_any _ _ _ _).mono ?_; rintro e w4 ⟨rfl, hw4⟩; rw [G2.out]; subst hw4)))
    have BX := hid (heap_alloc_new w1 (.cells #[.slice pa t.parts.length pcap, .slice va t.votes.length vcap, .int .i64 0] 74))
    have FX := hid ((Fr.refl w1.heap.size [] w1).alloc (.cells #[.slice pa t.parts.length pcap, .slice va t.votes.length vcap, .int .i64 0] 74))
    have FW := hid (F1.out.trans FX.out.nil)
    have OW := hid ((LA.out.grow FR1.out).grow FX.out)
    have hs1 := F1.out.size
    obtain ⟨X, hX⟩ : ∃ X, X = w1.heap.size := ⟨_, rfl⟩
    obtain ⟨W, hW⟩ : ∃ W : World, W = w1.alloc (.cells #[.slice pa t.parts.length pcap, .slice va t.votes.length vcap, .int .i64 0] 74) := ⟨_, rfl⟩
    rw [← hW] at BX FX FW OW ⊢
    rw [← hX] at BX ⊢
    have hXw : w.heap.size ≤ X := by omega
    clear hX hW FX d0 d1 d2 p0
    go_loopw [5, 7] (fun v i wr => ∃ (j : Nat) (l : List Int), j ≤ t.parts.length ∧ i = .int .i64 j ∧ OwnV w.heap.size wr v l ∧ (∀ x ∈ l, 0 ≤ x ∧ x ≤ 2) ∧ l.length ≤ j ∧ wr.heap[X]? = some (.cells #[.slice pa t.parts.length pcap, .slice va t.votes.length vcap, .int .i64 0] 74 (0, 0)) ∧ Fr w.heap.size [] w wr) (fun _ i _ => t.parts.length - (intOf i).toNat)
    case atStart => exact ⟨0, [], Nat.zero_le _, rfl, OW.out, fun x hx => (by cases hx), by simp, BX.out, FW.out⟩
    case round =>
     clear BX FW OW F1 C0 FR1
     obtain ⟨j, l, hj, rfl, hown, hl, hll, hbx, hfr⟩ := hrel
     have HB := hid hbx
     have HO := hid hown
     have HL := hid hl
     have HF := hid hfr
     have hsz := hfr.size
     have hlX := lt_of_get hbx
     have q0 := cell_of (o := 0) hbx rfl
     have q1 := cell_of (o := 1) hbx rfl
     clear hbx hown hl hfr
     by_cases hlt : j < t.parts.length
     ·have hji : (j : Int) < (t.parts.length : Int) := by omega
      have hjv : j < t.votes.length := by rw [HLEN.out]; exact hlt
      have hjvi : (j : Int) < (t.votes.length : Int) := by omega
      obtain ⟨va', vcap', hve, _, hvc⟩ := HVV.out.shape
      cases hve
      rcases hvc with h | ⟨vb, voff, rfl, hvs, hvcell⟩
      ·rw [h] at hjv; simp at hjv
      have e0 := HF.out.cell hvs (hvcell j hjv)
      obtain ⟨pa', pcap', hpe, _, hpc⟩ := HPP.out.shape
      cases hpe
      rcases hpc with h | ⟨pb, poff, rfl, hps, hpcell⟩
      ·rw [h] at hlt; simp at hlt
      obtain ⟨_, _, y0, _, _⟩ := hpcell j hlt
      have e1 := HF.out.cell hps y0
      have PI := hid (TI.out.1 _ (List.getElem_mem hlt))
      clear hvcell hpcell y0
      generalize t.votes[j] = y at *
      generalize t.parts[j] = p at *
      by_cases hy : y = 0
      ·subst hy
       go_wp2_with ((at_builtin; refine wpList_push rfl (.tmp 49) (.tmp 56) 24 rfl w.heap.size 3 i0 (.int .i64 0) 1 8 Tryz.underlying24 hi hz0 hz1 hz2 rfl (by decide) _ _ _ HO.out rfl (oneCell_int _) (by unfold maxLen; omega) (by omega) (by omega) (by rfl) _ (by rfl) (by simp [World.setCell]) ?_; intro v2 w2 hown2 hfr2 _); go_must (have HO2 := hid hown2; have HF2 := hid hfr2; clear hown2 hfr2))
       go_roundw
       case rel =>
        refine ⟨j + 1, l ++ [p.shard], by omega, by go_num, by unfold OwnV; simpa using HO2.out, fun x hx => ?_, by simp; omega, HF2.out.keep _ _ HB.out (.inr (by simp [otag])), HF.out.after HF2.out⟩
        rcases List.mem_append.1 hx with hx | hx
        ·exact HL.out x hx
        ·obtain rfl := List.mem_singleton.1 hx
         exact ⟨PI.out.1, PI.out.2.1⟩
       case measure => simp [intOf]; omega
      ·go_wp2
       go_roundw
       case rel => exact ⟨j + 1, l, by omega, by go_num, HO.out, HL.out, by omega, HB.out, HF.out⟩
       case measure => simp [intOf]; omega
     ·obtain rfl : j = t.parts.length := by omega
      go_wp2
      go_ret
      exact ⟨_, l, rfl, HO.out, HL.out, by omega, HF.out⟩
   ·generalize t.dec = d at x2 hd
    go_wp2_with (first
     | (go_at_call 18; go_must (refine (specCoValid_any lo _ _ c _ (HV.out.grow FA.out) CI.out.b).mono ?_; rintro e w1 ⟨rfl, fr1⟩; rw [G1.out]; have FR1 := hid fr1; have F1 := hid (FA.out.trans fr1.nil); have C0 := hid (fr1.keep _ _ A0.out (.inr (by simp))); have p0 := cell_of (o := 0) C0.out rfl; have d0 := F1.out.cell hbs x0; have d1 := F1.out.cell hbs x1; have d2 := F1.out.cell hbs x2; clear fr1))
     | (go_at_call 22; go_must (refine (l6In_any _ _ _ _).mono ?_; rintro e w4 ⟨rfl, hw4⟩; rw [G2.out]; subst hw4)))
    go_ret
    exact ⟨_, [], rfl, LA.out.grow FR1.out, fun x hx => (by cases hx), by simp, F1.out⟩

def WdR (lo : Nat) (w : World) (v1 v2 v3 v4 : Value) (d : Wd) : Prop := CoR lo w v1 v2 d.co ∧ ShardsR lo w v3 d.shards ∧ NetR lo w v4 d.net

theorem WdR.tk {lo B : Nat} {T : List Nat} {w w' : World} {v1 v2 v3 v4 : Value} {d : Wd} (h : WdR lo w v1 v2 v3 v4 d) (hf : Fr B T w w') (hT : Apt T) : WdR lo w' v1 v2 v3 v4 d :=
 ⟨h.1.tk hf hT.2.2.1 hT.2.1 hT.1 hT.2.2.2.1, h.2.1.tk hf hT.2.2.2.2.1 hT.1 hT.2.2.2.2.2.1, h.2.2.tk hf hT.2.2.2.2.2.2⟩
theorem WdR.grow {lo B : Nat} {w w' : World} {v1 v2 v3 v4 : Value} {d : Wd} (h : WdR lo w v1 v2 v3 v4 d) (hf : Fr B [] w w') : WdR lo w' v1 v2 v3 v4 d := h.tk hf (by simp [Apt])
theorem WdR.lower {lo lo' : Nat} {w : World} {v1 v2 v3 v4 : Value} {d : Wd} (h : WdR lo w v1 v2 v3 v4 d) (hl : lo' ≤ lo) : WdR lo' w v1 v2 v3 v4 d := ⟨h.1.lower hl, h.2.1.lower hl, h.2.2.lower hl⟩

def prt (c : Co) (txn x : Int) : Option (List Upd) :=
 if inR txn 0 ((c.txns.length : Int) - 1) = true then
  match c.txns[txn.toNat]? with
  | none => none
  | some t => if partOf t.parts x < 0 then none else (t.parts[(partOf t.parts x).toNat]?).map (·.ups)
 else none

theorem prt_out {c : Co} {txn x : Int} (h : inR txn 0 ((c.txns.length : Int) - 1) = false) : prt c txn x = none := by simp [prt, h]
theorem prt_no {c : Co} {k : Nat} {x : Int} (hk : k < c.txns.length) (h : partOf c.txns[k].parts x = -1) : prt c k x = none := by
 simp [prt, List.getElem?_eq_getElem hk, h]
theorem prt_at {c : Co} {k j : Nat} {x : Int} (hk : k < c.txns.length) (hj : j < c.txns[k].parts.length) (h : partOf c.txns[k].parts x = j) : prt c k x = some (c.txns[k].parts[j]).ups := by
 have : inR (k : Int) 0 ((c.txns.length : Int) - 1) = true := inR_iff.2 ⟨by omega, by omega⟩
 simp [prt, List.getElem?_eq_getElem hk, h, this, List.getElem?_eq_getElem hj]

theorem upsR_lit {lo n : Nat} {w : World} (hn : n = w.heap.size) (hl : lo ≤ n := by omega) : UpsR (new lo) (w.alloc (.cells #[] 97)) (.slice (some ⟨n, 0, none⟩) 0 0) [] := by
 subst hn
 exact SlR.ofOwns (World.ownsRow_lit (base := lo) (e := 97) (size := 3) w #[] 0 hl (by decide) rfl)

set_option maxRecDepth 20000 in
set_option maxHeartbeats 4000000 in
theorem l51Part_any (lo : Nat) (v1 v2 v3 v4 : Value) (d : Wd) (txn x : Int) (w : World) (hv : WdR lo w v1 v2 v3 v4 d) (htl : d.co.txns.length ≤ 1000000) (hpl : ∀ t ∈ d.co.txns, t.parts.length ≤ 1000000000) (hlo : lo ≤ w.heap.size) :
  Calls Tryz.prog 21 #[.agg #[v1, v2, v3, v4], .int .i64 txn, .int .i64 x] w fun e w' =>
   ∃ v, e = .returned (.tuple #[v, .bool (prt d.co txn x).isSome]) ∧ UpsR (new lo) w' v ((prt d.co txn x).getD []) ∧ Fr w.heap.size [] w w' := by
 obtain ⟨ta, tcap, rfl, _, hcell⟩ := hv.1.1.shape
 obtain ⟨oa, ocap, rfl, _, _⟩ := hv.1.2.shape
 obtain ⟨sa, scap, rfl, _, _⟩ := hv.2.1.shape
 obtain ⟨na, ncap, rfl, _, _⟩ := hv.2.2.shape
 have HV := hid hv
 have HC := hid hcell
 have HP := hid hpl
 have A0 := hid (heap_alloc_new w (.cells #[.slice ta d.co.txns.length tcap, .slice oa d.co.order.length ocap, .slice sa d.shards.length scap, .slice na d.net.length ncap] 30))
 have FA := hid ((Fr.refl w.heap.size [] w).alloc (.cells #[.slice ta d.co.txns.length tcap, .slice oa d.co.order.length ocap, .slice sa d.shards.length scap, .slice na d.net.length ncap] 30))
 have iw : IntKind.i64.wrap ((d.co.txns.length : Int) - 1) = (d.co.txns.length : Int) - 1 := by rw [IntKind.wrap_i64]; omega
 have p0 := cell_of (o := 0) A0.out rfl
 clear hv hcell hpl
 go_enter Tryz.func21, Tryz.ntmps21
 rcases g2 : inR txn 0 ((d.co.txns.length : Int) - 1) with _ | _
 ·have G2 := hid g2
  clear g2
  go_wp2_with (go_at_call 22; go_must (refine (l6In_any _ _ _ _).mono ?_; rintro e w4 ⟨rfl, hw4⟩; rw [G2.out]; subst hw4))
  have hn := prt_out (x := x) G2.out
  exact bodyPost_ret (v := .tuple #[.slice (some ⟨w.heap.size + 1, 0, none⟩) 0 0, .bool false]) (by simp [results, Tryz.results21, go_sem]) rfl ⟨_, by rw [hn]; rfl, by rw [hn]; exact upsR_lit (by simp) (by omega), FA.out.alloc _⟩
 ·have G2 := hid g2
  have hin := inR_iff.1 g2
  obtain ⟨k, rfl⟩ := Int.eq_ofNat_of_zero_le hin.1
  have hkl : k < d.co.txns.length := by have := hin.2; omega
  have hki : (k : Int) < (d.co.txns.length : Int) := by omega
  clear g2 hin
  rcases HC.out with h | ⟨b, off, rfl, hbs, hcell⟩
  ·rw [h] at hkl; simp at hkl
  obtain ⟨pa, pcap, va, vcap, x0, x1, x2, hpp, hvv⟩ := hcell k hkl
  have HPP := hid hpp
  have d0 := FA.out.cell hbs x0
  have PL := hid (HP.out _ (List.getElem_mem hkl))
  clear hcell hvv x0 x1 x2 hpp
  rcases partOf_cases (d.co.txns[k]).parts x with gp | ⟨j, hj, gp⟩
  ·have hn := hid (prt_no (x := x) hkl gp)
   have GP := hid gp
   clear gp
   go_wp2_with (first
    | (go_at_call 22; go_must (refine (l6In_any _ _ _ _).mono ?_; rintro e w4 ⟨rfl, hw4⟩; rw [G2.out]; subst hw4))
    | (go_at_call 50; go_must (refine (l22Shard_any lo _ (d.co.txns[k]).parts _ _ (HPP.out.grow FA.out) PL.out).mono ?_; rintro e w5 ⟨rfl, hw5⟩; rw [GP.out]; subst hw5)))
   exact bodyPost_ret (v := .tuple #[.slice (some ⟨w.heap.size + 1, 0, none⟩) 0 0, .bool false]) (by simp [results, Tryz.results21, go_sem]) rfl ⟨_, by rw [hn.out]; rfl, by rw [hn.out]; exact upsR_lit (by simp) (by omega), FA.out.alloc _⟩
  ·have hn := hid (prt_at (x := x) hkl hj gp)
   have GP := hid gp
   clear gp
   have hji : (j : Int) < ((d.co.txns[k]).parts.length : Int) := by omega
   have hj0 : ¬ ((j : Int) < 0) := by omega
   obtain ⟨pa', pcap', hpe, _, hpc⟩ := HPP.out.shape
   cases hpe
   rcases hpc with h | ⟨pb, poff, rfl, hps, hpcell⟩
   ·rw [h] at hj; simp at hj
   obtain ⟨ua, ucap, _, y1, hu⟩ := hpcell j hj
   have HU := hid hu
   have d1 := FA.out.cell hps y1
   clear hpcell y1 hu
   go_wp2_with (first
    | (go_at_call 22; go_must (refine (l6In_any _ _ _ _).mono ?_; rintro e w4 ⟨rfl, hw4⟩; rw [G2.out]; subst hw4))
    | (go_at_call 50; go_must (refine (l22Shard_any lo _ (d.co.txns[k]).parts _ _ (HPP.out.grow FA.out) PL.out).mono ?_; rintro e w5 ⟨rfl, hw5⟩; rw [GP.out]; subst hw5)))
   exact bodyPost_ret (v := .tuple #[.slice ua (d.co.txns[k]).parts[j].ups.length ucap, .bool true]) (by simp [results, Tryz.results21, go_sem]) rfl ⟨_, by rw [hn.out]; rfl, by rw [hn.out]; exact HU.out.tk FA.out (by simp), FA.out⟩

def recOk (c : Co) (x : Int) (r : Rc) : Bool := match prt c r.txn x with
 | none => false
 | some us => !(r.kind == 1) || decide (r.ups = us)

def shardIn (c : Co) (rs : List Rc) (x : Int) : Bool := rs.all (recOk c x)

def msgOk (c : Co) (m : Msg) : Bool := (prt c m.txn m.shard).isSome && inR m.kind 1 3 && !(m.kind == 1 && m.yes)

def shardsIn (d : Wd) (k : Nat) : Bool := (List.range k).all fun i : Nat => shardIn d.co (shAt d.shards (i : Int)) (i : Int)

def wdHead (d : Wd) : Bool := coOk d.co && shsOk d.shards && decide (d.net.length ≤ 14)

def wdOk (d : Wd) : Bool := wdHead d && shardsIn d 3 && d.net.all (msgOk d.co)

theorem shardsIn_succ (d : Wd) (k : Nat) : shardsIn d (k + 1) = (shardsIn d k && shardIn d.co (shAt d.shards (k : Int)) (k : Int)) := by
 unfold shardsIn; rw [List.range_succ, List.all_append]; simp

theorem shardsIn_false {d : Wd} {k n : Nat} (h : shardIn d.co (shAt d.shards (k : Int)) (k : Int) = false) (hk : k < n) : shardsIn d n = false := by
 induction n with
 | zero => omega
 | succ n ih =>
  rw [shardsIn_succ]
  by_cases e : k = n
  ·subst e; rw [h]; simp
  ·rw [ih (by omega)]; rfl

theorem wdHead_of {d : Wd} (h : wdHead d = true) : coOk d.co = true ∧ d.shards.length = 3 ∧ (∀ rs ∈ d.shards, valid rs = true) ∧ d.net.length ≤ 14 := by
 unfold wdHead shsOk at h
 simp only [Bool.and_eq_true, decide_eq_true_eq, List.all_eq_true] at h
 exact ⟨h.1.1, h.1.2.2, h.1.2.1, h.2⟩

def statesOf (d : Wd) (t : Int) : List Int := match d.co.txns[t.toNat]? with
 | some tn => tn.parts.map fun p => ask (shAt d.shards p.shard) t
 | none => []

def statesOk (d : Wd) (t : Int) : Bool := wdOk d && inR t 0 ((d.co.txns.length : Int) - 1)

def states (d : Wd) (t : Int) : List Int := if statesOk d t then statesOf d t else []

end Go.Proofs.YtknoanpgadecbaaGreatDoor
