/- An invalid run: WorldDo, WorldCalm, WorldStates; sameWorld at empty runs. -/
import Derived.Test.YtknoanpgadecbaaGreatDoorQCoWValI
import Derived.Test.YtknoanpgadecbaaGreatDoorQCoPost
import Derived.Test.YtknoanpgadecbaaGreatDoorQCoDWrong
import Derived.Test.YtknoanpgadecbaaGreatDoorQCoWValS2
import Derived.Deep.RegionHeld3
set_option linter.unusedVariables false
set_option linter.unusedSimpArgs false
namespace Go.Proofs.YtknoanpgadecbaaGreatDoor
open Go.RowKit
set_option linter.unusedVariables false

set_option maxRecDepth 20000 in
set_option maxHeartbeats 2000000 in
theorem worldDo_bad (v1 v2 v3 v4 : Value) (d : Wd) (x1 x2 x3 x4 : Int) (w : World) (hv : WdR 0 w v1 v2 v3 v4 d) (hi : WdB d) (hbad : wdOk d = false) :
  Calls Tryz.prog 8 #[.agg #[v1, v2, v3, v4], .agg #[.int .i64 x1, .int .i64 x2, .int .i64 x3, .int .i64 x4]] w fun e w' => e = .returned (.agg #[.slice none 0 0, .slice none 0 0, .slice none 0 0, .slice none 0 0]) ∧ Fr w.heap.size [] w w' := by
 obtain ⟨ta, tcap, rfl, _, _⟩ := hv.1.1.shape
 obtain ⟨oa, ocap, rfl, _, _⟩ := hv.1.2.shape
 obtain ⟨sa, scap, rfl, _, _⟩ := hv.2.1.shape
 obtain ⟨na, ncap, rfl, _, _⟩ := hv.2.2.shape
 have HV := hid hv
 have WB := hid hi
 have BAD := hid hbad
 obtain ⟨W, hW⟩ : ∃ W : World, W = (w.alloc (.cells #[.slice ta d.co.txns.length tcap, .slice oa d.co.order.length ocap, .slice sa d.shards.length scap, .slice na d.net.length ncap] 30)).alloc (.cells #[.int .i64 x1, .int .i64 x2, .int .i64 x3, .int .i64 x4] 36) := ⟨_, rfl⟩
 have FA := hid (show Fr w.heap.size [] w (W.alloc (.cells #[.slice none 0 0, .slice none 0 0, .slice none 0 0, .slice none 0 0] 30)) by rw [hW]; exact (((Fr.refl w.heap.size [] w).alloc _).alloc _).alloc _)
 have hs : W.heap.size = w.heap.size + 1 + 1 := by rw [hW]; simp
 have C0 := hid (heap_alloc_new W (.cells #[.slice none 0 0, .slice none 0 0, .slice none 0 0, .slice none 0 0] 30))
 rw [hs] at C0
 rw [hW] at FA C0
 clear hv hi hbad hs hW
 go_enter Tryz.func8, Tryz.ntmps8
 go_wp2_with (go_at_call 5; go_must (refine (implWdValid_any 0 _ _ _ _ d _ (HV.out.grow FA.out) WB.out).mono ?_; rintro e w1 ⟨rfl, fr1⟩; rw [BAD.out]; have F1 := hid (FA.out.trans fr1.nil); have C1 := hid (fr1.keep _ _ C0.out (.inr (by simp))); have cf := fun o => free_of (o := o) C1.out; have cl := lt_of_get C1.out; have c0 := cell_of (o := 0) C1.out rfl; have c1 := cell_of (o := 1) C1.out rfl; have c2 := cell_of (o := 2) C1.out rfl; have c3 := cell_of (o := 3) C1.out rfl))
 have h4 := box4 (u1 := .slice none 0 0) (u2 := .slice none 0 0) (u3 := .slice none 0 0) (u4 := .slice none 0 0) C1.out
 have g0 := cell_of (o := 0) h4 rfl
 have g1 := cell_of (o := 1) h4 rfl
 have g2 := cell_of (o := 2) h4 rfl
 have g3 := cell_of (o := 3) h4 rfl
 exact bodyPost_ret (v := .agg #[.slice none 0 0, .slice none 0 0, .slice none 0 0, .slice none 0 0]) (by simp [results, Tryz.results8, go_sem, g0, g1, g2, g3]) rfl ⟨rfl, box4_new F1.out (by omega)⟩

set_option maxRecDepth 20000 in
set_option maxHeartbeats 2000000 in
theorem worldCalm_bad (v1 v2 v3 v4 : Value) (d : Wd) (w : World) (hv : WdR 0 w v1 v2 v3 v4 d) (hi : WdB d) (hbad : wdOk d = false) :
  Calls Tryz.prog 9 #[.agg #[v1, v2, v3, v4]] w fun e w' => e = .returned (.agg #[.slice none 0 0, .slice none 0 0, .slice none 0 0, .slice none 0 0]) ∧ Fr w.heap.size [] w w' := by
 obtain ⟨ta, tcap, rfl, _, _⟩ := hv.1.1.shape
 obtain ⟨oa, ocap, rfl, _, _⟩ := hv.1.2.shape
 obtain ⟨sa, scap, rfl, _, _⟩ := hv.2.1.shape
 obtain ⟨na, ncap, rfl, _, _⟩ := hv.2.2.shape
 have HV := hid hv
 have WB := hid hi
 have BAD := hid hbad
 obtain ⟨W, hW⟩ : ∃ W : World, W = w.alloc (.cells #[.slice ta d.co.txns.length tcap, .slice oa d.co.order.length ocap, .slice sa d.shards.length scap, .slice na d.net.length ncap] 30) := ⟨_, rfl⟩
 have FA := hid (show Fr w.heap.size [] w (W.alloc (.cells #[.slice none 0 0, .slice none 0 0, .slice none 0 0, .slice none 0 0] 30)) by rw [hW]; exact ((Fr.refl w.heap.size [] w).alloc _).alloc _)
 have hs : W.heap.size = w.heap.size + 1 := by rw [hW]; simp
 have C0 := hid (heap_alloc_new W (.cells #[.slice none 0 0, .slice none 0 0, .slice none 0 0, .slice none 0 0] 30))
 rw [hs] at C0
 rw [hW] at FA C0
 clear hv hi hbad hs hW
 go_enter Tryz.func9, Tryz.ntmps9
 go_wp2_with (go_at_call 5; go_must (refine (implWdValid_any 0 _ _ _ _ d _ (HV.out.grow FA.out) WB.out).mono ?_; rintro e w1 ⟨rfl, fr1⟩; rw [BAD.out]; have F1 := hid (FA.out.trans fr1.nil); have C1 := hid (fr1.keep _ _ C0.out (.inr (by simp))); have cf := fun o => free_of (o := o) C1.out; have cl := lt_of_get C1.out; have c0 := cell_of (o := 0) C1.out rfl; have c1 := cell_of (o := 1) C1.out rfl; have c2 := cell_of (o := 2) C1.out rfl; have c3 := cell_of (o := 3) C1.out rfl))
 have h4 := box4 (u1 := .slice none 0 0) (u2 := .slice none 0 0) (u3 := .slice none 0 0) (u4 := .slice none 0 0) C1.out
 have g0 := cell_of (o := 0) h4 rfl
 have g1 := cell_of (o := 1) h4 rfl
 have g2 := cell_of (o := 2) h4 rfl
 have g3 := cell_of (o := 3) h4 rfl
 exact bodyPost_ret (v := .agg #[.slice none 0 0, .slice none 0 0, .slice none 0 0, .slice none 0 0]) (by simp [results, Tryz.results9, go_sem, g0, g1, g2, g3]) rfl ⟨rfl, box4_new F1.out (by omega)⟩

set_option maxRecDepth 20000 in
set_option maxHeartbeats 2000000 in
theorem worldStates_bad (v1 v2 v3 v4 : Value) (d : Wd) (t : Int) (w : World) (hv : WdR 0 w v1 v2 v3 v4 d) (hi : WdB d) (hbad : wdOk d = false) :
  Calls Tryz.prog 10 #[.agg #[v1, v2, v3, v4], .int .i64 t] w fun e w' => e = .returned (.slice none 0 0) ∧ Fr w.heap.size [] w w' := by
 obtain ⟨ta, tcap, rfl, _, _⟩ := hv.1.1.shape
 obtain ⟨oa, ocap, rfl, _, _⟩ := hv.1.2.shape
 obtain ⟨sa, scap, rfl, _, _⟩ := hv.2.1.shape
 obtain ⟨na, ncap, rfl, _, _⟩ := hv.2.2.shape
 have HV := hid hv
 have WB := hid hi
 have BAD := hid hbad
 have FA := hid ((Fr.refl w.heap.size [] w).alloc (.cells #[.slice ta d.co.txns.length tcap, .slice oa d.co.order.length ocap, .slice sa d.shards.length scap, .slice na d.net.length ncap] 30))
 clear hv hi hbad
 go_enter Tryz.func10, Tryz.ntmps10
 go_wp2_with (go_at_call 5; go_must (refine (implWdValid_any 0 _ _ _ _ d _ (HV.out.grow FA.out) WB.out).mono ?_; rintro e w1 ⟨rfl, fr1⟩; rw [BAD.out]; have F1 := hid (FA.out.trans fr1.nil)))
 go_ret
 exact ⟨rfl, F1.out⟩

set_option maxRecDepth 20000 in
set_option maxHeartbeats 1000000 in
theorem sameInts_zero (w : World) :
  Calls Tryz.prog 51 #[.slice none 0 0, .slice none 0 0] w fun e w' => e = .returned (.bool true) ∧ Fr w.heap.size [] w w' := by
 go_enter Tryz.func51, Tryz.ntmps51
 go_wp2
 go_loopw [5] (fun i wr => i = .int .i64 0 ∧ Fr w.heap.size [] w wr) (fun i _ => 0)
 case atStart => exact ⟨rfl, Fr.refl _ _ _⟩
 case round =>
  obtain ⟨rfl, hfr⟩ := hrel
  go_wp2
  go_ret
  exact ⟨rfl, hfr⟩

set_option maxRecDepth 20000 in
set_option maxHeartbeats 1000000 in
theorem sameShards_zero (w : World) :
  Calls Tryz.prog 24 #[.slice none 0 0, .slice none 0 0] w fun e w' => e = .returned (.bool true) ∧ Fr w.heap.size [] w w' := by
 go_enter Tryz.func24, Tryz.ntmps24
 go_wp2
 go_loopw [5] (fun i wr => i = .int .i64 0 ∧ Fr w.heap.size [] w wr) (fun i _ => 0)
 case atStart => exact ⟨rfl, Fr.refl _ _ _⟩
 case round =>
  obtain ⟨rfl, hfr⟩ := hrel
  go_wp2
  go_ret
  exact ⟨rfl, hfr⟩

set_option maxRecDepth 20000 in
set_option maxHeartbeats 1000000 in
theorem sameCoordinator_zero (w : World) :
  Calls Tryz.prog 23 #[.agg #[.slice none 0 0, .slice none 0 0], .agg #[.slice none 0 0, .slice none 0 0]] w fun e w' => e = .returned (.bool true) ∧ Fr w.heap.size [] w w' := by
 have A0 := hid (heap_up (heap_alloc_new w (.cells #[.slice none 0 0, .slice none 0 0] 26)) (.cells #[.slice none 0 0, .slice none 0 0] 26))
 have A1 := hid (heap_alloc_new (w.alloc (.cells #[.slice none 0 0, .slice none 0 0] 26)) (.cells #[.slice none 0 0, .slice none 0 0] 26))
 simp only [World.size_alloc] at A1
 have FA := hid (((Fr.refl w.heap.size [] w).alloc (.cells #[.slice none 0 0, .slice none 0 0] 26)).alloc (.cells #[.slice none 0 0, .slice none 0 0] 26))
 go_enter Tryz.func23, Tryz.ntmps23
 go_wp2_with (go_at_call 51; go_must (refine (sameInts_zero _).mono ?_; rintro e w1 ⟨rfl, fr1⟩; have F1 := hid (FA.out.trans fr1.nil); have B0 := hid (fr1.keep _ _ A0.out (.inr (by simp))); have B1 := hid (fr1.keep _ _ A1.out (.inr (by simp))); have p0 := cell_of (o := 0) B0.out rfl; have q0 := cell_of (o := 0) B1.out rfl))
 go_loopw [5] (fun i wr => i = .int .i64 0 ∧ wr.heap[w.heap.size]? = some (.cells #[.slice none 0 0, .slice none 0 0] 26 (0, 0)) ∧ Fr w.heap.size [] w wr) (fun i _ => 0)
 case atStart => exact ⟨rfl, B0.out, F1.out⟩
 case round =>
  obtain ⟨rfl, hb, hfr⟩ := hrel
  have r0 := cell_of (o := 0) hb rfl
  go_wp2
  go_ret
  exact ⟨rfl, hfr⟩

set_option maxRecDepth 20000 in
set_option maxHeartbeats 1000000 in
theorem sameWorld_zero (w : World) :
  Calls Tryz.prog 7 #[.agg #[.slice none 0 0, .slice none 0 0, .slice none 0 0, .slice none 0 0], .agg #[.slice none 0 0, .slice none 0 0, .slice none 0 0, .slice none 0 0]] w fun e w' => e = .returned (.bool true) ∧ Fr w.heap.size [] w w' := by
 have A0 := hid (heap_up (heap_alloc_new w (.cells #[.slice none 0 0, .slice none 0 0, .slice none 0 0, .slice none 0 0] 30)) (.cells #[.slice none 0 0, .slice none 0 0, .slice none 0 0, .slice none 0 0] 30))
 have A1 := hid (heap_alloc_new (w.alloc (.cells #[.slice none 0 0, .slice none 0 0, .slice none 0 0, .slice none 0 0] 30)) (.cells #[.slice none 0 0, .slice none 0 0, .slice none 0 0, .slice none 0 0] 30))
 simp only [World.size_alloc] at A1
 have FA := hid (((Fr.refl w.heap.size [] w).alloc (.cells #[.slice none 0 0, .slice none 0 0, .slice none 0 0, .slice none 0 0] 30)).alloc (.cells #[.slice none 0 0, .slice none 0 0, .slice none 0 0, .slice none 0 0] 30))
 go_enter Tryz.func7, Tryz.ntmps7
 go_wp2_with (first
  | (go_at_call 23; go_must (refine (sameCoordinator_zero _).mono ?_; rintro e w1 ⟨rfl, fr1⟩; have F1 := hid (FA.out.trans fr1.nil); have B0 := hid (fr1.keep _ _ A0.out (.inr (by simp))); have B1 := hid (fr1.keep _ _ A1.out (.inr (by simp))); have p0 := cell_of (o := 2) B0.out rfl; have q0 := cell_of (o := 2) B1.out rfl))
  | (go_at_call 24; go_must (refine (sameShards_zero _).mono ?_; rintro e w2 ⟨rfl, fr2⟩; have F2 := hid (F1.out.trans fr2.nil); have C0 := hid (fr2.keep _ _ B0.out (.inr (by simp))); have C1 := hid (fr2.keep _ _ B1.out (.inr (by simp))); have p1 := cell_of (o := 3) C0.out rfl; have q1 := cell_of (o := 3) C1.out rfl)))
 go_loopw [5] (fun i wr => i = .int .i64 0 ∧ wr.heap[w.heap.size]? = some (.cells #[.slice none 0 0, .slice none 0 0, .slice none 0 0, .slice none 0 0] 30 (0, 0)) ∧ Fr w.heap.size [] w wr) (fun i _ => 0)
 case atStart => exact ⟨rfl, C0.out, F2.out⟩
 case round =>
  obtain ⟨rfl, hb, hfr⟩ := hrel
  have r0 := cell_of (o := 3) hb rfl
  go_wp2
  go_ret
  exact ⟨rfl, hfr⟩

theorem keep8 {z z' : World} {X Y : Nat} {a0 a1 a2 a3 b0 b1 b2 b3 : Value} (hf : Fr 0 [] z z')
  (h : z.cell? ⟨X, 0, none⟩ = some a0 ∧ z.cell? ⟨X, 1, none⟩ = some a1 ∧ z.cell? ⟨X, 2, none⟩ = some a2 ∧ z.cell? ⟨X, 3, none⟩ = some a3 ∧ z.cell? ⟨Y, 0, none⟩ = some b0 ∧ z.cell? ⟨Y, 1, none⟩ = some b1 ∧ z.cell? ⟨Y, 2, none⟩ = some b2 ∧ z.cell? ⟨Y, 3, none⟩ = some b3) :
  z'.cell? ⟨X, 0, none⟩ = some a0 ∧ z'.cell? ⟨X, 1, none⟩ = some a1 ∧ z'.cell? ⟨X, 2, none⟩ = some a2 ∧ z'.cell? ⟨X, 3, none⟩ = some a3 ∧ z'.cell? ⟨Y, 0, none⟩ = some b0 ∧ z'.cell? ⟨Y, 1, none⟩ = some b1 ∧ z'.cell? ⟨Y, 2, none⟩ = some b2 ∧ z'.cell? ⟨Y, 3, none⟩ = some b3 := by
 have k := fun (b o : Nat) (v : Value) (h : z.cell? ⟨b, o, none⟩ = some v) => (hf.nil (B' := b + 1) (T := [])).cell (Nat.lt_succ_self b) h
 exact ⟨k _ _ _ h.1, k _ _ _ h.2.1, k _ _ _ h.2.2.1, k _ _ _ h.2.2.2.1, k _ _ _ h.2.2.2.2.1, k _ _ _ h.2.2.2.2.2.1, k _ _ _ h.2.2.2.2.2.2.1, k _ _ _ h.2.2.2.2.2.2.2⟩

set_option maxRecDepth 20000 in
set_option maxHeartbeats 8000000 in
theorem worldInvalid_walk {w : World} {a : Option Addr} {n cap : Nat} (hb : Bytes w.heap.size w a n cap) (hm : cap ≤ maxLen) :
  Calls Tryz.prog 3 #[.slice a n cap] w fun e w' => e = .returned (.bool true) ∧ Fr w.heap.size [] w w' := by
 have HB := hid hb
 clear hb
 by_cases hn1 : n ≤ 1048576
 ·have in1 : ¬ (1048576 : Int) < (n : Int) := by omega
  go_enter Tryz.func3, Tryz.ntmps3
  go_upto_region 4 with (go_at_call 4; go_must (refine (drawWorldValid_any HB.out hm).mono ?_; rintro e w1 ⟨v1, v2, v3, v4, d, rfl, wd, wb, fr1⟩; have WD := hid wd; have WB := hid wb; have F1 := hid fr1; obtain ⟨ta, tcap, rfl, _, _⟩ := wd.1.1.shape; obtain ⟨oa, ocap, rfl, _, _⟩ := wd.1.2.shape; obtain ⟨sa, scap, rfl, _, _⟩ := wd.2.1.shape; obtain ⟨na, ncap, rfl, _, _⟩ := wd.2.2.shape; clear wd wb fr1))
  have GW := hid ((Fr.refl w1.heap.size [] w1).alloc (.cells #[.slice ta d.co.txns.length tcap, .slice oa d.co.order.length ocap, .slice sa d.shards.length scap, .slice na d.net.length ncap] 30))
  have A1 := hid (heap_alloc_new w1 (.cells #[.slice ta d.co.txns.length tcap, .slice oa d.co.order.length ocap, .slice sa d.shards.length scap, .slice na d.net.length ncap] 30))
  have p0 := cell_of (o := 0) A1.out rfl
  have p1 := cell_of (o := 1) A1.out rfl
  have p2 := cell_of (o := 2) A1.out rfl
  have p3 := cell_of (o := 3) A1.out rfl
  have IV := hid (fun (W : World) (hw : Fr 0 [] w1 W) => implWdValid_any 0 _ _ _ _ d W (WD.out.grow hw) WB.out)
  have SV := hid (fun (W : World) (hw : Fr 0 [] w1 W) => specWdValid_any 0 _ _ _ _ d W (WD.out.grow hw) (Nat.zero_le _) WB.out)
  obtain ⟨q, hq⟩ : ∃ q, q = wdOk d := ⟨_, rfl⟩
  have QE := hid hq.symm
  rw [← hq] at IV SV
  clear hq
  cases q
  ·go_upto_region 9 with (first
    | (go_at_call 5; go_must (refine (IV.out _ GW.out.nil).mono ?_; rintro e w2 ⟨rfl, fr2⟩; have F2 := hid (GW.out.trans fr2.nil); have A2 := hid (fr2.keep _ _ A1.out (.inr (by simp))); have q0 := cell_of (o := 0) A2.out rfl; have q1 := cell_of (o := 1) A2.out rfl; have q2 := cell_of (o := 2) A2.out rfl; have q3 := cell_of (o := 3) A2.out rfl; clear fr2))
    | (go_at_call 6; go_must (refine (SV.out _ F2.out.nil).mono ?_; rintro e w3 ⟨rfl, fr3⟩; have F3 := hid (F2.out.trans fr3.nil); have A3 := hid (fr3.keep _ _ A2.out (.inr (by simp))); have r0 := cell_of (o := 0) A3.out rfl; clear fr3)))
   have FV := hid (F3.out.alloc (.cells #[.slice none 0 0, .slice none 0 0, .slice none 0 0, .slice none 0 0] 30))
   have A4 := hid (heap_up A3.out (.cells #[.slice none 0 0, .slice none 0 0, .slice none 0 0, .slice none 0 0] 30))
   have B4 := hid (heap_alloc_new w3 (.cells #[.slice none 0 0, .slice none 0 0, .slice none 0 0, .slice none 0 0] 30))
   obtain ⟨V, hV⟩ : ∃ V : World, V = w3.alloc (.cells #[.slice none 0 0, .slice none 0 0, .slice none 0 0, .slice none 0 0] 30) := ⟨_, rfl⟩
   rw [← hV] at FV A4 B4 ⊢
   obtain ⟨Y, hY⟩ : ∃ Y, Y = w3.heap.size := ⟨_, rfl⟩
   rw [← hY] at B4 ⊢
   clear hV hY p0 p1 p2 p3 q0 q1 q2 q3 r0 A1 A2 A3 F2 F3 IV SV GW
   have r0 := (⟨cell_of (o := 0) A4.out rfl, cell_of (o := 1) A4.out rfl, cell_of (o := 2) A4.out rfl, cell_of (o := 3) A4.out rfl, cell_of (o := 0) B4.out rfl, cell_of (o := 1) B4.out rfl, cell_of (o := 2) B4.out rfl, cell_of (o := 3) B4.out rfl⟩ : V.drew.cell? ⟨w1.heap.size, 0, none⟩ = some (.slice ta d.co.txns.length tcap) ∧ V.drew.cell? ⟨w1.heap.size, 1, none⟩ = some (.slice oa d.co.order.length ocap) ∧ V.drew.cell? ⟨w1.heap.size, 2, none⟩ = some (.slice sa d.shards.length scap) ∧ V.drew.cell? ⟨w1.heap.size, 3, none⟩ = some (.slice na d.net.length ncap) ∧ V.drew.cell? ⟨Y, 0, none⟩ = some (.slice none 0 0) ∧ V.drew.cell? ⟨Y, 1, none⟩ = some (.slice none 0 0) ∧ V.drew.cell? ⟨Y, 2, none⟩ = some (.slice none 0 0) ∧ V.drew.cell? ⟨Y, 3, none⟩ = some (.slice none 0 0))
   have FC := hid (FV.out.drew)
   have WC := hid (WD.out.grow FC.out)
   clear A4 B4 FV
   first
   | go_region_held3 (fun z => z.cell? ⟨w1.heap.size, 0, none⟩ = some (.slice ta d.co.txns.length tcap) ∧ z.cell? ⟨w1.heap.size, 1, none⟩ = some (.slice oa d.co.order.length ocap) ∧ z.cell? ⟨w1.heap.size, 2, none⟩ = some (.slice sa d.shards.length scap) ∧ z.cell? ⟨w1.heap.size, 3, none⟩ = some (.slice na d.net.length ncap) ∧ z.cell? ⟨Y, 0, none⟩ = some (.slice none 0 0) ∧ z.cell? ⟨Y, 1, none⟩ = some (.slice none 0 0) ∧ z.cell? ⟨Y, 2, none⟩ = some (.slice none 0 0) ∧ z.cell? ⟨Y, 3, none⟩ = some (.slice none 0 0))
    (first
     | exact r0
     | fail)
    (first
     | (go_at_call 8; go_must (refine (worldDo_bad _ _ _ _ d _ _ _ _ _ WC.out WB.out QE.out).mono ?_; rintro e w5 ⟨rfl, fr5⟩; have r0 := keep8 (fr5.nil (B' := 0) (T := [])) r0; have FC := hid (FC.out.trans (fr5.nil (B' := w1.heap.size) (T := []))); have WC := hid (WC.out.grow fr5)))
     | (go_at_call 7; go_must (refine (sameWorld_zero _).mono ?_; rintro e w5 ⟨rfl, fr5⟩; have r0 := keep8 (fr5.nil (B' := 0) (T := [])) r0; have FC := hid (FC.out.trans (fr5.nil (B' := w1.heap.size) (T := []))); have WC := hid (WC.out.grow fr5)))
     | (go_at_call 9; go_must (refine (worldCalm_bad _ _ _ _ d _ WC.out WB.out QE.out).mono ?_; rintro e w5 ⟨rfl, fr5⟩; have r0 := keep8 (fr5.nil (B' := 0) (T := [])) r0; have FC := hid (FC.out.trans (fr5.nil (B' := w1.heap.size) (T := []))); have WC := hid (WC.out.grow fr5)))
     | (go_at_call 10; go_must (refine (worldStates_bad _ _ _ _ d _ _ WC.out WB.out QE.out).mono ?_; rintro e w5 ⟨rfl, fr5⟩; have r0 := keep8 (fr5.nil (B' := 0) (T := [])) r0; have FC := hid (FC.out.trans (fr5.nil (B' := w1.heap.size) (T := []))); have WC := hid (WC.out.grow fr5)))
     | fail)
   | fail
   all_goals go_wp2
   all_goals go_ret
   all_goals exact ⟨rfl, F1.out.trans FC.out.nil⟩
  ·go_wp2_with (first
    | (go_at_call 5; go_must (refine (IV.out _ GW.out.nil).mono ?_; rintro e w2 ⟨rfl, fr2⟩; have F2 := hid (GW.out.trans fr2.nil); have A2 := hid (fr2.keep _ _ A1.out (.inr (by simp))); have q0 := cell_of (o := 0) A2.out rfl; have q1 := cell_of (o := 1) A2.out rfl; have q2 := cell_of (o := 2) A2.out rfl; have q3 := cell_of (o := 3) A2.out rfl; clear fr2))
    | (go_at_call 6; go_must (refine (SV.out _ F2.out.nil).mono ?_; rintro e w3 ⟨rfl, fr3⟩; have F3 := hid (F2.out.trans fr3.nil); clear fr3)))
   go_ret
   exact ⟨rfl, F1.out.trans F3.out.nil⟩
 ·have in1 : (1048576 : Int) < (n : Int) := by omega
  go_enter Tryz.func3, Tryz.ntmps3
  go_wp2
  go_ret
  exact ⟨rfl, Fr.refl _ _ _⟩

end Go.Proofs.YtknoanpgadecbaaGreatDoor
