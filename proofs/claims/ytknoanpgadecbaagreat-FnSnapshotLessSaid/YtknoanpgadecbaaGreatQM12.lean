/- The draw of a coordinator and shards. -/
import Derived.Test.YtknoanpgadecbaaGreatQCoWrong2
import Derived.Test.YtknoanpgadecbaaGreatQM6
import Derived.RegionTactic
import Derived.ChangeAlike
import Derived.BigRegion
import Derived.Test.YtknoanpgadecbaaGreatQCoSnapS
set_option linter.unusedVariables false
set_option linter.unusedSimpArgs false
namespace Go.Proofs.YtknoanpgadecbaaGreat
open Go.RowKit
set_option linter.unusedVariables false

def DrawR (w : World) (e : Ending) (w' : World) : Prop :=
 ∃ v1 v2 v3 c ss, e = .returned (.tuple #[.agg #[v1, v2], v3]) ∧ CoR w.heap.size w' v1 v2 c ∧ CoI c ∧ ShardsR w.heap.size w' v3 ss ∧ ss.length ≤ 3 ∧ (∀ rs ∈ ss, ShB rs) ∧ Fr w.heap.size [] w w'

set_option maxRecDepth 20000 in
set_option maxHeartbeats 8000000 in
theorem drawReady_any {w : World} {a : Option Addr} {n cap : Nat} (hb : Bytes w.heap.size w a n cap) (hm : cap ≤ maxLen) :
  Calls Tryz.prog 9 #[.slice a n cap] w (DrawR w) := by
 have F0 := hid ((Fr.refl w.heap.size [] w).alloc (.cells #[.slice none 0 0, .slice none 0 0] 26))
 have hsz0 : (w.alloc (.cells #[.slice none 0 0, .slice none 0 0] 26)).heap.size = w.heap.size + 1 := by simp
 have HB := hid (show Bytes (w.alloc (.cells #[.slice none 0 0, .slice none 0 0] 26)).heap.size (w.alloc (.cells #[.slice none 0 0, .slice none 0 0] 26)) a n cap from hb.up F0.out (by simp))
 have B0 := hid (heap_alloc_new w (.cells #[.slice none 0 0, .slice none 0 0] 26))
 clear hb
 go_enter Tryz.func9, Tryz.ntmps9
 go_upto_block 0 with (first
  | (go_at_call 20; go_must (refine (l6Open_any HB.out hm).mono ?_; rw [hsz0]; rintro e w0 ⟨rfl, hR0, fr0⟩; have R0 := hid (fr0.keep _ _ B0.out (.inr (by simp))); have hlR := hR0.lt; have FA := hid (F0.out.trans fr0.nil); clear fr0))
  | (go_at_call 22; go_must (refine (l92World_any hR0 (by omega)).mono ?_; rintro e w1 ⟨v1, v2, v3, v4, d, q, rfl, wd, wi, hR1, hq, hf1⟩; have WD := hid wd; have WI := hid wi; have F1 := hid hf1; have R1 := hid (hf1.keep _ _ R0.out (.inr (by simp [otag]))); have HQ := hid hq; clear wd hq hf1))
  | (go_at_call 21; go_must (refine (l51Copy_any 0 _ _ _ _ d _ WD.out WI.out).mono ?_; rintro e w2 ⟨u1, u2, u3, u4, rfl, co, so, no, fr2⟩; have hs0 : 0 < d.shards.length := Nat.lt_of_lt_of_eq (by decide) wi.2.1.symm; obtain ⟨ta, tcap, rfl, _, _⟩ := co.reads.1.shape; obtain ⟨oa, ocap, rfl, _, _⟩ := co.reads.2.shape; obtain ⟨na, ncap, rfl, _, _⟩ := no.reads.shape; obtain ⟨zss, zs1, zs2, _⟩ := id so; obtain ⟨sg, scap, rfl, _, _, hsc⟩ := own_shape zs2 hs0; have HSC := hid hsc; have R2 := hid (fr2.keep _ _ R1.out (.inr (by simp))); have S0 := hid (WS.start (X := w2.heap.size) (m := 0 + 2000) (Nat.le_of_lt (Nat.lt_of_le_of_lt (Nat.le_refl _) hlR)) hlR F1.out hR1 HQ.out WI.out co so no fr2 rfl); clear co so no zs1 zs2 fr2 hsc))
  | (go_at_call 23; go_must (refine (WS.pick 12 S0.out (by omega)).mono ?_; rintro e w3 ⟨k3, rfl, hk3, s3, hf3⟩; have hk3' := pk_lt hk3 (by decide); have S := hid s3; have RB := hid (hf3.keep _ _ (heap_up R2.out _) (.inr (by simp [otag]))); have hnX := lt_of_get R2.out; clear s3 hf3)))
 obtain ⟨X, hX⟩ : ∃ X, X = w2.heap.size := ⟨_, rfl⟩
 rw [← hX] at S hnX ⊢
 clear hX S0 R2 WD F1 R1 HQ R0 hs0
 have XB := hid S.out.xb
 have hrX := S.out.hrX
 have x0 := cell_of (o := 0) XB.out rfl
 have x1 := cell_of (o := 1) XB.out rfl
 have x2 := cell_of (o := 2) XB.out rfl
 have x3 := cell_of (o := 3) XB.out rfl
 have xf := fun o => free_of (o := o) XB.out
 have xl := lt_of_get XB.out
 have hlw0 := FA.out.size
 go_cut [5] (fun v wx => v = .pointer (some ⟨X, 0, none⟩) ∧ ∃ ta tn tc oa on oc sa sn sc na nn nc d, wx.heap[w.heap.size]? = some (.cells #[.slice none 0 0, .slice none 0 0] 26 (0, 0)) ∧ WF (w.heap.size + 1) (w.heap.size + 1) w0 X 40000 (.slice ta tn tc) (.slice oa on oc) (.slice sa sn sc) (.slice na nn nc) d wx)
 case first =>
  have hs3 := S.out.wi.2.1
  have hsl : (3 : Int) ≤ (d.shards.length : Int) := by omega
  have hsc := HSC.out
  have hs2 : (2 : Int) ≤ (scap : Int) := by omega
  have HS3 := hid hs3
  obtain ⟨zss2, zz1, zz2, zz3⟩ := S.out.so
  obtain ⟨scur, hscur⟩ := own_tag' zz2 (k := sg) rfl
  have SB := hid hscur
  have nsX := ne_tag hscur XB.out (by decide)
  have nsr := ne_tag hscur RB.out (by decide)
  have hsg := (ownsRow_lt zz2 sg rfl).1
  clear hs3 hsc zz1 zz2 zz3 hscur
  go_wp2_with (go_at_call 25; go_must (refine (WS.coord S.out (by omega)).mono ?_; rintro e w4 ⟨ua, un, uc, ub, vn, vc, c, rfl, cr, ci, s4, hf4⟩; have S4 := hid s4; have CR := hid cr; have CI := hid ci; have RB4 := hid (hf4.keep _ _ RB.out (.inr (by simp [otag]))); have yf := fun o => free_of (o := o) s4.xb; have yl := lt_of_get s4.xb; have y0 := cell_of (o := 0) s4.xb rfl; have y1 := cell_of (o := 1) s4.xb rfl; have y2 := cell_of (o := 2) s4.xb rfl; have y3 := cell_of (o := 3) s4.xb rfl; clear s4 cr ci hf4))
  ·have SD := S.out.grow (Fr.refl 0 [] w3).drew
   first
   | go_region_held3 (fun x => x.cell? ⟨X, 2, none⟩ = some (.slice (some ⟨sg, 0, none⟩) d.shards.length scap))
    (first
     | exact x2
     | exact y2
     | exact cell_setne y2 (fun e => nsX e.symm)
     | fail)
    (first
     | (go_at_call 23; go_must (refine (WS.pick 3 SD (by omega)).mono ?_; rintro e w4 ⟨k4, rfl, hk4, s4, hf4⟩; have hk4' := pk_lt hk4 (by decide); have hk4s := Int.lt_of_lt_of_le hk4' hsl; have S4 := hid s4; have RB4 := hid (hf4.keep _ _ ((Fr.refl 0 [] w3).drew.keep _ _ RB.out (.inr (by simp))) (.inr (by simp [otag]))); have SB4 := hid (hf4.keep _ _ ((Fr.refl 0 [] w3).drew.keep _ _ SB.out (.inr (by simp))) (.inr (by simp [otag]))); have y2 := cell_of (o := 2) s4.xb rfl; clear s4 hf4))
     | (go_at_call 24; go_must (refine (WS.shard S4.out (by omega)).mono ?_; rintro e w5 ⟨ra, rn, rc, rs, rfl, rr, hb, s5, hf5⟩; have S5 := hid s5; have RR := hid rr; have HB5 := hid hb; have RB5 := hid (hf5.keep _ _ RB4.out (.inr (by simp [otag]))); have SB5 := hid (hf5.keep _ _ SB4.out (.inr (by simp [otag]))); have y2 := cell_of (o := 2) s5.xb rfl; have zf := fun o => free_of (o := o) SB5.out; have zl := lt_of_get SB5.out; obtain ⟨⟨sv, qs1⟩, qs2⟩ := shs_cell s5.so (Nat.lt_of_lt_of_eq (Int.ofNat_lt.1 hk4') HS3.out.symm); clear s5 rr hb hf5)))
   | fail
   all_goals go_wp2
   all_goals go_meet
   exact ⟨rfl, _, _, _, _, _, _, _, _, _, _, _, _, ⟨d.co, d.shards.set k4 rs, d.net⟩, block_setne RB5.out (fun e => nsr e.symm), (S5.out.spoilS (k := k4) (by have := HS3.out; omega) RR.out HB5.out).more (by omega)⟩
  ·go_meet
   exact ⟨rfl, _, _, _, _, _, _, _, _, _, _, _, _, ⟨c, d.shards, d.net⟩, block_setne (block_setne RB4.out (by dsimp only; omega)) (by dsimp only; omega), (S4.out.spoilC CR.out CI.out).more (by omega)⟩
  ·go_meet
   exact ⟨rfl, _, _, _, _, _, _, _, _, _, _, _, _, ⟨d.co, d.shards.take 2, d.net⟩, block_setne RB.out (by dsimp only; omega), (S.out.spoil1 (d' := ⟨d.co, d.shards.take 2, d.net⟩) rfl ⟨S.out.co.reads, S.out.so.reads.two (by have := HS3.out; omega), S.out.no.reads⟩ ⟨S.out.wi.1, by simp; omega, fun x hx => S.out.wi.b.2.2.1 x (List.mem_of_mem_take hx), S.out.wi.b.2.2.2⟩).more (by omega)⟩
  all_goals
   go_meet
   exact ⟨rfl, _, _, _, _, _, _, _, _, _, _, _, _, d, RB.out, S.out.wf.more (by omega)⟩
 case rest =>
  obtain ⟨rfl, ta, tn, tc, oa, on, oc, sa, sn, sc, na, nn, nc, d, rb, wf⟩ := hcut
  clear x0 x1 x2 x3 xf xl RB S XB
  have RB := hid rb
  have WFH := hid wf
  have x0 := cell_of (o := 0) wf.xb rfl
  have x1 := cell_of (o := 1) wf.xb rfl
  have x2 := cell_of (o := 2) wf.xb rfl
  have r0 := cell_of (o := 0) rb rfl
  have r1 := cell_of (o := 1) rb rfl
  have rf := fun o => free_of (o := o) rb
  have rl := lt_of_get rb
  clear rb wf
  go_wp2
  go_region
  all_goals go_wp2
  have h4 := box2 (u1 := .slice ta tn tc) (u2 := .slice oa on oc) RB.out
  have g0 := cell_of (o := 0) h4 rfl
  have g1 := cell_of (o := 1) h4 rfl
  have FT := box2_fr (u1 := .slice ta tn tc) (u2 := .slice oa on oc) RB.out
  have re := WFH.out.re.lower hlw0
  have FB : Fr w.heap.size [] w wc := Fr.fresh (T := [88]) ((FA.out.mono (Nat.le_refl _) (fun _ h => by simp at h)).trans (WFH.out.fr.mono (by omega) (fun _ h => h)))
  exact bodyPost_ret (v := .tuple #[.agg #[.slice ta tn tc, .slice oa on oc], .slice sa sn sc]) (by simp [results, Tryz.results9, go_sem, g0, g1]) rfl
   ⟨_, _, _, d.co, d.shards, rfl, (re.1.tk FT (by simp) (by simp) (by simp) (by simp)).grow (Fr.refl 0 [] _).drew, WFH.out.wi.1, (re.2.1.tk FT (by simp) (by simp) (by simp)).grow (Fr.refl 0 [] _).drew, WFH.out.wi.2.1, WFH.out.wi.2.2.1, ((FB.setNew (p := ⟨w.heap.size, 0, none⟩) (Nat.le_refl _) _).setNew (p := ⟨w.heap.size, 1, none⟩) (Nat.le_refl _) _).drew⟩

theorem ready_le {c : Co} (h : CoI c) (ss : List (List Rc)) : -1 ≤ ready c ss ∧ ready c ss ≤ 1000 := by
 have h1 := tw_le (haveTx c ss) c.order
 have h2 := h.2.2
 unfold ready readyN
 split <;> omega

theorem pick_bound {k : Nat} {y : Int} (h : k = 0 ∨ (k : Int) < IntKind.i64.wrap ((if y < 0 then 0 else y) + 1)) (h2 : y ≤ 1000) (h1 : -1 ≤ y) : (k : Int) < 1002 := by
 rcases h with rfl | h
 ·omega
 ·rw [IntKind.wrap_i64] at h
  split at h <;> omega

theorem pick_one {k : Nat} (h : k = 0 ∨ (k : Int) < IntKind.i64.wrap 1) : (k : Int) < 1002 := by
 rcases h with rfl | h
 ·omega
 ·have : IntKind.i64.wrap 1 = 1 := by decide
  omega

theorem num_bound {k3 k4 k5 : Nat} (h3 : (k3 : Int) < 1002) (h4 : (k4 : Int) < 12) (h5 : (k5 : Int) < 12) : -10000 ≤ IntKind.i64.wrap (IntKind.i64.wrap ((k3 : Int) + IntKind.i64.wrap (IntKind.i64.wrap ((k4 : Int) / 11) * 2)) - IntKind.i64.wrap ((k5 : Int) / 11)) ∧ IntKind.i64.wrap (IntKind.i64.wrap ((k3 : Int) + IntKind.i64.wrap (IntKind.i64.wrap ((k4 : Int) / 11) * 2)) - IntKind.i64.wrap ((k5 : Int) / 11)) ≤ 10000 := by
 simp only [IntKind.wrap_i64]
 omega

def DrawRs (w : World) (e : Ending) (w' : World) : Prop :=
 ∃ v1 v2 v3 c ss n, e = .returned (.tuple #[.agg #[v1, v2], v3, .int .i64 n]) ∧ CoR w.heap.size w' v1 v2 c ∧ CoI c ∧ ShardsR w.heap.size w' v3 ss ∧ ss.length ≤ 3 ∧ (∀ rs ∈ ss, ShB rs) ∧ Fr w.heap.size [] w w' ∧ -10000 ≤ n ∧ n ≤ 10000

set_option maxRecDepth 20000 in
set_option maxHeartbeats 8000000 in
theorem drawRefs_any {w : World} {a : Option Addr} {n cap : Nat} (hb : Bytes w.heap.size w a n cap) (hm : cap ≤ maxLen) :
  Calls Tryz.prog 13 #[.slice a n cap] w (DrawRs w) := by
 have F0 := hid ((Fr.refl w.heap.size [] w).alloc (.cells #[.slice none 0 0, .slice none 0 0] 26))
 have hsz0 : (w.alloc (.cells #[.slice none 0 0, .slice none 0 0] 26)).heap.size = w.heap.size + 1 := by simp
 have HB := hid (show Bytes (w.alloc (.cells #[.slice none 0 0, .slice none 0 0] 26)).heap.size (w.alloc (.cells #[.slice none 0 0, .slice none 0 0] 26)) a n cap from hb.up F0.out (by simp))
 have B0 := hid (heap_alloc_new w (.cells #[.slice none 0 0, .slice none 0 0] 26))
 have HBW := hid hb
 clear hb
 go_enter Tryz.func13, Tryz.ntmps13
 go_wp2_with (first
  | (go_at_call 20; go_must (refine (l6Open_any HB.out hm).mono ?_; rw [hsz0]; rintro e w0 ⟨rfl, hR0, fr0⟩; have R0 := hid (fr0.keep _ _ B0.out (.inr (by simp))); have FA := hid (F0.out.trans fr0.nil); have HB0 := hid (HBW.out.up (B' := w0.heap.size) FA.out FA.out.size); clear fr0))
  | (go_at_call 9; go_must (refine (drawReady_any HB0.out hm).mono ?_; rintro e w1 ⟨v1, v2, v3, c, ss, rfl, cr, ci, sr, hsl, hsb, fr1⟩; obtain ⟨ta, tcap, rfl, _, _⟩ := cr.1.shape; obtain ⟨oa, ocap, rfl, _, _⟩ := cr.2.shape; obtain ⟨sa, scap, rfl, _, _⟩ := sr.shape; have CR := hid cr; have CI := hid ci; have SR := hid sr; have HSB := hid hsb; have R1 := hid (fr1.keep _ _ R0.out (.inr (by simp))); have F1 := hid (FA.out.trans fr1.nil); have hR1 := hR0.keep (fr1.nil (B' := w.heap.size + 1) (T := [])) (by simp); have hs1 := fr1.size; have A1 := hid (heap_alloc_new w1 (.cells #[.slice ta c.txns.length tcap, .slice oa c.order.length ocap] 26)); have R1A := hid (heap_up R1.out (.cells #[.slice ta c.txns.length tcap, .slice oa c.order.length ocap] 26)); have hlX := lt_of_get R1.out; clear cr ci sr hsb fr1)))
 have FX := hid ((Fr.refl w1.heap.size [] w1).alloc (.cells #[.slice ta c.txns.length tcap, .slice oa c.order.length ocap] 26))
 have CR1 := hid (CR.out.grow FX.out)
 have SR1 := hid (SR.out.grow FX.out)
 have hRW := hR1.alloc (.cells #[.slice ta c.txns.length tcap, .slice oa c.order.length ocap] 26)
 have FW := hid (F1.out.trans FX.out.nil)
 obtain ⟨W, hW⟩ : ∃ W : World, W = w1.alloc (.cells #[.slice ta c.txns.length tcap, .slice oa c.order.length ocap] 26) := ⟨_, rfl⟩
 obtain ⟨X, hX⟩ : ∃ X, X = w1.heap.size := ⟨_, rfl⟩
 rw [← hW] at A1 R1A CR1 SR1 hRW FW ⊢
 rw [← hX] at A1 hlX ⊢
 clear hW hX R1 F1 hR1 CR SR FX
 have p0 := cell_of (o := 0) A1.out rfl
 have p1 := cell_of (o := 1) A1.out rfl
 have r0 := cell_of (o := 0) R1A.out rfl
 have r1 := cell_of (o := 1) R1A.out rfl
 have rf := fun o => free_of (o := o) R1A.out
 have rl := lt_of_get R1A.out
 have fd := (Fr.refl W.heap.size [] W).drew
 obtain ⟨hy1, hy2⟩ := ready_le CI.out ss
 obtain ⟨y, hy⟩ : ∃ y, y = ready c ss := ⟨_, rfl⟩
 rw [← hy] at hy1 hy2
 have RV := hid hy.symm
 clear hy
 have RW : IntKind.i64.wrap (y + 1) = y + 1 := by rw [IntKind.wrap_i64]; omega
 by_cases hneg : y < 0
 all_goals
 first
 | go_region_held3 (fun x => x.cell? ⟨X, 0, none⟩ = some (.slice ta c.txns.length tcap) ∧ x.cell? ⟨X, 1, none⟩ = some (.slice oa c.order.length ocap))
  (first
   | exact ⟨p0, p1⟩
   | exact ⟨q0, q1⟩
   | exact ⟨cell_setne (cell_setne q0 (by dsimp only; omega)) (by dsimp only; omega), cell_setne (cell_setne q1 (by dsimp only; omega)) (by dsimp only; omega)⟩
   | fail)
  (first
   | (go_at_call 11; go_must (refine (specReady_any _ _ _ _ c ss _ (CR1.out.grow fd) CI.out (SR1.out.grow fd) (by omega) (fun rs h => (HSB.out rs h).small)).mono ?_; rintro e w2 ⟨rfl, fr2⟩; rw [RV.out]; have F2 := hid (fd.nil.trans (fr2.nil (B' := w.heap.size + 1) (T := [88]))); have A2 := hid (F2.out.keep _ _ A1.out (.inr (by simp [otag]))); have R2 := hid (F2.out.keep _ _ R1A.out (.inr (by simp [otag]))); have hR2 := (hRW.keep (fd.nil (B' := w.heap.size + 1) (T := [])) (by simp)).keep (fr2.nil (B' := w.heap.size + 1) (T := [])) (by simp); have q0 := cell_of (o := 0) A2.out rfl; have q1 := cell_of (o := 1) A2.out rfl; clear fr2))
   | (go_at_call 23; (with_reducible refine (pick_at (n := 12) hR4 (by omega)).mono ?_); go_must (rintro e w5 ⟨k5, rfl, hk5, hR5, hf5⟩; have hk5' := pk_lt hk5 (by decide); have F5 := hid (F4.out.trans hf5); have A5 := hid (hf5.keep _ _ A4.out (.inr (by simp [otag]))); have R5 := hid (hf5.keep _ _ R4.out (.inr (by simp [otag]))); have q0 := cell_of (o := 0) A5.out rfl; have q1 := cell_of (o := 1) A5.out rfl; have rf5 := fun o => free_of (o := o) R5.out; have rl5 := lt_of_get R5.out; have r50 := cell_of (o := 0) R5.out rfl; have r51 := cell_of (o := 1) R5.out rfl))
   | (go_at_call 23; (with_reducible refine (pick_at (n := 12) hR3 (by omega)).mono ?_); go_must (rintro e w4 ⟨k4, rfl, hk4, hR4, hf4⟩; have hk4' := pk_lt hk4 (by decide); have F4 := hid (F3.out.trans hf4); have A4 := hid (hf4.keep _ _ A3.out (.inr (by simp [otag]))); have R4 := hid (hf4.keep _ _ R3.out (.inr (by simp [otag]))); have q0 := cell_of (o := 0) A4.out rfl; have q1 := cell_of (o := 1) A4.out rfl))
   | (go_at_call 23; go_must (refine (pick_at hR2 (by omega)).mono ?_; rintro e w3 ⟨k3, rfl, hk3, hR3, hf3⟩; have hk3' := (by first | exact pick_bound hk3 hy2 hy1 | exact pick_one hk3 : (k3 : Int) < 1002); have F3 := hid (F2.out.trans hf3); have A3 := hid (hf3.keep _ _ A2.out (.inr (by simp [otag]))); have R3 := hid (hf3.keep _ _ R2.out (.inr (by simp [otag]))); have q0 := cell_of (o := 0) A3.out rfl; have q1 := cell_of (o := 1) A3.out rfl)))
 all_goals go_wp2
 all_goals
  have h4 := box2 (u1 := .slice ta c.txns.length tcap) (u2 := .slice oa c.order.length ocap) R5.out
  have g0 := cell_of (o := 0) h4 rfl
  have g1 := cell_of (o := 1) h4 rfl
  have FT := box2_fr (u1 := .slice ta c.txns.length tcap) (u2 := .slice oa c.order.length ocap) R5.out
  have nb := num_bound (k3 := k3) (k4 := k4) (k5 := k5) hk3' (by omega) (by omega)
  have FB : Fr w.heap.size [] w w5 := Fr.fresh (T := [88]) ((FW.out.mono (Nat.le_refl _) (fun _ h => by simp at h)).trans (F5.out.mono (by omega) (fun _ h => h)))
  have hlw := FA.out.size
  have cr := ((CR1.out.tk F5.out (by simp) (by simp) (by simp) (by simp)).tk FT (by simp) (by simp) (by simp) (by simp)).lower hlw
  have sr := ((SR1.out.tk F5.out (by simp) (by simp) (by simp)).tk FT (by simp) (by simp) (by simp)).lower hlw
  exact bodyPost_ret (v := .tuple #[.agg #[.slice ta c.txns.length tcap, .slice oa c.order.length ocap], .slice sa ss.length scap, .int .i64 (IntKind.i64.wrap (IntKind.i64.wrap ((k3 : Int) + IntKind.i64.wrap (IntKind.i64.wrap ((k4 : Int) / 11) * 2)) - IntKind.i64.wrap ((k5 : Int) / 11)))]) (by simp [results, Tryz.results13, go_sem, g0, g1]) rfl
   ⟨_, _, _, c, ss, _, rfl, cr, CI.out, sr, hsl, HSB.out, (FB.setNew (p := ⟨w.heap.size, 0, none⟩) (Nat.le_refl _) _).setNew (p := ⟨w.heap.size, 1, none⟩) (Nat.le_refl _) _, nb.1, nb.2⟩

end Go.Proofs.YtknoanpgadecbaaGreat
