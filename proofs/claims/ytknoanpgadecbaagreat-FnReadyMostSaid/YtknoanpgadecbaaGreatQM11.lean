/- The draw of a coordinator and shards. -/
import Derived.Test.YtknoanpgadecbaaGreatQCoWrong2
import Derived.Test.YtknoanpgadecbaaGreatQM5
import Derived.RegionTactic
import Derived.ChangeAlike
import Derived.BigRegion
import Derived.Test.YtknoanpgadecbaaGreatQM9
set_option linter.unusedVariables false
set_option linter.unusedSimpArgs false
namespace Go.Proofs.YtknoanpgadecbaaGreat
open Go.RowKit
set_option linter.unusedVariables false

/-- A drawn coordinator and drawn shards. -/
def DrawR (w : World) (e : Ending) (w' : World) : Prop :=
  ∃ v1 v2 v3 c ss, e = .returned (.tuple #[.agg #[v1, v2], v3]) ∧ CoR w.heap.size w' v1 v2 c ∧ CoI c ∧ ShardsR w.heap.size w' v3 ss ∧ ss.length ≤ 3 ∧ (∀ rs ∈ ss, ShB rs) ∧ Fr w.heap.size [] w w'

set_option maxRecDepth 20000 in
set_option maxHeartbeats 8000000 in
theorem drawReady_any {w : World} {a : Option Addr} {n cap : Nat} (hb : Bytes w.heap.size w a n cap) (hm : cap ≤ maxLen) :
    Calls Tryz.prog 9 #[.slice a n cap] w (DrawR w) := by
  have F0 := hid ((Fr.refl w.heap.size [] w).alloc (.cells #[.slice none 0 0, .slice none 0 0] 26))
  have hsz0 : (w.alloc (.cells #[.slice none 0 0, .slice none 0 0] 26)).heap.size = w.heap.size + 1 := by simp
  have HB := hid (show Bytes (w.alloc (.cells #[.slice none 0 0, .slice none 0 0] 26)).heap.size (w.alloc (.cells #[.slice none 0 0, .slice none 0 0] 26)) a n cap from hb.up F0.out (by simp))
  have B0 := hid (heap_alloc_new w (.cells #[.slice none 0 0, .slice none 0 0] 26))
  clear hb
  go_enter Tryz.func9, Tryz.ntmps9
  go_upto_block 0 with (first
    | (go_at_call 20; go_must (refine (l6Open_any HB.out hm).mono ?_; rw [hsz0]; rintro e w0 ⟨rfl, hR0, fr0⟩; have R0 := hid (fr0.keep _ _ B0.out (.inr (by simp))); have hlR := hR0.lt; have FA := hid (F0.out.trans fr0.nil); clear fr0))
    | (go_at_call 22; go_must (refine (l92World_any hR0 (by omega)).mono ?_; rintro e w1 ⟨v1, v2, v3, v4, d, q, rfl, wd, wi, hR1, hq, hf1⟩; have WD := hid wd; have WI := hid wi; have F1 := hid hf1; have R1 := hid (hf1.keep _ _ R0.out (.inr (by simp [otag]))); have HQ := hid hq; clear wd hq hf1))
    | (go_at_call 21; go_must (refine (l51Copy_any 0 _ _ _ _ d _ WD.out WI.out).mono ?_; rintro e w2 ⟨u1, u2, u3, u4, rfl, co, so, no, fr2⟩; have hs0 : 0 < d.shards.length := Nat.lt_of_lt_of_eq (by decide) wi.2.1.symm; obtain ⟨ta, tcap, rfl, _, _⟩ := co.reads.1.shape; obtain ⟨oa, ocap, rfl, _, _⟩ := co.reads.2.shape; obtain ⟨na, ncap, rfl, _, _⟩ := no.reads.shape; obtain ⟨zss, zs1, zs2, _⟩ := id so; obtain ⟨sg, scap, rfl, _, _, hsc⟩ := own_shape zs2 hs0; have HSC := hid hsc; have R2 := hid (fr2.keep _ _ R1.out (.inr (by simp))); have S0 := hid (WS.start (X := w2.heap.size) (m := 0 + 2000) (Nat.le_of_lt (Nat.lt_of_le_of_lt (Nat.le_refl _) hlR)) hlR F1.out hR1 HQ.out WI.out co so no fr2 rfl); clear co so no zs1 zs2 fr2 hsc))
    | (go_at_call 23; go_must (refine (WS.pick 12 S0.out (by omega)).mono ?_; rintro e w3 ⟨k3, rfl, hk3, s3, hf3⟩; have hk3' := pk_lt hk3 (by decide); have S := hid s3; have RB := hid (hf3.keep _ _ (heap_up R2.out _) (.inr (by simp [otag]))); have hnX := lt_of_get R2.out; clear s3 hf3)))
  obtain ⟨X, hX⟩ : ∃ X, X = w2.heap.size := ⟨_, rfl⟩
  rw [← hX] at S hnX ⊢
  clear hX S0 R2 WD F1 R1 HQ R0 hs0
  have XB := hid S.out.xb
  have hrX := S.out.hrX
  have x0 := cell_of (o := 0) XB.out rfl
  have x1 := cell_of (o := 1) XB.out rfl
  have x2 := cell_of (o := 2) XB.out rfl
  have x3 := cell_of (o := 3) XB.out rfl
  have xf := fun o => free_of (o := o) XB.out
  have xl := lt_of_get XB.out
  have hlw0 := FA.out.size
  go_cut [5] (fun v wx => v = .pointer (some ⟨X, 0, none⟩) ∧ ∃ ta tn tc oa on oc sa sn sc na nn nc d, wx.heap[w.heap.size]? = some (.cells #[.slice none 0 0, .slice none 0 0] 26 (0, 0)) ∧ WF (w.heap.size + 1) (w.heap.size + 1) w0 X 40000 (.slice ta tn tc) (.slice oa on oc) (.slice sa sn sc) (.slice na nn nc) d wx)
  case first =>
    have hs3 := S.out.wi.2.1
    have hsl : (3 : Int) ≤ (d.shards.length : Int) := by omega
    have hsc := HSC.out
    have hs2 : (2 : Int) ≤ (scap : Int) := by omega
    have HS3 := hid hs3
    obtain ⟨zss2, zz1, zz2, zz3⟩ := S.out.so
    obtain ⟨scur, hscur⟩ := own_tag' zz2 (k := sg) rfl
    have SB := hid hscur
    have nsX := ne_tag hscur XB.out (by decide)
    have nsr := ne_tag hscur RB.out (by decide)
    have hsg := (ownsRow_lt zz2 sg rfl).1
    clear hs3 hsc zz1 zz2 zz3 hscur
    go_wp2_with (go_at_call 25; go_must (refine (WS.coord S.out (by omega)).mono ?_; rintro e w4 ⟨ua, un, uc, ub, vn, vc, c, rfl, cr, ci, s4, hf4⟩; have S4 := hid s4; have CR := hid cr; have CI := hid ci; have RB4 := hid (hf4.keep _ _ RB.out (.inr (by simp [otag]))); have yf := fun o => free_of (o := o) s4.xb; have yl := lt_of_get s4.xb; have y0 := cell_of (o := 0) s4.xb rfl; have y1 := cell_of (o := 1) s4.xb rfl; have y2 := cell_of (o := 2) s4.xb rfl; have y3 := cell_of (o := 3) s4.xb rfl; clear s4 cr ci hf4))
    · have SD := S.out.grow (Fr.refl 0 [] w3).drew
      first
      | go_region_held3 (fun x => x.cell? ⟨X, 2, none⟩ = some (.slice (some ⟨sg, 0, none⟩) d.shards.length scap))
        (first
          | exact x2
          | exact y2
          | exact cell_setne y2 (fun e => nsX e.symm)
          | fail)
        (first
          | (go_at_call 23; go_must (refine (WS.pick 3 SD (by omega)).mono ?_; rintro e w4 ⟨k4, rfl, hk4, s4, hf4⟩; have hk4' := pk_lt hk4 (by decide); have hk4s := Int.lt_of_lt_of_le hk4' hsl; have S4 := hid s4; have RB4 := hid (hf4.keep _ _ ((Fr.refl 0 [] w3).drew.keep _ _ RB.out (.inr (by simp))) (.inr (by simp [otag]))); have SB4 := hid (hf4.keep _ _ ((Fr.refl 0 [] w3).drew.keep _ _ SB.out (.inr (by simp))) (.inr (by simp [otag]))); have y2 := cell_of (o := 2) s4.xb rfl; clear s4 hf4))
          | (go_at_call 24; go_must (refine (WS.shard S4.out (by omega)).mono ?_; rintro e w5 ⟨ra, rn, rc, rs, rfl, rr, hb, s5, hf5⟩; have S5 := hid s5; have RR := hid rr; have HB5 := hid hb; have RB5 := hid (hf5.keep _ _ RB4.out (.inr (by simp [otag]))); have SB5 := hid (hf5.keep _ _ SB4.out (.inr (by simp [otag]))); have y2 := cell_of (o := 2) s5.xb rfl; have zf := fun o => free_of (o := o) SB5.out; have zl := lt_of_get SB5.out; obtain ⟨⟨sv, qs1⟩, qs2⟩ := shs_cell s5.so (Nat.lt_of_lt_of_eq (Int.ofNat_lt.1 hk4') HS3.out.symm); clear s5 rr hb hf5)))
      | fail
      all_goals go_wp2
      all_goals go_meet
      exact ⟨rfl, _, _, _, _, _, _, _, _, _, _, _, _, ⟨d.co, d.shards.set k4 rs, d.net⟩, block_setne RB5.out (fun e => nsr e.symm), (S5.out.spoilS (k := k4) (by have := HS3.out; omega) RR.out HB5.out).more (by omega)⟩
    · go_meet
      exact ⟨rfl, _, _, _, _, _, _, _, _, _, _, _, _, ⟨c, d.shards, d.net⟩, block_setne (block_setne RB4.out (by dsimp only; omega)) (by dsimp only; omega), (S4.out.spoilC CR.out CI.out).more (by omega)⟩
    · go_meet
      exact ⟨rfl, _, _, _, _, _, _, _, _, _, _, _, _, ⟨d.co, d.shards.take 2, d.net⟩, block_setne RB.out (by dsimp only; omega), (S.out.spoil1 (d' := ⟨d.co, d.shards.take 2, d.net⟩) rfl ⟨S.out.co.reads, S.out.so.reads.two (by have := HS3.out; omega), S.out.no.reads⟩ ⟨S.out.wi.1, by simp; omega, fun x hx => S.out.wi.b.2.2.1 x (List.mem_of_mem_take hx), S.out.wi.b.2.2.2⟩).more (by omega)⟩
    all_goals
      go_meet
      exact ⟨rfl, _, _, _, _, _, _, _, _, _, _, _, _, d, RB.out, S.out.wf.more (by omega)⟩
  case rest =>
    obtain ⟨rfl, ta, tn, tc, oa, on, oc, sa, sn, sc, na, nn, nc, d, rb, wf⟩ := hcut
    clear x0 x1 x2 x3 xf xl RB S XB
    have RB := hid rb
    have WFH := hid wf
    have x0 := cell_of (o := 0) wf.xb rfl
    have x1 := cell_of (o := 1) wf.xb rfl
    have x2 := cell_of (o := 2) wf.xb rfl
    have r0 := cell_of (o := 0) rb rfl
    have r1 := cell_of (o := 1) rb rfl
    have rf := fun o => free_of (o := o) rb
    have rl := lt_of_get rb
    clear rb wf
    go_wp2
    go_region
    all_goals go_wp2
    have h4 := box2 (u1 := .slice ta tn tc) (u2 := .slice oa on oc) RB.out
    have g0 := cell_of (o := 0) h4 rfl
    have g1 := cell_of (o := 1) h4 rfl
    have FT := box2_fr (u1 := .slice ta tn tc) (u2 := .slice oa on oc) RB.out
    have re := WFH.out.re.lower hlw0
    have FB : Fr w.heap.size [] w wc := Fr.fresh (T := [88]) ((FA.out.mono (Nat.le_refl _) (fun _ h => by simp at h)).trans (WFH.out.fr.mono (by omega) (fun _ h => h)))
    exact bodyPost_ret (v := .tuple #[.agg #[.slice ta tn tc, .slice oa on oc], .slice sa sn sc]) (by simp [results, Tryz.results9, go_sem, g0, g1]) rfl
      ⟨_, _, _, d.co, d.shards, rfl, (re.1.tk FT (by simp) (by simp) (by simp) (by simp)).grow (Fr.refl 0 [] _).drew, WFH.out.wi.1, (re.2.1.tk FT (by simp) (by simp) (by simp)).grow (Fr.refl 0 [] _).drew, WFH.out.wi.2.1, WFH.out.wi.2.2.1, ((FB.setNew (p := ⟨w.heap.size, 0, none⟩) (Nat.le_refl _) _).setNew (p := ⟨w.heap.size, 1, none⟩) (Nat.le_refl _) _).drew⟩

end Go.Proofs.YtknoanpgadecbaaGreat

/- FnReadyMost: the walk. -/
namespace Go.Proofs.YtknoanpgadecbaaGreat
open Go.RowKit
set_option linter.unusedVariables false

set_option maxRecDepth 20000 in
set_option maxHeartbeats 4000000 in
theorem readyMost_walk {w : World} {a : Option Addr} {n cap : Nat} (hb : Bytes w.heap.size w a n cap) (hm : cap ≤ maxLen) :
    Calls Tryz.prog 4 #[.slice a n cap] w fun e w' => e = .returned (.bool true) ∧ Fr w.heap.size [] w w' := by
  have HB := hid hb
  clear hb
  by_cases hn1 : n ≤ 1048576
  · have in1 : ¬ (1048576 : Int) < (n : Int) := by omega
    go_enter Tryz.func4, Tryz.ntmps4
    go_upto_region 4 with (go_at_call 9; go_must (refine (drawReady_any HB.out hm).mono ?_; rintro e w1 ⟨v1, v2, v3, c, ss, rfl, cr, ci, sr, sl, sb, fr1⟩; have CR := hid cr; have CI := hid ci; have SR := hid sr; have SB := hid (fun rs h => (show Small rs ∧ NC rs from ⟨(sb rs h).small, (sb rs h).2⟩)); have SM := hid (fun rs h => (sb rs h).small); have F1 := hid fr1; obtain ⟨ta, tcap, rfl, _, _⟩ := cr.1.shape; obtain ⟨oa, ocap, rfl, _, _⟩ := cr.2.shape; obtain ⟨sa, scap, rfl, _, _⟩ := sr.shape; have sl9 := Nat.le_trans sl (show 3 ≤ 1000 from by decide); have olen := ci.2.2; clear cr ci sr sb fr1))
    obtain ⟨r, hre⟩ : ∃ r, r = ready c ss := ⟨_, rfl⟩
    have RE := hid hre
    have G1 := hid ((Fr.refl w.heap.size [] w1).alloc (.cells #[.slice ta c.txns.length tcap, .slice oa c.order.length ocap] 26))
    have FA := hid (F1.out.trans G1.out)
    have A1 := hid (heap_alloc_new w1 (.cells #[.slice ta c.txns.length tcap, .slice oa c.order.length ocap] 26))
    have p0 := cell_of (o := 0) A1.out rfl
    have p1 := cell_of (o := 1) A1.out rfl
    by_cases hr : r < 0
    · clear hre
      go_wp2_with (first
        | (go_at_call 10; go_must (refine (implReady_any w.heap.size _ _ _ c ss _ (CR.out.grow G1.out) (SR.out.grow G1.out) CI.out sl9 SB.out).mono ?_; rintro e w2 ⟨rfl, fr2⟩; rw [← RE.out]; have F2 := hid (FA.out.trans fr2.nil); have C2 := hid ((CR.out.grow G1.out).grow fr2); have S2 := hid ((SR.out.grow G1.out).grow fr2); have A2 := hid (fr2.keep _ _ A1.out (.inr (by simp))); have q0 := cell_of (o := 0) A2.out rfl; have q1 := cell_of (o := 1) A2.out rfl; clear fr2))
        | (go_at_call 11; go_must (refine (specReady_any w.heap.size _ _ _ c ss _ C2.out CI.out S2.out sl9 SM.out).mono ?_; rintro e w3 ⟨rfl, fr3⟩; rw [← RE.out]; have F3 := hid (F2.out.trans fr3.nil); clear fr3)))
      go_ret
      exact ⟨ret_bool (by simp), F3.out⟩
    · obtain ⟨hok, hle⟩ := ready_most (c := c) (ss := ss) (by omega)
      rw [← hre] at hle
      have RZ := hid (ready_empties hok)
      have LO := hid (show w.heap.size ≤ w1.heap.size from F1.out.size)
      have h3 : empties.length ≤ 1000 := by decide
      clear hre hok
      go_wp2_with (first
        | (go_at_call 10; (with_reducible refine (implReady_any w.heap.size _ _ _ c ss _ (CR.out.grow G1.out) (SR.out.grow G1.out) CI.out sl9 SB.out).mono ?_); go_must (rintro e w2 ⟨rfl, fr2⟩; rw [← RE.out]; have F2 := hid (FA.out.trans fr2.nil); have C2 := hid ((CR.out.grow G1.out).grow fr2); have S2 := hid ((SR.out.grow G1.out).grow fr2); have A2 := hid (fr2.keep _ _ A1.out (.inr (by simp))); have q0 := cell_of (o := 0) A2.out rfl; have q1 := cell_of (o := 1) A2.out rfl; clear fr2))
        | (go_at_call 11; go_must (refine (specReady_any w.heap.size _ _ _ c ss _ C2.out CI.out S2.out sl9 SM.out).mono ?_; rintro e w3 ⟨rfl, fr3⟩; rw [← RE.out]; have F3 := hid (F2.out.trans fr3.nil); have C3 := hid (C2.out.grow fr3); have A3 := hid (fr3.keep _ _ A2.out (.inr (by simp))); have r0 := cell_of (o := 0) A3.out rfl; have r1 := cell_of (o := 1) A3.out rfl; clear fr3))
        | (go_at_call 10; go_must (have FE := hid ((Fr.refl 0 [] w3).alloc (.cells #[.slice none 0 0, .slice none 0 0, .slice none 0 0] 37)); refine (implReady_any w.heap.size _ _ _ c empties _ (C3.out.grow FE.out) (shardsR_empties (heap_alloc_new w3 _) F3.out.size) CI.out h3 empties_ok).mono ?_; rintro e w4 ⟨rfl, fr4⟩; rw [RZ.out]; have F4 := hid ((F3.out.trans FE.out.nil).trans fr4.nil); have A4 := hid (fr4.keep _ _ (FE.out.keep _ _ A3.out (.inr (by simp))) (.inr (by simp))); have s1 := cell_of (o := 1) A4.out rfl; clear fr4)))
      go_ret
      exact ⟨ret_bool (by simp), F4.out⟩
  · have in1 : (1048576 : Int) < (n : Int) := by omega
    go_enter Tryz.func4, Tryz.ntmps4
    go_wp2
    go_ret
    exact ⟨rfl, Fr.refl _ _ _⟩

end Go.Proofs.YtknoanpgadecbaaGreat
