/- The draw of a run that is often invalid. -/
import Derived.Test.YtknoanpgadecbaaGreatDoorQCoWrong
import Derived.Test.YtknoanpgadecbaaGreatDoorQM2
import Derived.Deep.CutBlock
set_option linter.unusedVariables false
set_option linter.unusedSimpArgs false
namespace Go.Proofs.YtknoanpgadecbaaGreatDoor
open Go.RowKit
set_option linter.unusedVariables false

def DrawX (B r p : Nat) (w : World) (e : Ending) (w' : World) : Prop :=
 ∃ v1 v2 v3 v4 d q, e = .returned (.agg #[v1, v2, v3, v4]) ∧ WdR w.heap.size w' v1 v2 v3 v4 d ∧ WdB d ∧ Rdr B w' r q ∧ q ≤ p + 40000 ∧ Fr B [86] w w'

theorem WF.fin {B r X m p : Nat} {w0 w : World} {v1 v2 v3 v4 : Value} {d : Wd} (h : WF B r w0 X m v1 v2 v3 v4 d w) (rb : w.heap[w0.heap.size]? = some (.cells #[.slice none 0 0, .slice none 0 0, .slice none 0 0, .slice none 0 0] 30 (0, 0))) (hm : m ≤ p + 40000) :
  DrawX B r p w0 (.returned (.agg #[v1, v2, v3, v4])) ((((w.setCell ⟨w0.heap.size, 0, none⟩ v1).setCell ⟨w0.heap.size, 1, none⟩ v2).setCell ⟨w0.heap.size, 2, none⟩ v3).setCell ⟨w0.heap.size, 3, none⟩ v4) := by
 obtain ⟨q, h1, h2⟩ := h.rd
 have hr := h.hr
 exact ⟨v1, v2, v3, v4, d, q, rfl, h.re.tk (box4_fr rb) (by simp [Apt]), h.wi, (((h2.setAbove (q := ⟨w0.heap.size, 0, none⟩) hr).setAbove (q := ⟨w0.heap.size, 1, none⟩) hr).setAbove (q := ⟨w0.heap.size, 2, none⟩) hr).setAbove (q := ⟨w0.heap.size, 3, none⟩) hr, by omega, box4_new h.fr (Nat.le_refl _)⟩

theorem pk_ltn {k n : Nat} (h : k = 0 ∨ (k : Int) < (n : Int)) (h0 : 0 < n) : k < n := by omega

theorem shs_cell {lo g n cap k : Nat} {w : World} {ss : List (List Rc)} (h : ShsOwn lo w (.slice (some ⟨g, 0, none⟩) n cap) ss) (hk : k < ss.length) : (∃ v, w.cell? ⟨g, k, none⟩ = some v) ∧ n = ss.length := by
 obtain ⟨zs, rfl, h2, h3⟩ := h
 have hn : n = zs.length := by
  rcases h2.2 with ⟨hh, _⟩ | ⟨_, _, _, hh, _⟩
  ·cases hh
  ·cases hh; simp
 subst hn
 rw [List.length_map] at h2
 have hk' : k < zs.length := by simpa using hk
 have := World.ownsRow.cellAt h2 k (by omega)
 rw [List.getElem?_map, List.getElem?_eq_getElem hk'] at this
 exact ⟨⟨_, this⟩, by simp⟩

set_option maxRecDepth 20000 in
set_option maxHeartbeats 8000000 in
theorem l92Wrong_any {B r p : Nat} {w : World} (hR : Rdr B w r p) (hp : p ≤ 999800000) :
  Calls Tryz.prog 11 #[.pointer (some ⟨r, 0, none⟩)] w (DrawX B r p w) := by
 have hB : B ≤ w.heap.size := Nat.le_trans hR.1 (Nat.le_of_lt hR.lt)
 have HR := hid hR
 clear hR
 obtain ⟨im, hmi, hmz0, hmz1, hmz2⟩ := info_parts infoM
 have F0 := hid ((Fr.refl B [86] w).alloc (.cells #[.slice none 0 0, .slice none 0 0, .slice none 0 0, .slice none 0 0] 30))
 have R0 := hid (heap_alloc_new w (.cells #[.slice none 0 0, .slice none 0 0, .slice none 0 0, .slice none 0 0] 30))
 go_enter Tryz.func11, Tryz.ntmps11
 go_upto_block 0 with (first
  | (go_at_call 33; go_must (refine (l92World_any (HR.out.alloc _) (by omega)).mono ?_; rintro e w1 ⟨v1, v2, v3, v4, d, q, rfl, wd, wi, hR1, hq, hf1⟩; have WD := hid wd; have WI := hid wi; have F1 := hid (F0.out.trans hf1); have R1 := hid (hf1.keep _ _ R0.out (.inr (by simp [otag]))); have HQ := hid hq; clear wd hq hf1))
  | (go_at_call 32; go_must (refine (l51Copy_any 0 _ _ _ _ d _ WD.out WI.out).mono ?_; rintro e w2 ⟨u1, u2, u3, u4, rfl, co, so, no, fr2⟩; have hs0 : 0 < d.shards.length := Nat.lt_of_lt_of_eq (by decide) wi.2.1.symm; obtain ⟨ta, tcap, rfl, _, _⟩ := co.reads.1.shape; obtain ⟨oa, ocap, rfl, _, _⟩ := co.reads.2.shape; obtain ⟨na, ncap, rfl, _, _⟩ := no.reads.shape; obtain ⟨zss, zs1, zs2, _⟩ := id so; obtain ⟨sg, scap, rfl, _, _, hsc⟩ := own_shape zs2 hs0; have HSC := hid hsc; have R2 := hid (fr2.keep _ _ R1.out (.inr (by simp))); have S0 := hid (WS.start (X := w2.heap.size) (m := p + 2000) hB HR.out.lt F1.out hR1 HQ.out WI.out co so no fr2 rfl); clear co so no zs1 zs2 fr2 hsc))
  | (go_at_call 34; go_must (refine (WS.pick 8 S0.out (by omega)).mono ?_; rintro e w3 ⟨k3, rfl, hk3, s3, hf3⟩; have hk3' := pk_lt hk3 (by decide); have S := hid s3; have RB := hid (hf3.keep _ _ (heap_up R2.out _) (.inr (by simp [otag]))); have hnX := lt_of_get R2.out; clear s3 hf3)))
 obtain ⟨X, hX⟩ : ∃ X, X = w2.heap.size := ⟨_, rfl⟩
 rw [← hX] at S hnX ⊢
 clear hX S0 R2 WD F1 R1 HQ R0 hs0
 have XB := hid S.out.xb
 have hrX := S.out.hrX
 have x0 := cell_of (o := 0) XB.out rfl
 have x1 := cell_of (o := 1) XB.out rfl
 have x2 := cell_of (o := 2) XB.out rfl
 have x3 := cell_of (o := 3) XB.out rfl
 have xf := fun o => free_of (o := o) XB.out
 have xl := lt_of_get XB.out
 go_cut [3] (fun v wx => v = .pointer (some ⟨X, 0, none⟩) ∧ ∃ ta tn tc oa on oc sa sn sc na nn nc d, wx.heap[w.heap.size]? = some (.cells #[.slice none 0 0, .slice none 0 0, .slice none 0 0, .slice none 0 0] 30 (0, 0)) ∧ WF B r w X (p + 35000) (.slice ta tn tc) (.slice oa on oc) (.slice sa sn sc) (.slice na nn nc) d wx)
 case first =>
  have hs3 := S.out.wi.2.1
  have hsl : (3 : Int) ≤ (d.shards.length : Int) := by omega
  have hsc := HSC.out
  have hs2 : (2 : Int) ≤ (scap : Int) := by omega
  have HS3 := hid hs3
  obtain ⟨zss2, zz1, zz2, zz3⟩ := S.out.so
  obtain ⟨scur, hscur⟩ := own_tag' zz2 (k := sg) rfl
  have SB := hid hscur
  have nsX := ne_tag hscur XB.out (by decide)
  have nsr := ne_tag hscur RB.out (by decide)
  have hsg := (ownsRow_lt zz2 sg rfl).1
  clear hs3 hsc zz1 zz2 zz3 hscur
  go_wp2_with (go_at_call 35; go_must (refine (WS.coord S.out (by omega)).mono ?_; rintro e w4 ⟨ua, un, uc, ub, vn, vc, c, rfl, cr, ci, s4, hf4⟩; have S4 := hid s4; have CR := hid cr; have CI := hid ci; have RB4 := hid (hf4.keep _ _ RB.out (.inr (by simp [otag]))); have yf := fun o => free_of (o := o) s4.xb; have yl := lt_of_get s4.xb; have y0 := cell_of (o := 0) s4.xb rfl; have y1 := cell_of (o := 1) s4.xb rfl; have y2 := cell_of (o := 2) s4.xb rfl; have y3 := cell_of (o := 3) s4.xb rfl; clear s4 cr ci hf4))
  ·go_meet
   exact ⟨rfl, _, _, _, _, _, _, _, _, _, _, _, _, ⟨c, d.shards, d.net⟩, block_setne (block_setne RB4.out (by dsimp only; omega)) (by dsimp only; omega), (S4.out.spoilC CR.out CI.out).more (by omega)⟩
  ·have SD := S.out.grow (Fr.refl 0 [] w3).drew
   first
   | go_region_held3 (fun x => x.cell? ⟨X, 2, none⟩ = some (.slice (some ⟨sg, 0, none⟩) d.shards.length scap))
    (first
     | exact x2
     | exact y2
     | exact cell_setne y2 (fun e => nsX e.symm)
     | fail)
    (first
     | (go_at_call 34; go_must (refine (WS.pick 3 SD (by omega)).mono ?_; rintro e w4 ⟨k4, rfl, hk4, s4, hf4⟩; have hk4' := pk_lt hk4 (by decide); have hk4s := Int.lt_of_lt_of_le hk4' hsl; have S4 := hid s4; have RB4 := hid (hf4.keep _ _ ((Fr.refl 0 [] w3).drew.keep _ _ RB.out (.inr (by simp))) (.inr (by simp [otag]))); have SB4 := hid (hf4.keep _ _ ((Fr.refl 0 [] w3).drew.keep _ _ SB.out (.inr (by simp))) (.inr (by simp [otag]))); have y2 := cell_of (o := 2) s4.xb rfl; clear s4 hf4))
     | (go_at_call 36; go_must (refine (WS.shard S4.out (by omega)).mono ?_; rintro e w5 ⟨ra, rn, rc, rs, rfl, rr, hb, s5, hf5⟩; have S5 := hid s5; have RR := hid rr; have HB5 := hid hb; have RB5 := hid (hf5.keep _ _ RB4.out (.inr (by simp [otag]))); have SB5 := hid (hf5.keep _ _ SB4.out (.inr (by simp [otag]))); have y2 := cell_of (o := 2) s5.xb rfl; have zf := fun o => free_of (o := o) SB5.out; have zl := lt_of_get SB5.out; obtain ⟨⟨sv, qs1⟩, qs2⟩ := shs_cell s5.so (Nat.lt_of_lt_of_eq (Int.ofNat_lt.1 hk4') HS3.out.symm); clear s5 rr hb hf5)))
   | fail
   all_goals go_wp2
   all_goals go_meet
   exact ⟨rfl, _, _, _, _, _, _, _, _, _, _, _, _, ⟨d.co, d.shards.set k4 rs, d.net⟩, block_setne RB5.out (fun e => nsr e.symm), (S5.out.spoilS (k := k4) (by have := HS3.out; omega) RR.out HB5.out).more (by omega)⟩
  ·go_meet
   exact ⟨rfl, _, _, _, _, _, _, _, _, _, _, _, _, ⟨d.co, d.shards.take 2, d.net⟩, block_setne RB.out (by dsimp only; omega), (S.out.spoil1 (d' := ⟨d.co, d.shards.take 2, d.net⟩) rfl ⟨S.out.co.reads, S.out.so.reads.two (by have := HS3.out; omega), S.out.no.reads⟩ ⟨S.out.wi.1, by simp; omega, fun x hx => S.out.wi.b.2.2.1 x (List.mem_of_mem_take hx), S.out.wi.b.2.2.2⟩).more (by omega)⟩
  ·refine wp_region_L 16 (S := (fun x => x.cell? ⟨X, 3, none⟩ = some (.slice na d.net.length ncap))) (by kernel_rfl) ?_ (fun hHeld => ?_)
   ·exact x3
   have FD := (Fr.refl 0 [] w3).drew
   replace RB := hid (FD.keep _ _ RB.out (.inr (by simp)))
   replace S := hid (S.out.grow FD)
   clear FD x0 x1 x2 x3 xf xl SB
   generalize w3.drew = V at *
   refine wpAnyL_take (i := 0) (v := ?_) rfl (by kernel_rfl) (by kernel_rfl) (by kernel_rfl) (by kernel_rfl) (fun _ _ _ h => h) (Or.inl ⟨by rfl, ?_⟩) (by assumption) ?_
   rotate_left
   ·intro w hSw; (try dsimp only at hSw); go_simp; try with_reducible rfl
   (try simp only [Act.put, List.getElem_toArray, List.getElem_cons_succ, List.getElem_cons_zero, List.getElem?_toArray, List.getElem?_cons_succ, List.getElem?_cons_zero, List.setIfInBounds_toArray, List.set_cons_zero, List.set_cons_succ])
   refine wpAnyL_take (i := 2) (v := ?_) rfl (by kernel_rfl) (by kernel_rfl) (by kernel_rfl) (by kernel_rfl) (fun _ _ _ h => h) (Or.inl ⟨by rfl, ?_⟩) (by assumption) ?_
   rotate_left
   ·intro w hSw; (try dsimp only at hSw); go_simp; try with_reducible rfl
   (try simp only [Act.put, List.getElem_toArray, List.getElem_cons_succ, List.getElem_cons_zero, List.getElem?_toArray, List.getElem?_cons_succ, List.getElem?_cons_zero, List.setIfInBounds_toArray, List.set_cons_zero, List.set_cons_succ])
   refine wpAnyL_take (i := 4) (v := ?_) rfl (by kernel_rfl) (by kernel_rfl) (by kernel_rfl) (by kernel_rfl) (fun _ _ _ h => h) (Or.inl ⟨by rfl, ?_⟩) (by assumption) ?_
   rotate_left
   ·intro w hSw; (try dsimp only at hSw); go_simp; try with_reducible rfl
   (try simp only [Act.put, List.getElem_toArray, List.getElem_cons_succ, List.getElem_cons_zero, List.getElem?_toArray, List.getElem?_cons_succ, List.getElem?_cons_zero, List.setIfInBounds_toArray, List.set_cons_zero, List.set_cons_succ])
   refine wpAnyL_take (i := 7) (v := ?_) rfl (by kernel_rfl) (by kernel_rfl) (by kernel_rfl) (by kernel_rfl) (fun _ _ _ h => h) (Or.inl ⟨by rfl, ?_⟩) (by assumption) ?_
   rotate_left
   ·intro w hSw; (try dsimp only at hSw); go_simp; try with_reducible rfl
   (try simp only [Act.put, List.getElem_toArray, List.getElem_cons_succ, List.getElem_cons_zero, List.getElem?_toArray, List.getElem?_cons_succ, List.getElem?_cons_zero, List.setIfInBounds_toArray, List.set_cons_zero, List.set_cons_succ])
   refine wpAnyL_take (i := 9) (v := ?_) rfl (by kernel_rfl) (by kernel_rfl) (by kernel_rfl) (by kernel_rfl) (fun _ _ _ h => h) (Or.inl ⟨by rfl, ?_⟩) (by assumption) ?_
   rotate_left
   ·intro w hSw; (try dsimp only at hSw); go_simp; try with_reducible rfl
   (try simp only [Act.put, List.getElem_toArray, List.getElem_cons_succ, List.getElem_cons_zero, List.getElem?_toArray, List.getElem?_cons_succ, List.getElem?_cons_zero, List.setIfInBounds_toArray, List.set_cons_zero, List.set_cons_succ])
   refine wpAnyL_take (i := 1) (v := ?_) rfl (by kernel_rfl) (by kernel_rfl) (by kernel_rfl) (by kernel_rfl) (fun _ _ _ h => h) (Or.inl ⟨by rfl, ?_⟩) (by assumption) ?_
   rotate_left
   ·intro w hSw; (try dsimp only at hSw); go_simp; try with_reducible rfl
   (try simp only [Act.put, List.getElem_toArray, List.getElem_cons_succ, List.getElem_cons_zero, List.getElem?_toArray, List.getElem?_cons_succ, List.getElem?_cons_zero, List.setIfInBounds_toArray, List.set_cons_zero, List.set_cons_succ])
   refine wpAnyL_ready (rs := [3]) (by kernel_rfl) (by simp) ?_
   refine AllReadyL.cons rfl (fun K hK => ?_) AllReadyL.nil
   go_simp
   go_at_call 34
   refine (WS.pick 5 S.out (by omega)).mono ?_
   rintro e w4 ⟨k4, rfl, hk4, s4, hf4⟩
   have hk4' := pk_lt hk4 (by decide)
   have S := hid s4
   have RB := hid (hf4.keep _ _ RB.out (.inr (by simp [otag])))
   have XB := hid s4.xb
   clear s4 hf4
   refine hK.out _ _ (Or.inr ?_) (fun hHeld => ?_)
   ·exact cell_of (o := 3) XB.out rfl
   replace hHeld := hHeld.resolve_right (by decide)
   clear hK K
   (try simp only [Act.put, List.getElem_toArray, List.getElem_cons_succ, List.getElem_cons_zero, List.getElem?_toArray, List.getElem?_cons_succ, List.getElem?_cons_zero, List.setIfInBounds_toArray, List.set_cons_zero, List.set_cons_succ])
   refine wpAnyL_ready (rs := [5]) (by kernel_rfl) (by simp) ?_
   refine AllReadyL.cons rfl (fun K hK => ?_) AllReadyL.nil
   go_simp
   go_at_call 34
   refine (WS.pick 4 S.out (by omega)).mono ?_
   rintro e w5 ⟨k5, rfl, hk5, s4, hf4⟩
   have hk5' := pk_lt hk5 (by decide)
   have S := hid s4
   have RB := hid (hf4.keep _ _ RB.out (.inr (by simp [otag])))
   have XB := hid s4.xb
   clear s4 hf4
   refine hK.out _ _ (Or.inr ?_) (fun hHeld => ?_)
   ·exact cell_of (o := 3) XB.out rfl
   replace hHeld := hHeld.resolve_right (by decide)
   clear hK K
   (try simp only [Act.put, List.getElem_toArray, List.getElem_cons_succ, List.getElem_cons_zero, List.getElem?_toArray, List.getElem?_cons_succ, List.getElem?_cons_zero, List.setIfInBounds_toArray, List.set_cons_zero, List.set_cons_succ])
   refine wpAnyL_take (i := 6) (v := ?_) rfl (by kernel_rfl) (by kernel_rfl) (by kernel_rfl) (by kernel_rfl) (fun _ _ _ h => h) (Or.inl ⟨by rfl, ?_⟩) (by assumption) ?_
   rotate_left
   ·intro w hSw; (try dsimp only at hSw); go_simp; try with_reducible rfl
   (try simp only [Act.put, List.getElem_toArray, List.getElem_cons_succ, List.getElem_cons_zero, List.getElem?_toArray, List.getElem?_cons_succ, List.getElem?_cons_zero, List.setIfInBounds_toArray, List.set_cons_zero, List.set_cons_succ])
   refine wpAnyL_ready (rs := [8]) (by kernel_rfl) (by simp) ?_
   refine AllReadyL.cons rfl (fun K hK => ?_) AllReadyL.nil
   go_simp
   go_at_call 34
   refine (WS.pick 4 S.out (by omega)).mono ?_
   rintro e w6 ⟨k6, rfl, hk6, s4, hf4⟩
   have hk6' := pk_lt hk6 (by decide)
   have S := hid s4
   have RB := hid (hf4.keep _ _ RB.out (.inr (by simp [otag])))
   have XB := hid s4.xb
   clear s4 hf4
   refine hK.out _ _ (Or.inr ?_) (fun hHeld => ?_)
   ·exact cell_of (o := 3) XB.out rfl
   replace hHeld := hHeld.resolve_right (by decide)
   clear hK K
   (try simp only [Act.put, List.getElem_toArray, List.getElem_cons_succ, List.getElem_cons_zero, List.getElem?_toArray, List.getElem?_cons_succ, List.getElem?_cons_zero, List.setIfInBounds_toArray, List.set_cons_zero, List.set_cons_succ])
   refine wpAnyL_ready (rs := [10]) (by kernel_rfl) (by simp) ?_
   refine AllReadyL.cons rfl (fun K hK => ?_) AllReadyL.nil
   go_simp
   go_at_call 34
   refine (WS.pick 2 S.out (by omega)).mono ?_
   rintro e w7 ⟨k7, rfl, hk7, s4, hf4⟩
   have hk7' := pk_lt hk7 (by decide)
   have S := hid s4
   have RB := hid (hf4.keep _ _ RB.out (.inr (by simp [otag])))
   have XB := hid s4.xb
   clear s4 hf4
   refine hK.out _ _ (Or.inr ?_) (fun hHeld => ?_)
   ·exact cell_of (o := 3) XB.out rfl
   replace hHeld := hHeld.resolve_right (by decide)
   clear hK K
   (try simp only [Act.put, List.getElem_toArray, List.getElem_cons_succ, List.getElem_cons_zero, List.getElem?_toArray, List.getElem?_cons_succ, List.getElem?_cons_zero, List.setIfInBounds_toArray, List.set_cons_zero, List.set_cons_succ])
   refine wpAnyL_take (i := 11) (v := ?_) rfl (by kernel_rfl) (by kernel_rfl) (by kernel_rfl) (by kernel_rfl) (fun _ _ _ h => h) (Or.inl ⟨by rfl, ?_⟩) (by assumption) ?_
   rotate_left
   ·intro w hSw; (try dsimp only at hSw); go_simp; try with_reducible rfl
   (try simp only [Act.put, List.getElem_toArray, List.getElem_cons_succ, List.getElem_cons_zero, List.getElem?_toArray, List.getElem?_cons_succ, List.getElem?_cons_zero, List.setIfInBounds_toArray, List.set_cons_zero, List.set_cons_succ])
   refine wpAnyL_take (i := 12) (v := ?_) rfl (by kernel_rfl) (by kernel_rfl) (by kernel_rfl) (by kernel_rfl) (fun _ _ _ h => h) (Or.inl ⟨by rfl, ?_⟩) (by assumption) ?_
   rotate_left
   ·intro w hSw; (try dsimp only at hSw); go_simp; try with_reducible rfl
   (try simp only [Act.put, List.getElem_toArray, List.getElem_cons_succ, List.getElem_cons_zero, List.getElem?_toArray, List.getElem?_cons_succ, List.getElem?_cons_zero, List.setIfInBounds_toArray, List.set_cons_zero, List.set_cons_succ])
   refine wpAnyL_ready (rs := [13]) (by kernel_rfl) (by simp) ?_
   refine AllReadyL.cons rfl (fun K hK => ?_) AllReadyL.nil
   go_simp
   generalize IntKind.i64.wrap ((k5 : Int) - 1) = mt
   generalize ((k7 : Int) == 0) = my
   have f1 : Fr w.heap.size [] w7 (w7.alloc (.cells #[.int .i64 k4, .int .i64 mt, .int .i64 k6, .bool my] 47)) := (Fr.refl _ _ _).alloc _
   have LS := hid (SlR.lit (w := w7) (e := 47) (sz := 4) (cs := [.int .i64 k4, .int .i64 mt, .int .i64 k6, .bool my]) rfl)
   have S := hid (S.out.grow f1)
   have RB := hid (f1.keep _ _ RB.out (.inr (by simp)))
   have XB := hid S.out.xb
   replace LS : Hid (SlR (new w7.heap.size) 47 4 (w7.alloc (.cells #[.int .i64 k4, .int .i64 mt, .int .i64 k6, .bool my] 47)) (.slice (some ⟨w7.heap.size, 0, none⟩) 1 1) 1 [.int .i64 k4, .int .i64 mt, .int .i64 k6, .bool my]) := LS
   obtain ⟨Z, hZ⟩ : ∃ Z, Z = w7.heap.size := ⟨_, rfl⟩
   rw [← hZ] at LS ⊢
   clear f1 hZ
   generalize w7.alloc (.cells #[.int .i64 k4, .int .i64 mt, .int .i64 k6, .bool my] 47) = V2 at *
   refine hK.out _ _ (Or.inr ?_) (fun hHeld => ?_)
   ·exact cell_of (o := 3) XB.out rfl
   replace hHeld := hHeld.resolve_right (by decide)
   clear hK K
   (try simp only [Act.put, List.getElem_toArray, List.getElem_cons_succ, List.getElem_cons_zero, List.getElem?_toArray, List.getElem?_cons_succ, List.getElem?_cons_zero, List.setIfInBounds_toArray, List.set_cons_zero, List.set_cons_succ])
   refine wpAnyL_ready (rs := [14]) (by kernel_rfl) (by simp) ?_
   refine AllReadyL.cons rfl (fun K hK => ?_) AllReadyL.nil
   have hnl := S.out.wi.len.2
   have HNL := hid hnl
   clear hnl
   refine step_ap rfl (.tmp 32) (.tmp 44) 28 rfl w.heap.size 47 im (.agg #[.int .i64 0, .int .i64 0, .int .i64 0, .bool false]) 4 32 Tryz.underlying28 hmi hmz0 hmz1 hmz2 rfl (by decide) (.slice na d.net.length ncap) d.net.length (d.net.flatMap encM) (by rfl) S.out.no (new Z) 47 (.slice (some ⟨Z, 0, none⟩) 1 1) 1 [.int .i64 k4, .int .i64 mt, .int .i64 k6, .bool my] (by rfl) LS.out (oneM1 ⟨k4, mt, k6, my⟩) (by unfold maxLen; have := HNL.out; omega) (by have := HNL.out; omega) S.out.fr.size ?_
   intro v3 V3 own3 fr3
   obtain ⟨nb, nbcap, rfl⟩ := own_any own3
   have OWN3 := hid own3
   have FR3 := hid fr3
   have RB3 := hid (fr3.keep _ _ RB.out (.inr (by simp [otag])))
   have XB := hid (fr3.keep _ _ XB.out (.inr (by simp [otag])))
   have xf := fun o => free_of (o := o) XB.out
   have xl := lt_of_get XB.out
   have x3 := cell_of (o := 3) XB.out rfl
   clear own3 fr3
   refine hK.out _ _ (Or.inr ?_) (fun hHeld => ?_)
   ·exact cell_of (o := 3) XB.out rfl
   replace hHeld := hHeld.resolve_right (by decide)
   clear hK K
   (try simp only [Act.put, List.getElem_toArray, List.getElem_cons_succ, List.getElem_cons_zero, List.getElem?_toArray, List.getElem?_cons_succ, List.getElem?_cons_zero, List.setIfInBounds_toArray, List.set_cons_zero, List.set_cons_succ])
   refine wpAnyL_take (i := 15) (v := ?_) rfl (by kernel_rfl) (by kernel_rfl) (by kernel_rfl) (by kernel_rfl) (fun _ _ _ h => h) (Or.inl ⟨by rfl, ?_⟩) (by assumption) ?_
   rotate_left
   ·intro w hSw; (try dsimp only at hSw); go_simp; try with_reducible rfl
   (try simp only [Act.put, List.getElem_toArray, List.getElem_cons_succ, List.getElem_cons_zero, List.getElem?_toArray, List.getElem?_cons_succ, List.getElem?_cons_zero, List.setIfInBounds_toArray, List.set_cons_zero, List.set_cons_succ])
   refine wpAnyL_one (i := 16) (by kernel_rfl) rfl (fun K hK => ?_)
   go_simp
   refine hK.out _ _ (Or.inl rfl) (fun hHeld => ?_)
   clear hK K hHeld
   (try simp only [Act.put, List.getElem_toArray, List.getElem_cons_succ, List.getElem_cons_zero, List.getElem?_toArray, List.getElem?_cons_succ, List.getElem?_cons_zero, List.setIfInBounds_toArray, List.set_cons_zero, List.set_cons_succ])
   refine wpAnyL_done (by kernel_rfl) ?_ _
   go_wp2
   go_meet
   exact ⟨rfl, _, _, _, _, _, _, _, _, _, _, _, _, _, block_setne RB3.out (by dsimp only; omega), (S.out.spoilN OWN3.out FR3.out).more (by omega)⟩
  ·have hnp : 0 < d.net.length := by omega
   obtain ⟨ng, ncap', hne, _, _⟩ := own_shape S.out.no hnp
   cases hne
   have SD := S.out.grow (Fr.refl 0 [] w3).drew
   first
   | go_region_held3 (fun x => x.cell? ⟨X, 3, none⟩ = some (.slice (some ⟨ng, 0, none⟩) d.net.length ncap))
    (first
     | exact x3
     | exact y3
     | exact cell_setne y3 (fun e => ngX e.symm)
     | fail)
    (first
     | (go_at_call 34; go_must (refine (WS.pick _ SD (by omega)).mono ?_; rintro e w4 ⟨k4, rfl, hk4, s4, hf4⟩; have hk4' := pk_ltn hk4 hnp; have hk4i := Int.ofNat_lt.2 hk4'; have S4 := hid s4; have RB4 := hid (hf4.keep _ _ ((Fr.refl 0 [] w3).drew.keep _ _ RB.out (.inr (by simp))) (.inr (by simp [otag]))); have y3 := cell_of (o := 3) s4.xb rfl; obtain ⟨z0, z1, z2, z3, zc, z4⟩ := s4.no.cell hk4'; have ngX := ne_tag z4 s4.xb (by decide); have ngr := ne_tag z4 RB4.out (by decide); clear s4 hf4 z4)))
   | fail
   all_goals go_wp2
   all_goals go_meet
   exact ⟨rfl, _, _, _, _, _, _, _, _, _, _, _, _, _, block_setne RB4.out (fun e => ngr e.symm), (S4.out.spoilY hk4').more (by omega)⟩
  all_goals
   go_meet
   exact ⟨rfl, _, _, _, _, _, _, _, _, _, _, _, _, d, RB.out, S.out.wf.more (by omega)⟩
 case rest =>
  obtain ⟨rfl, ta, tn, tc, oa, on, oc, sa, sn, sc, na, nn, nc, d, rb, wf⟩ := hcut
  clear x0 x1 x2 x3 xf xl RB S XB
  have RB := hid rb
  have WFH := hid wf
  have x0 := cell_of (o := 0) wf.xb rfl
  have x1 := cell_of (o := 1) wf.xb rfl
  have x2 := cell_of (o := 2) wf.xb rfl
  have x3 := cell_of (o := 3) wf.xb rfl
  have r0 := cell_of (o := 0) rb rfl
  have r1 := cell_of (o := 1) rb rfl
  have r2 := cell_of (o := 2) rb rfl
  have r3 := cell_of (o := 3) rb rfl
  have rf := fun o => free_of (o := o) rb
  have rl := lt_of_get rb
  clear rb wf
  go_wp2
  have h4 := box4 (u1 := .slice ta tn tc) (u2 := .slice oa on oc) (u3 := .slice sa sn sc) (u4 := .slice na nn nc) RB.out
  have g0 := cell_of (o := 0) h4 rfl
  have g1 := cell_of (o := 1) h4 rfl
  have g2 := cell_of (o := 2) h4 rfl
  have g3 := cell_of (o := 3) h4 rfl
  exact bodyPost_ret (v := .agg #[.slice ta tn tc, .slice oa on oc, .slice sa sn sc, .slice na nn nc]) (by simp [results, Tryz.results11, go_sem, g0, g1, g2, g3]) rfl (WFH.out.fin RB.out (by omega))

end Go.Proofs.YtknoanpgadecbaaGreatDoor
