/- The draw of a coordinator: the walk. -/
import Derived.Test.YtknoanpgadecbaaGreatDoorQM7
import Derived.Deep.CutBlock
import Derived.Outline
set_option linter.unusedVariables false
set_option linter.unusedSimpArgs false
namespace Go.Proofs.YtknoanpgadecbaaGreatDoor
open Go.RowKit
set_option linter.unusedVariables false

theorem CS.start {B r p : Nat} {w : World} (hR : Rdr B w r p) :
  CS B r w (w.heap.size + 3) p (.slice (some ⟨w.heap.size + 1, 0, none⟩) 0 0) (.slice (some ⟨w.heap.size + 2, 0, none⟩) 0 0) ⟨[], []⟩
   ((((w.alloc (.cells #[.slice none 0 0, .slice none 0 0] 26)).alloc (.cells #[] 74)).alloc (.cells #[] 3)).alloc (.cells #[.slice (some ⟨w.heap.size + 1, 0, none⟩) 0 0, .slice (some ⟨w.heap.size + 2, 0, none⟩) 0 0] 26)) := by
 obtain ⟨W1, hW1⟩ : ∃ W1 : World, W1 = w.alloc (.cells #[.slice none 0 0, .slice none 0 0] 26) := ⟨_, rfl⟩
 obtain ⟨W2, hW2⟩ : ∃ W2 : World, W2 = W1.alloc (.cells #[] 74) := ⟨_, rfl⟩
 have s1 : W1.heap.size = w.heap.size + 1 := by rw [hW1]; simp
 have s2 : W2.heap.size = w.heap.size + 2 := by rw [hW2]; simp [s1]
 have f1 : Fr B [] w W1 := by rw [hW1]; exact (Fr.refl _ _ _).alloc _
 have f2 : Fr B [] W1 W2 := by rw [hW2]; exact (Fr.refl _ _ _).alloc _
 have b1 : W1.heap[w.heap.size]? = some (.cells #[.slice none 0 0, .slice none 0 0] 26 (0, 0)) := by rw [hW1]; exact heap_alloc_new _ _
 have o1 : W2.ownsRow w.heap.size 74 3 (.slice (some ⟨w.heap.size + 1, 0, none⟩) 0 0) 0 [] := by
  rw [hW2, ← s1]; exact World.ownsRow_made W1 #[] 0 (by omega) (by decide) (by simp)
 have o2 : (W2.alloc (.cells #[] 3)).ownsRow w.heap.size 3 1 (.slice (some ⟨w.heap.size + 2, 0, none⟩) 0 0) 0 [] := by
  rw [← s2]; exact World.ownsRow_made W2 #[] 0 (by omega) (by decide) (by simp)
 rw [← hW1, ← hW2]
 have fa : ∀ (V : World) (o : Obj), Fr B [] V (V.alloc o) := fun V o => (Fr.refl _ _ _).alloc o
 refine ⟨Nat.le_trans hR.1 (Nat.le_of_lt hR.lt), hR.lt, by omega, ?_, ?_, ⟨[], rfl, ?_, ?_, fun z hz => by cases hz⟩, CoI.nil, by simp, ⟨p, Nat.le_refl _, ?_⟩, ?_⟩
 ·exact heap_up (heap_up (f2.keep _ _ b1 (.inr (by simp))) _) _
 ·exact heap_alloc_eq _ _ (by simp [s2])
 ·exact ownsRow_grow (ownsRow_grow o1 (fa _ _)) (fa _ _)
 ·exact ownsRow_grow o2 (fa _ _)
 ·exact (((hR.keep f1 (by simp)).keep f2 (by simp)).alloc _).alloc _
 ·exact (((f1.nil (B' := B) (T := [86])).trans f2.nil).alloc _).alloc _

theorem vote_keep {B g o : Nat} {T : List Nat} {w w' : World} {u : Value} {cur : Array Value} {E : Nat} {f : Nat × Nat} (h : w.cell? ⟨g, o, none⟩ = some u) (hb : w.heap[g]? = some (.cells cur E f)) (hf : Fr B T w w') (hT : E ∉ T := by simp) : w'.cell? ⟨g, o, none⟩ = some u := by
 have := hf.keep _ _ hb (.inr hT)
 rw [World.cell?_of_block (w := w) (by rw [this, hb])]
 exact h

set_option maxRecDepth 20000 in
set_option maxHeartbeats 8000000 in
theorem l92Coordinator_any {B r p : Nat} {w : World} (hR : Rdr B w r p) (hp : p ≤ 999900000) :
  Calls Tryz.prog 35 #[.pointer (some ⟨r, 0, none⟩)] w (DrawC B r p w) := by
 have S0 := hid (CS.start hR)
 obtain ⟨i0, hi, hz0, hz1, hz2⟩ := info_parts infoI
 clear hR
 go_enter Tryz.func35, Tryz.ntmps35
 go_upto_if 16 with (first
  | (go_at_call 34; (with_reducible refine (S0.out.pick 24 (by omega)).mono ?_); go_must (rintro e w1 ⟨k1, rfl, hk1, s1, _⟩; have hk1' := pk_lt hk1 (by decide); have S1 := hid s1; clear s1))
  | (go_at_call 34; go_must (refine (S1.out.pick 10 (by omega)).mono ?_; rintro e w2 ⟨k2, rfl, hk2, s2, _⟩; have S2 := hid s2; clear s2)))
 go_cut [4] (fun v wx => ∃ (m : Nat), v = .int .i64 m ∧ m ≤ 50 ∧ CS B r w (w.heap.size + 3) (p + 2) (.slice (some ⟨w.heap.size + 1, 0, none⟩) 0 0) (.slice (some ⟨w.heap.size + 2, 0, none⟩) 0 0) ⟨[], []⟩ wx)
 case first =>
  go_wp2
  all_goals go_meet
  ·exact ⟨50, rfl, Nat.le_refl _, S2.out⟩
  ·exact ⟨k1, rfl, by omega, S2.out⟩
 case rest =>
  obtain ⟨m, rfl, hm, hs⟩ := hcut
  have S := hid hs
  clear hs S1 S2 S0
  obtain ⟨X, hX⟩ : ∃ X, X = w.heap.size + 3 := ⟨_, rfl⟩
  rw [← hX] at S ⊢
  clear hX
  go_wp2
  go_loopw [5] (fun i wr => ∃ (k : Nat) (v1 v2 : Value) (c : Co), k ≤ m ∧ i = .int .i64 k ∧ CS B r w X (p + 2 + 500 * k) v1 v2 c wr) (fun i _ => m - (intOf i).toNat)
  case atStart => exact ⟨0, _, _, _, by omega, rfl, S.out.more (by omega)⟩
  case round =>
   obtain ⟨k, v1, v2, c, hk, rfl, hs⟩ := hrel
   obtain ⟨ta, tcap, rfl, _, _⟩ := hs.own.reads.1.shape
   obtain ⟨oa, ocap, rfl, _, _⟩ := hs.own.reads.2.shape
   have b0 := cell_of (o := 0) hs.xb rfl
   have b1 := cell_of (o := 1) hs.xb rfl
   have bl := lt_of_get hs.xb
   have hsz := hs.fr.size
   have htl := hs.ci.2.1
   have C := hid hs
   clear hs S
   by_cases hlt : k < m
   ·have hki : (k : Int) < (m : Int) := by omega
    go_upto_block 2 with (first
     | (go_at_call 34; (with_reducible refine (CS.pick 5 C2.out (by omega)).mono ?_); go_must (rintro e w3 ⟨k3, rfl, hk3, s3, hf3⟩; have hk3' := pk_lt hk3 (by decide); have C3 := hid s3; have N3 := hid (hf3.keep _ _ N2.out (.inr (by simp [otag]))); clear s3 hf3))
     | (go_at_call 34; go_must (refine (CS.pick _ (C.out.grow ((Fr.refl 0 [] wr).alloc (.cells #[.slice ta c.txns.length tcap, .slice oa c.order.length ocap] 26))) (by omega)).mono ?_; rintro e w2 ⟨t, rfl, ht, s2, hf2⟩; have C2 := hid s2; have N2 := hid (hf2.keep _ _ (heap_alloc_new wr (.cells #[.slice ta c.txns.length tcap, .slice oa c.order.length ocap] 26)) (.inr (by simp [otag]))); clear s2 hf2)))
    have hXN : X < wr.heap.size := bl
    obtain ⟨N, hN⟩ : ∃ N, N = wr.heap.size := ⟨_, rfl⟩
    rw [← hN] at N3 hXN ⊢
    have O3 := hid C3.out.own
    clear C2 N2 ht bl b0 b1 hk3 hN
    generalize (if ((c.txns.length : Int) < 1) then (1 : Int) else (c.txns.length : Int)) = mx
    have b0 := cell_of (o := 0) C3.out.xb rfl
    have b1 := cell_of (o := 1) C3.out.xb rfl
    have bl := lt_of_get C3.out.xb
    have n0 := cell_of (o := 0) N3.out rfl
    have n1 := cell_of (o := 1) N3.out rfl
    have nf := fun o => free_of (o := o) N3.out
    have nl := lt_of_get N3.out
    go_cut [7] (fun v wx => v = .int .i64 t ∧ ∃ ua un ucap ob on obcap c', wx.heap[N]? = some (.cells #[.slice ua un ucap, .slice ob on obcap] 26 (0, 0)) ∧ CoOwn w.heap.size wx (.slice ua un ucap) (.slice ob on obcap) c' ∧ CoI c' ∧ CS B r w X (p + 2 + 500 * k + 400) (.slice ta c.txns.length tcap) (.slice oa c.order.length ocap) c wx)
    case first =>
     go_wp2_with (first
      | (go_at_call 34; go_must (refine (CS.pick 3 C3.out (by omega)).mono ?_; rintro e w4 ⟨k4, rfl, hk4, s4, hf4⟩; have C4 := hid s4; have N4 := hid (hf4.keep _ _ N3.out (.inr (by simp [otag]))); have c0 := cell_of (o := 0) s4.xb rfl; have c1 := cell_of (o := 1) s4.xb rfl; have cl := lt_of_get s4.xb; have m0 := cell_of (o := 0) N4.out rfl; have m1 := cell_of (o := 1) N4.out rfl; have mf := fun o => free_of (o := o) N4.out; have ml := lt_of_get N4.out; clear s4 hf4))
      | (go_at_call 74; go_must (refine (CS.timeout _ C4.out).mono ?_; rintro e w5 ⟨ua, un, ucap, ob, on, obcap, c', ok, rfl, own5, ci5, s5, hf5⟩; have C5 := hid s5; have OWN5 := hid own5; have CI5 := hid ci5; have N5 := hid (hf5.keep _ _ N4.out (.inr (by simp [otag]))); clear own5 ci5 s5 hf5 c0 c1 cl m0 m1 mf ml; have mf := fun o => free_of (o := o) N5.out; have ml := lt_of_get N5.out; have m0 := cell_of (o := 0) N5.out rfl; have m1 := cell_of (o := 1) N5.out rfl)))
     ·have CD := C3.out.grow (Fr.refl 0 [] w3).drew
      first
      | go_region_held3 (fun x => x.cell? ⟨X, 0, none⟩ = some (.slice ta c.txns.length tcap) ∧ x.cell? ⟨X, 1, none⟩ = some (.slice oa c.order.length ocap))
       (first
        | exact ⟨b0, b1⟩
        | exact ⟨e0, e1⟩
        | exact ⟨f0, f1⟩
        | exact ⟨cell_setne f0 (by dsimp only; omega), cell_setne f1 (by dsimp only; omega)⟩
        | exact ⟨cell_setne (cell_setne f0 (by dsimp only; omega)) (by dsimp only; omega), cell_setne (cell_setne f1 (by dsimp only; omega)) (by dsimp only; omega)⟩
        | fail)
       (first
        | (go_at_call 73; go_must (refine (CS.parts CD (by omega)).mono ?_; rintro e w4 ⟨vp, ps, rfl, hps, hpl, hpu, s4, hf4⟩; obtain ⟨pa, pcap, rfl, _, _⟩ := hps.shape; have HPS := hid hps; have HPU := hid hpu; have C4 := hid s4; have N4 := hid (hf4.keep _ _ ((Fr.refl 0 [] w3).drew.keep _ _ N3.out (.inr (by simp))) (.inr (by simp [otag]))); have e0 := cell_of (o := 0) s4.xb rfl; have e1 := cell_of (o := 1) s4.xb rfl; clear hps hpu s4 hf4))
        | (go_at_call 72; go_must (refine (CS.begin C4.out HPS.out hpl HPU.out).mono ?_; rintro e w7 ⟨ua, un, ucap, ob, on, obcap, c', ok, rfl, own7, ci7, s7, hf7⟩; have C7 := hid s7; have OWN7 := hid own7; have CI7 := hid ci7; have N7 := hid (hf7.keep _ _ N4.out (.inr (by simp [otag]))); have f0 := cell_of (o := 0) s7.xb rfl; have f1 := cell_of (o := 1) s7.xb rfl; have m0 := cell_of (o := 0) N7.out rfl; have m1 := cell_of (o := 1) N7.out rfl; have mf := fun o => free_of (o := o) N7.out; have ml := lt_of_get N7.out; clear own7 ci7 s7 hf7)))
      | fail
      all_goals go_wp2
      all_goals go_meet
      exact ⟨rfl, _, _, _, _, _, _, c', box2 N7.out, OWN7.out.tk (box2_fr N7.out) (by simp) (by simp) (by simp) (by simp), CI7.out, ((C7.out.setN hXN N7.out 0 _).setN hXN (block_set N7.out 0 _) 1 _).more (by omega)⟩
     ·go_meet
      exact ⟨rfl, _, _, _, _, _, _, c', box2 N5.out, OWN5.out.tk (box2_fr N5.out) (by simp) (by simp) (by simp) (by simp), CI5.out, ((C5.out.setN hXN N5.out 0 _).setN hXN (block_set N5.out 0 _) 1 _).more (by omega)⟩
     ·go_meet
      exact ⟨rfl, _, _, _, _, _, _, c, N4.out, C4.out.own, C4.out.ci, C4.out.more (by omega)⟩
     ·have CD := C3.out.grow (Fr.refl 0 [] w3).drew
      first
      | go_region_held3 (fun x => x.cell? ⟨X, 0, none⟩ = some (.slice ta c.txns.length tcap) ∧ x.cell? ⟨X, 1, none⟩ = some (.slice oa c.order.length ocap))
       (first
        | exact ⟨b0, b1⟩
        | exact ⟨e0, e1⟩
        | exact ⟨f0, f1⟩
        | exact ⟨cell_setne f0 (by dsimp only; omega), cell_setne f1 (by dsimp only; omega)⟩
        | exact ⟨cell_setne (cell_setne f0 (by dsimp only; omega)) (by dsimp only; omega), cell_setne (cell_setne f1 (by dsimp only; omega)) (by dsimp only; omega)⟩
        | fail)
       (first
        | (go_at_call 34; (with_reducible refine (CS.pick 3 CD (by omega)).mono ?_); go_must (rintro e w4 ⟨k4, rfl, hk4, s4, hf4⟩; have hk4' := pk_lt hk4 (by decide); have C4 := hid s4; have N4 := hid (hf4.keep _ _ ((Fr.refl 0 [] w3).drew.keep _ _ N3.out (.inr (by simp))) (.inr (by simp [otag]))); have e0 := cell_of (o := 0) s4.xb rfl; have e1 := cell_of (o := 1) s4.xb rfl; clear s4 hf4))
        | (go_at_call 34; go_must (refine (CS.pick 6 C4.out (by omega)).mono ?_; rintro e w5 ⟨k5, rfl, hk5, s5, hf5⟩; have hk5' := pk_lt hk5 (by decide); have C5 := hid s5; have N5 := hid (hf5.keep _ _ N4.out (.inr (by simp [otag]))); have e0 := cell_of (o := 0) s5.xb rfl; have e1 := cell_of (o := 1) s5.xb rfl; clear s5 hf5))
        | (go_at_call 75; go_must (refine (CS.vote _ _ _ C5.out).mono ?_; rintro e w7 ⟨ua, un, ucap, ob, on, obcap, c', ok, rfl, own7, ci7, s7, hf7⟩; have C7 := hid s7; have OWN7 := hid own7; have CI7 := hid ci7; have N7 := hid (hf7.keep _ _ N5.out (.inr (by simp [otag]))); have f0 := cell_of (o := 0) s7.xb rfl; have f1 := cell_of (o := 1) s7.xb rfl; have m0 := cell_of (o := 0) N7.out rfl; have m1 := cell_of (o := 1) N7.out rfl; have mf := fun o => free_of (o := o) N7.out; have ml := lt_of_get N7.out; clear own7 ci7 s7 hf7)))
      | fail
      all_goals go_wp2
      all_goals go_meet
      exact ⟨rfl, _, _, _, _, _, _, c', box2 N7.out, OWN7.out.tk (box2_fr N7.out) (by simp) (by simp) (by simp) (by simp), CI7.out, ((C7.out.setN hXN N7.out 0 _).setN hXN (block_set N7.out 0 _) 1 _).more (by omega)⟩
    case rest =>
     obtain ⟨rfl, ua, un, ucap, ob, on, obcap, c', nb, own, ci, cs⟩ := hcut
     have OWN := hid own
     have CI := hid ci
     have CC := hid cs
     have NB := hid nb
     clear own ci b0 b1 bl n0 n1 nf nl N3 C3 O3 C
     have n0 := cell_of (o := 0) nb rfl
     have n1 := cell_of (o := 1) nb rfl
     have nl := lt_of_get nb
     clear nb cs
     go_wp2_with (go_at_call 18; go_must (refine (CS.valid CC.out OWN.out CI.out).mono ?_; rintro e w8 ⟨ok, rfl, hok, s8, own8, hf8⟩; have HOK := hid hok; clear hok; have C8 := hid s8; have OWN8 := hid own8; have N8 := hid (hf8.keep _ _ NB.out (.inr (by simp [otag]))); have m0 := cell_of (o := 0) N8.out rfl; have m1 := cell_of (o := 1) N8.out rfl; have ml := lt_of_get N8.out; have x0 := cell_of (o := 0) s8.xb rfl; have x1 := cell_of (o := 1) s8.xb rfl; have xf := fun o => free_of (o := o) s8.xb; have xl := lt_of_get s8.xb; clear s8 own8 hf8))
     ·go_roundw
      case rel => exact ⟨k + 1, _, _, c', by omega, by go_num, (C8.out.setX OWN8.out CI.out (HOK.out (by assumption))).more (by omega)⟩
      case measure => simp [intOf]; omega
     ·go_roundw
      case rel => exact ⟨k + 1, _, _, c, by omega, by go_num, C8.out.more (by omega)⟩
      case measure => simp [intOf]; omega
   ·obtain rfl : k = m := by omega
    by_cases h0 : c.txns.length = 0
    ·have RB := hid C.out.rb
     have r0 := cell_of (o := 0) RB.out rfl
     have r1 := cell_of (o := 1) RB.out rfl
     have rf := fun o => free_of (o := o) RB.out
     have rl := lt_of_get RB.out
     have hq : ((c.txns.length : Int) == 0) = true := by simp [h0]
     clear h0
     go_wp2
     have h4 := box2 (u1 := .slice ta c.txns.length tcap) (u2 := .slice oa c.order.length ocap) RB.out
     have g0 := cell_of (o := 0) h4 rfl
     have g1 := cell_of (o := 1) h4 rfl
     exact bodyPost_ret (v := .agg #[.slice ta c.txns.length tcap, .slice oa c.order.length ocap]) (by simp [results, Tryz.results35, go_sem, g0, g1]) rfl (C.out.cf.fin (by omega))
    ·have hq : ((c.txns.length : Int) == 0) = false := by simpa using h0
     have hnp : 0 < c.txns.length := by omega
     clear h0
     go_upto_block 3 with (first
      | (go_at_call 34; (with_reducible refine (CS.pick 20 C2.out (by omega)).mono ?_); go_must (rintro e w3 ⟨k3, rfl, hk3, s3, hf3⟩; have hk3' := pk_lt hk3 (by decide); have C3 := hid s3; clear s3 hf3))
      | (go_at_call 34; go_must (refine (CS.pick _ C.out (by omega)).mono ?_; rintro e w2 ⟨t, rfl, ht, s2, hf2⟩; have HT := hid ht; have C2 := hid s2; clear ht s2 hf2)))
     have ht := HT.out
     have htl2 : t < c.txns.length := by omega
     have hti : (t : Int) < (c.txns.length : Int) := by omega
     obtain ⟨csr, hcsr⟩ := own_row C3.out.own.txns
     obtain ⟨g, gcap, hge, _, _, _⟩ := own_shape hcsr hnp
     cases hge
     obtain ⟨q0, q1, q2, q3, _, cg, q4⟩ := txnsM_cell C3.out.own.txns htl2
     obtain ⟨va, vcap, p0, p1⟩ := vote_cell0 C3.out.own.txns htl2
     have G4 := hid q4
     have PV := hid p1
     have hXr := C3.out.hX
     have XB := hid C3.out.xb
     have neg := ne_tag q4 XB.out (by decide)
     have ngr := ne_tag q4 C3.out.rb (by decide)
     clear hcsr q4 p1 b0 b1 bl hq ht C C2 HT
     have b0 := cell_of (o := 0) XB.out rfl
     have b1 := cell_of (o := 1) XB.out rfl
     have xf := fun o => free_of (o := o) XB.out
     have bl := lt_of_get XB.out
     go_cut [8] (fun v wx => ∃ a n ca b m cb c', CF B r w X (p + 2 + 500 * k + 10) (.slice a n ca) (.slice b m cb) c' wx)
     case first =>
      go_wp2_with ((at_builtin; go_must (refine wpList_push rfl (.tmp 89) (.tmp 91) 24 rfl w.heap.size 3 i0 (.int .i64 0) 1 8 Tryz.underlying24 hi hz0 hz1 hz2 rfl (by decide) _ _ _ C3.out.own.order rfl (oneCell_int _) (by unfold maxLen; have := C3.out.ol; omega) (by have := C3.out.ol; omega) (C3.out.fr.size) (by rfl) _ (by rfl) (by simp [World.setCell]) ?_; intro u4 w4 hown4 hfr4 hg4)); go_must (obtain ⟨g4, cap4, rfl, _, _, _⟩ := own_shape hown4 (by omega); have HO4 := hid hown4; have HG4 := hid hg4; have HF4 := hid hfr4; have X4 := hid (hfr4.keep _ _ XB.out (.inr (by simp [otag]))); have x4 := fun o => free_of (o := o) X4.out; have y4 := cell_of (o := 1) X4.out rfl; have yl := lt_of_get X4.out; clear hown4 hfr4 hg4))
      ·have CD := C3.out.grow (Fr.refl 0 [] w3).drew
       first
       | go_region_held3 (fun x => x.cell? ⟨X, 0, none⟩ = some (.slice (some ⟨g, 0, none⟩) c.txns.length tcap))
        (first
         | exact b0
         | exact e0
         | exact cell_setne e0 (fun e => neg e.symm)
         | fail)
        (first
         | (go_at_call 34; go_must (refine (CS.pick 5 CD (by omega)).mono ?_; rintro e w4 ⟨k4, rfl, hk4, s4, hf4⟩; have C4 := hid s4; have e0 := cell_of (o := 0) s4.xb rfl; obtain ⟨z0, z1, z2, z3, _, cz, z4⟩ := txnsM_cell s4.own.txns htl2; clear s4 hf4 z4)))
       | fail
       all_goals go_wp2
       all_goals go_meet
       exact ⟨_, _, _, _, _, _, _, (C4.out.spoilD htl2 _).more (by omega)⟩
      ·go_meet
       exact ⟨_, _, _, _, _, _, _, (C3.out.spoilO HG4.out.1 HF4.out (by unfold OwnV; simpa using HO4.out)).more (by omega)⟩
      ·have hvl : 0 < c.txns[t].votes.length := by omega
       obtain ⟨vg, vc, hve, _, _⟩ := own_shape PV.out hvl
       cases hve
       have CD := C3.out.grow (Fr.refl 0 [] w3).drew
       obtain ⟨y0, y1, y2, y3, cv, y4⟩ := PV.out.cell hvl
       have hvg := lt_of_get y4
       have nvX := ne_tag y4 XB.out (by decide)
       have nvg := ne_tag y4 G4.out (by decide)
       have Y4 := hid y4
       clear y4
       first
       | go_region_held3 (fun x => x.cell? ⟨X, 0, none⟩ = some (.slice (some ⟨g, 0, none⟩) c.txns.length tcap) ∧ x.cell? ⟨g, t * 3 + 1, none⟩ = some (.slice (some ⟨vg, 0, none⟩) c.txns[t].votes.length vcap))
        (first
         | exact ⟨b0, p0⟩
         | exact e0
         | exact ⟨cell_setne e0.1 (fun e => nvX e.symm), cell_setne e0.2 (fun e => nvg e.symm)⟩
         | fail)
        (first
         | (go_at_call 34; go_must (refine (CS.pick 4 CD (by omega)).mono ?_; rintro e w4 ⟨k4, rfl, hk4, s4, hf4⟩; have hk4' := pk_lt hk4 (by decide); have C4 := hid s4; have PV4 := hid ((PV.out.grow (Fr.refl 0 [] w3).drew).tk hf4 (by simp)); have e0 := (⟨cell_of (o := 0) s4.xb rfl, (vote_keep p0 G4.out ((Fr.refl B [86] w3).drew.trans hf4))⟩ : (w4.cell? ⟨X, 0, none⟩ = some (.slice (some ⟨g, 0, none⟩) c.txns.length tcap) ∧ w4.cell? ⟨g, t * 3 + 1, none⟩ = some (.slice (some ⟨vg, 0, none⟩) c.txns[t].votes.length vcap))); obtain ⟨z0, z1, z2, z3, cz, z4⟩ := PV4.out.cell hvl; clear s4 hf4 z4)))
       | fail
       all_goals go_wp2
       all_goals go_meet
       obtain ⟨c', cf, _, _⟩ := C4.out.spoilV (j := 0) PV4.out hvl (IntKind.i64.wrap ((k4 : Int) - 2)) (by rw [IntKind.wrap_i64]; omega)
       exact ⟨_, _, _, _, _, _, c', cf.more (by omega)⟩
      all_goals
       go_meet
       exact ⟨_, _, _, _, _, _, c, C3.out.cf.more (by omega)⟩
     case rest =>
      obtain ⟨a, n, ca, b, m', cb, c', cf⟩ := hcut
      have RB := hid cf.rb
      have r0 := cell_of (o := 0) RB.out rfl
      have r1 := cell_of (o := 1) RB.out rfl
      have rf := fun o => free_of (o := o) RB.out
      have rl := lt_of_get RB.out
      have x0 := cell_of (o := 0) cf.xb rfl
      have x1 := cell_of (o := 1) cf.xb rfl
      have CFH := hid cf
      clear cf b0 b1 xf bl p0 q0 q1
      go_wp2
      have h4 := box2 (u1 := .slice a n ca) (u2 := .slice b m' cb) RB.out
      have g0 := cell_of (o := 0) h4 rfl
      have g1 := cell_of (o := 1) h4 rfl
      exact bodyPost_ret (v := .agg #[.slice a n ca, .slice b m' cb]) (by simp [results, Tryz.results35, go_sem, g0, g1]) rfl (CFH.out.fin (by omega))

end Go.Proofs.YtknoanpgadecbaaGreatDoor
