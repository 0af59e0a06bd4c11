/- The draw of a shard. -/
import Derived.Test.YtknoanpgadecbaaGreatDoorQM4
import Derived.Test.YtknoanpgadecbaaGreatDoorQHModel
import Derived.Deep.RegionLaw
import Derived.Deep.AppendLies
set_option linter.unusedVariables false
set_option linter.unusedSimpArgs false
namespace Go.Proofs.YtknoanpgadecbaaGreatDoor
open Go.RowKit
set_option linter.unusedVariables false

def Few (n : Nat) (rs : List Rc) : Prop := rs.length ≤ n ∧ ∀ r ∈ rs, r.ups.length ≤ 8

theorem Few.small {n : Nat} {rs : List Rc} (h : Few n rs) (hn : n ≤ 1000000000) : Small rs := ⟨by have := h.1; omega, fun r hr => by have := h.2 r hr; omega⟩

theorem Few.prep {rs : List Rc} {t : Int} {us : List Upd} (h : Few 30 rs) (hu : us.length ≤ 8) : Few 31 (prep rs t us).1 := by
 have hs : ∀ r : Rc, r.ups.length ≤ 8 → Few 31 (rs ++ [r]) := fun r hr => ⟨by have := h.1; simp; omega, fun x hx => by
  rcases List.mem_append.1 hx with hx | hx
  ·exact h.2 x hx
  ·simp at hx; subst hx; exact hr⟩
 have h31 : Few 31 rs := ⟨by have := h.1; omega, h.2⟩
 unfold Proofs.YtknoanpgadecbaaGreatDoor.prep
 split
 ·exact ⟨by simp, fun r hr => by simp at hr⟩
 ·split
  ·exact h31
  ·split
   ·exact hs _ hu
   ·show Few 31 (if valid (rs ++ [⟨3, t, []⟩]) then rs ++ [⟨3, t, []⟩] else rs)
    split
    ·exact hs _ (by simp)
    ·exact h31

theorem Few.dec {rs : List Rc} {t : Int} {c : Bool} (h : Few 30 rs) : Few 31 (dec rs t c).1 := by
 have hs : ∀ r : Rc, r.ups.length ≤ 8 → Few 31 (rs ++ [r]) := fun r hr => ⟨by have := h.1; simp; omega, fun x hx => by
  rcases List.mem_append.1 hx with hx | hx
  ·exact h.2 x hx
  ·simp at hx; subst hx; exact hr⟩
 have h31 : Few 31 rs := ⟨by have := h.1; omega, h.2⟩
 cases c
 all_goals
  unfold Proofs.YtknoanpgadecbaaGreatDoor.dec
  simp only [Bool.false_eq_true, if_false, if_true]
  split
  ·exact ⟨by simp, fun r hr => by simp at hr⟩
  ·split
   ·exact h31
   ·split
    ·exact hs _ (by simp)
    ·exact h31

theorem Few.valid {n : Nat} {rs : List Rc} (h : Few n rs) (hv : valid rs = true) : Few 30 rs := ⟨valid_len hv, h.2⟩

theorem RecsR.nilAt (K : Nat → Bool → Prop) (w : World) (a : Option Addr) : RecsR K w (.slice a 0 0) [] :=
 ⟨[], rfl, ⟨a, 0, rfl, by simp, Nat.le_refl _, fun _ => ⟨rfl, rfl⟩, fun h => absurd h (Nat.lt_irrefl _)⟩, fun _ h => by cases h⟩

theorem RecsR.tail {K : Nat → Bool → Prop} {w : World} {a : Option Addr} {n cap : Nat} {rs : List Rc} (h : RecsR K w (.slice a n cap) rs) (hn : n = rs.length) (h0 : 0 < rs.length) :
  RecsR K w (.slice (a.map (fun x => { block := x.block, off := x.off + 3 })) (n - 1) (cap - 1)) rs.tail := by
 subst hn
 obtain ⟨zs, h1, ⟨a', cap', h2, h3, h4, h5, h6⟩, h7⟩ := h
 cases h2
 subst h1
 match zs, h0 with
 | z :: zs, _ =>
  obtain ⟨b, off, cur, e, fr, rfl, g1, g2, g3⟩ := h6 (by simp)
  refine ⟨zs, rfl, ⟨some ⟨b, off + 3, none⟩, cap - 1, by simp, ?_, by simp at h4 ⊢; omega, by simp, fun hp => ⟨b, off + 3, cur, e, fr, rfl, g1, g2, fun j u hj => ?_⟩⟩, fun x hx => h7 x (List.mem_cons_of_mem _ hx)⟩
  ·simp [fm_length encR 3 (fun _ => rfl)]
  ·have := g3 (3 + j) u (by
    rw [List.flatMap_cons, List.getElem?_append_right (by simp [encR])]
    simpa [encR] using hj)
   rwa [Nat.add_assoc]

theorem NC_tail' {rs : List Rc} (h : valid rs = true) : NC rs.tail := by
 cases rs with
 | nil => exact NC_of_valid h
 | cons r0 rs =>
  obtain ⟨s, hs⟩ := valid_rec h
  exact NC_tail hs

def DrawS (B r p : Nat) (w : World) (e : Ending) (w' : World) : Prop :=
 ∃ (v : Value) (rs : List Rc) (q : Nat), e = .returned (.agg #[v]) ∧ RecsR (new w.heap.size) w' v rs ∧ Few 40 rs ∧ NC rs ∧ Rdr B w' r q ∧ q ≤ p + 4000 ∧ Fr B [86] w w'

set_option maxRecDepth 20000 in
set_option maxHeartbeats 4000000 in
theorem l92Shard_any {B r p : Nat} {w : World} (hR : Rdr B w r p) (hp : p ≤ 999990000) :
  Calls Tryz.prog 36 #[.pointer (some ⟨r, 0, none⟩)] w (DrawS B r p w) := by
 obtain ⟨ir, hri, hrz0, hrz1, hrz2⟩ := info_parts infoR
 have hB : B ≤ w.heap.size := Nat.le_trans hR.1 (Nat.le_of_lt hR.lt)
 have HR0 := hid hR
 go_enter Tryz.func36, Tryz.ntmps36
 go_upto_if 16 with (first
  | (go_at_call 34; (with_reducible refine (pick_at (n := 16) (((HR0.out.alloc _).alloc _).alloc _) (by omega)).mono ?_); go_must (rintro e w1 ⟨k1, rfl, hk1, hR1, hf1⟩; have hk1' : (k1 : Int) < 16 := (by omega); have F1 := ((((Fr.refl B [86] w).alloc (.cells #[.slice none 0 0] 81)).alloc (.cells #[] 94)).alloc (.cells #[.slice (some ⟨w.heap.size + 1, 0, none⟩) 0 0] 81)).trans hf1))
  | (go_at_call 34; (with_reducible refine (pick_at (n := 10) hR1 (by omega)).mono ?_); go_must (rintro e w2 ⟨k2, rfl, hk2, hR2, hf2⟩)))
 go_cut [4] (fun v wx => ∃ (m q : Nat), v = .int .i64 m ∧ m ≤ 40 ∧ wx.heap[w.heap.size]? = some (.cells #[.slice none 0 0] 81 (0, 0)) ∧
   wx.heap[w.heap.size + 1 + 1]? = some (.cells #[.slice (some ⟨w.heap.size + 1, 0, none⟩) 0 0] 81 (0, 0)) ∧ RecsOwn w.heap.size wx (.slice (some ⟨w.heap.size + 1, 0, none⟩) 0 0) [] ∧ Rdr B wx r q ∧ q ≤ p + 2 ∧ Fr B [86] w wx)
 case first =>
  have FB := ((hf1.trans hf2))
  have B0 := hid (FB.keep _ _ (heap_up (heap_up (heap_alloc_new w (.cells #[.slice none 0 0] 81)) (.cells #[] 94)) (.cells #[.slice (some ⟨w.heap.size + 1, 0, none⟩) 0 0] 81)) (.inr (by simp [otag])))
  have B1 := hid (FB.keep _ _ (heap_alloc_eq ((w.alloc (.cells #[.slice none 0 0] 81)).alloc (.cells #[] 94)) (.cells #[.slice (some ⟨w.heap.size + 1, 0, none⟩) 0 0] 81) (n := w.heap.size + 1 + 1) (by simp)) (.inr (by simp [otag])))
  have OWN := hid ((((RecsOwn.empty (w := w.alloc (.cells #[.slice none 0 0] 81)) (n := w.heap.size + 1) (by simp)).lower (lo' := w.heap.size) (by omega)).grow ((Fr.refl 0 [] _).alloc (.cells #[.slice (some ⟨w.heap.size + 1, 0, none⟩) 0 0] 81))).keep FB (by simp) (by simp))
  have F2 := F1.trans hf2
  clear FB
  go_wp2
  all_goals go_meet
  ·exact ⟨40, _, rfl, Nat.le_refl _, B0.out, B1.out, OWN.out, hR2, by omega, F2⟩
  ·exact ⟨k1, _, rfl, by omega, B0.out, B1.out, OWN.out, hR2, by omega, F2⟩
 case rest =>
  obtain ⟨m, q, rfl, hm, b0, b1, hown, hR2, hq, hfr⟩ := hcut
  have B0 := hid b0
  have B1 := hid b1
  have OWN := hid hown
  clear b0 b1 hown hR
  go_wp2
  go_loopw [5] (fun i wr => ∃ (k : Nat) (v : Value) (rs : List Rc) (q : Nat), k ≤ m ∧ i = .int .i64 k ∧ wr.heap[w.heap.size]? = some (.cells #[.slice none 0 0] 81 (0, 0)) ∧
    wr.heap[w.heap.size + 1 + 1]? = some (.cells #[v] 81 (0, 0)) ∧ RecsOwn w.heap.size wr v rs ∧ (Few 30 rs ∧ valid rs = true) ∧ Rdr B wr r q ∧ q ≤ p + 2 + 60 * k ∧ Fr B [86] w wr) (fun i _ => m - (intOf i).toNat)
  case atStart => exact ⟨0, _, [], q, Nat.zero_le _, rfl, B0.out, B1.out, OWN.out, ⟨⟨by simp, fun r hr => by cases hr⟩, rfl⟩, hR2, by omega, hfr⟩
  case round =>
   obtain ⟨k, v, rs, q, hk, rfl, b0, b1, hown, hfew, hR, hq, hfr⟩ := hrel
   have B0 := hid b0
   have B1 := hid b1
   have OWN := hid hown
   have FEW := hid hfew.1
   have VLD := hid hfew.2
   have hsz := hfr.size
   obtain ⟨va, vcap, rfl, _, _⟩ := hown.reads.shape
   have c0 := cell_of (o := 0) b1 rfl
   have c1 := free_of (o := 0) b1
   clear b0 b1 hown hfew
   by_cases hlt : k < m
   ·go_upto_if 32 with (first
     | (go_at_call 76; go_must (refine (l21Recover_any (new w.heap.size) _ rs _ OWN.out.reads (FEW.out.small (by omega)).1 (FEW.out.small (by omega)).2).mono ?_; rintro e w1 ⟨x1, x2, s, rfl, r1, r2, l1, l2, hx, fr1⟩; obtain ⟨xa, xcap, rfl, _, _⟩ := r1.shape; obtain ⟨ya, ycap, rfl, _, _⟩ := r2.shape; rw [l1] at r1; rw [l1, l2]; have R1 := hid r1; have RD1 := hid (hR.keep (fr1.nil (B' := B) (T := [])) (by simp)); have hs1 := fr1.size; clear r1 r2 hx))
     | (go_at_call 34; (with_reducible refine (pick_at (n := 12) (RD1.out.alloc _) (by omega)).mono ?_); go_must (rintro e w2 ⟨k2, rfl, hk2, hR2, hf2⟩; have hk2' : (k2 : Int) < 12 := (by omega)))
     | (go_at_call 34; (with_reducible refine (pick_at (n := 2) hR2 (by omega)).mono ?_); go_must (rintro e w3 ⟨k3, rfl, hk3, hR3, hf3⟩)))
    have FXA : Fr wr.heap.size [] wr (w1.alloc (.cells #[.slice xa 4 xcap, .slice ya 4 ycap] 133)) := (fr1.alloc (.cells #[.slice xa 4 xcap, .slice ya 4 ycap] 133))
    have HXB := hid (heap_alloc_new w1 (.cells #[.slice xa 4 xcap, .slice ya 4 ycap] 133))
    have FRX := hid (R1.out.grow ((Fr.refl 0 [] w1).alloc (.cells #[.slice xa 4 xcap, .slice ya 4 ycap] 133)))
    have hs1' : wr.heap.size ≤ (w1.alloc (.cells #[.slice xa 4 xcap, .slice ya 4 ycap] 133)).heap.size := FXA.size
    have F3 := hf2.trans hf3
    clear RD1 R1
    revert FXA HXB FRX hs1' F3
    generalize w1.alloc (.cells #[.slice xa 4 xcap, .slice ya 4 ycap] 133) = W1 at *
    intro FXA HXB FRX hs1' F3
    go_cut [8] (fun v wx => ∃ (t : Int) (q' : Nat), v = .int .i64 t ∧ Rdr B wx r q' ∧ q' ≤ q + 3 ∧ Fr B [86] W1 wx)
    case first =>
     have hk2t : q + 1 + 1 ≤ q + 3 := by omega
     go_wp2_with (go_at_call 34; go_must (refine (pick_at (n := 4) hR3 (by omega)).mono ?_; rintro e w4 ⟨k4, rfl, hk4, hR4, hf4⟩))
     all_goals go_meet
     ·exact ⟨k4, _, rfl, hR4, by omega, F3.trans hf4⟩
     ·exact ⟨k2, _, rfl, hR3, by omega, F3⟩
    case rest =>
     obtain ⟨t, q', rfl, hRc, hqc, hfc⟩ := hcut
     clear hR2 hR3 hf2 hf3 F3
     obtain ⟨W2, rfl⟩ : ∃ W : World, W = wc := ⟨_, rfl⟩
     have FC := hid ((FXA.nil (B' := B) (T := [86])).trans hfc)
     have C0 := hid (FC.out.keep _ _ B0.out (.inr (by simp [otag])))
     have C1 := hid (FC.out.keep _ _ B1.out (.inr (by simp [otag])))
     have CX := hid (hfc.keep _ _ HXB.out (.inr (by simp [otag])))
     have OWNC := hid (OWN.out.keep FC.out (by simp) (by simp))
     have RXC := hid (FRX.out.keep hfc (Safe.new (by simp)))
     have d0 := cell_of (o := 0) C1.out rfl
     have hsc := FC.out.size
     have hc1 := lt_of_get C1.out
     have hcx := lt_of_get CX.out
     have hrc := hRc.lt
     clear HXB FRX
     go_upto_if 38 with (go_at_call 34; go_must (refine (pick_at (n := 2) (hRc.alloc _) (by omega)).mono ?_; rintro e w5 ⟨k5, rfl, hk5, hR5, hf5⟩; have F5 := ((Fr.refl B [86] W2).alloc (.cells #[.slice va rs.length vcap] 81)).trans hf5; have N5 := hid (hf5.keep _ _ (heap_alloc_new W2 (.cells #[.slice va rs.length vcap] 81)) (.inr (by simp [otag]))); have S5 := hid (F5.keep _ _ C1.out (.inr (by simp [otag]))); have X5 := hid (F5.keep _ _ CX.out (.inr (by simp [otag]))); have OWN5 := hid (OWNC.out.keep F5 (by simp) (by simp)); have RX5 := hid (RXC.out.keep F5 (Safe.new (by simp))); have hs5 := F5.size; have e0 := cell_of (o := 0) S5.out rfl; have e1 := cell_of (o := 0) X5.out rfl; have e2 := cell_of (o := 0) N5.out rfl; have e3 := free_of (o := 0) N5.out; have hn5 := lt_of_get N5.out; have hx5 := lt_of_get X5.out; have hs5' := lt_of_get S5.out))
     go_cut [8] (fun _ wx => ∃ (v' : Value) (rs' : List Rc) (q6 : Nat), wx.heap[W2.heap.size]? = some (.cells #[v'] 81 (0, 0)) ∧ RecsOwn w.heap.size wx v' rs' ∧ Few 31 rs' ∧ Rdr B wx r q6 ∧ q6 ≤ q + 50 ∧ Fr B [86] W2 wx)
     case first =>
      go_wp2
      ·have F5d := F5.drew
       go_region_held3 (fun x => x.cell? ⟨w.heap.size + 1 + 1, 0, none⟩ = some (.slice va rs.length vcap) ∧ x.cell? ⟨w1.heap.size, 0, none⟩ = some (.slice xa 4 xcap) ∧ Fr B [86] W2 x)
        (first
         | exact ⟨e0, e1, F5d⟩
         | exact ⟨g0, g1, F6⟩
         | exact ⟨h0, h1, F7⟩
         | exact ⟨cell_setne h0 (by dsimp only; omega), cell_setne h1 (by dsimp only; omega), F7.setNew (by dsimp only; omega) _⟩
         | fail)
        (first
         | (go_at_call 78; go_must (refine (l92Updates_any (lo := wr.heap.size) (refs := s.refs) (hR5.keep ((Fr.refl B [] w5).drew) (by simp)) (by omega) (RX5.out.keep ((Fr.refl 0 [] w5).drew) (Safe.new (by simp))) (by rw [l1]; omega)).mono ?_; rintro e w6 ⟨vu, us, q6, rfl, ru, hul, hR6, hq6, hf6⟩; have RU := hid ru; have F6 := F5d.trans hf6; have fw := (Fr.refl B [86] w5).drew.trans hf6; have OWN6 := hid (OWN5.out.keep fw (by simp) (by simp)); have S6 := hid (fw.keep _ _ S5.out (.inr (by simp [otag]))); have X6 := hid (fw.keep _ _ X5.out (.inr (by simp [otag]))); have N6 := hid (fw.keep _ _ N5.out (.inr (by simp [otag]))); have g0 := cell_of (o := 0) S6.out rfl; have g1 := cell_of (o := 0) X6.out rfl; have hs6 := fw.size; clear ru fw))
         | (go_at_call 77; go_must (refine (specShardPrepare_any (new w.heap.size) _ _ _ rs t us _ OWN6.out.reads (FEW.out.small (by omega)) RU.out (by omega)).mono ?_; rintro e w7 ⟨v7, rfl, own7, fr7⟩; obtain ⟨a7, cap7, rfl, _, _⟩ := own7.reads.shape; have OWN7 := hid own7; have F7 := F6.trans (fr7.nil (B' := B) (T := [86])); have hR7 := hR6.keep (fr7.nil (B' := B) (T := [])) (by simp); have N7 := hid (fr7.keep _ _ N6.out (.inr (by simp))); have h0 := cell_of (o := 0) (fr7.keep _ _ S6.out (.inr (by simp))) rfl; have h1 := cell_of (o := 0) (fr7.keep _ _ X6.out (.inr (by simp))) rfl; have h2 := cell_of (o := 0) N7.out rfl; have h3 := free_of (o := 0) N7.out; have hs7 := fr7.size; clear own7 fr7)))
       go_wp2
       go_meet
       have FT := ((Fr.refl 0 [81] w7).setOld (p := ⟨W2.heap.size, 0, none⟩) N7.out (Nat.zero_le _) (by simp [otag]) (.slice a7 (prep rs t us).1.length cap7))
       exact ⟨_, (prep rs t us).1, _, block_set N7.out 0 _, (OWN7.out.lower (by omega)).keep FT (by simp) (by simp), FEW.out.prep hul, hR7.setAbove (by dsimp only; omega), by omega, F7.setNew (by dsimp only; omega) _⟩
      ·have F5d := F5.drew
       go_region_held3 (fun x => x.cell? ⟨w.heap.size + 1 + 1, 0, none⟩ = some (.slice va rs.length vcap) ∧ Fr B [86] W2 x)
        (first
         | exact ⟨e0, F5d⟩
         | exact ⟨g0, F6⟩
         | exact ⟨h0, F7⟩
         | exact ⟨cell_setne h0 (by dsimp only; omega), F7.setNew (by dsimp only; omega) _⟩
         | fail)
        (first
         | (go_at_call 34; go_must (refine (pick_at (n := 3) (hR5.keep ((Fr.refl B [] w5).drew) (by simp)) (by omega)).mono ?_; rintro e w6 ⟨k6, rfl, hk6, hR6, hf6⟩; have F6 := F5d.trans hf6; have fw := (Fr.refl B [86] w5).drew.trans hf6; have OWN6 := hid (OWN5.out.keep fw (by simp) (by simp)); have S6 := hid (fw.keep _ _ S5.out (.inr (by simp [otag]))); have N6 := hid (fw.keep _ _ N5.out (.inr (by simp [otag]))); have g0 := cell_of (o := 0) S6.out rfl; have hs6 := fw.size; clear fw))
         | (go_at_call 79; go_must (refine (specShardDecide_any (new w.heap.size) _ rs t _ _ OWN6.out.reads (FEW.out.small (by omega))).mono ?_; rintro e w7 ⟨v7, rfl, own7, fr7⟩; generalize hD : dec rs t _ = D at own7 ⊢; have hDf : Few 31 D.1 := hD ▸ FEW.out.dec; have HDF := hid hDf; clear hD hDf; obtain ⟨a7, cap7, rfl, _, _⟩ := own7.reads.shape; have OWN7 := hid own7; have F7 := F6.trans (fr7.nil (B' := B) (T := [86])); have hR7 := hR6.keep (fr7.nil (B' := B) (T := [])) (by simp); have N7 := hid (fr7.keep _ _ N6.out (.inr (by simp))); have h0 := cell_of (o := 0) (fr7.keep _ _ S6.out (.inr (by simp))) rfl; have h2 := cell_of (o := 0) N7.out rfl; have h3 := free_of (o := 0) N7.out; have hs7 := fr7.size; clear own7 fr7)))
       go_wp2
       go_meet
       have FT := ((Fr.refl 0 [81] w7).setOld (p := ⟨W2.heap.size, 0, none⟩) N7.out (Nat.zero_le _) (by simp [otag]) (.slice a7 D.1.length cap7))
       exact ⟨_, D.1, _, block_set N7.out 0 _, (OWN7.out.lower (by omega)).keep FT (by simp) (by simp), HDF.out, hR7.setAbove (by dsimp only; omega), by omega, F7.setNew (by dsimp only; omega) _⟩
     case rest =>
      obtain ⟨v', rs', q6, b6, own6, few6, hR6, hq6, hf6⟩ := hcut
      obtain ⟨a6, cap6, rfl, _, _⟩ := own6.reads.shape
      have N6 := hid b6
      have OWN6 := hid own6
      have FEW6 := hid few6
      have c6 := cell_of (o := 0) b6 rfl
      have S6 := hid (hf6.keep _ _ C1.out (.inr (by simp [otag])))
      have R6 := hid (hf6.keep _ _ C0.out (.inr (by simp [otag])))
      have OWNS := hid (OWNC.out.keep hf6 (by simp) (by simp))
      have FW6 := hfr.trans (FC.out.trans hf6)
      clear b6 own6 few6 d0 c0 c1
      go_wp2_with (go_at_call 48; go_must (refine (specShardValid_any (new w.heap.size) _ rs' _ OWN6.out.reads (FEW6.out.small (by omega))).mono ?_; rintro e w7 ⟨rfl, fr7⟩; have FW7 := FW6.trans (fr7.nil (B' := B) (T := [86])); have hR7 := hR6.keep (fr7.nil (B' := B) (T := [])) (by simp); have N7 := hid (fr7.keep _ _ N6.out (.inr (by simp))); have S7 := hid (fr7.keep _ _ S6.out (.inr (by simp))); have R7 := hid (fr7.keep _ _ R6.out (.inr (by simp))); have OWN7 := hid (OWN6.out.grow fr7); have OWNS7 := hid (OWNS.out.grow fr7); have i0 := cell_of (o := 0) N7.out rfl; have i1 := cell_of (o := 0) S7.out rfl; have i2 := free_of (o := 0) S7.out; clear fr7))
      ·have hv7 : valid rs' = true := by assumption
       go_roundw
       case rel =>
        have FT := ((Fr.refl 0 [81] w7).setOld (p := ⟨w.heap.size + 1 + 1, 0, none⟩) S7.out (Nat.zero_le _) (by simp [otag]) (.slice a6 rs'.length cap6))
        exact ⟨k + 1, _, rs', _, by omega, by go_num, block_setne R7.out (by dsimp only; omega), block_set S7.out 0 _, OWN7.out.keep FT (by simp) (by simp), ⟨FEW6.out.valid hv7, hv7⟩, hR7.setAbove (by have := HR0.out.lt; dsimp only; omega), by omega, FW7.setNew (by dsimp only; omega) _⟩
       case measure => simp [intOf]; omega
      ·go_roundw
       case rel => exact ⟨k + 1, _, rs, _, by omega, by go_num, R7.out, S7.out, OWNS7.out, ⟨FEW.out, VLD.out⟩, hR7, by omega, FW7⟩
       case measure => simp [intOf]; omega
   ·obtain rfl : k = m := by omega
    have hl30 := FEW.out.1
    go_upto_if 32 with (go_at_call 34; (with_reducible refine (pick_at (n := 16) hR (by omega)).mono ?_); go_must (rintro e w1 ⟨k1, rfl, hk1, hR1, hf1⟩; have D0 := hid (hf1.keep _ _ B0.out (.inr (by simp [otag]))); have D1 := hid (hf1.keep _ _ B1.out (.inr (by simp [otag]))); have OWN1 := hid (OWN.out.keep hf1 (by simp) (by simp)); have F1 := hfr.trans hf1; have d0 := cell_of (o := 0) D0.out rfl; have d1 := cell_of (o := 0) D1.out rfl; have e0 := fun o => free_of (o := o) D0.out; have e1 := fun o => free_of (o := o) D1.out; clear c0 c1))
    all_goals
     have FEW40 : Few 40 rs := ⟨by have := FEW.out.1; omega, FEW.out.2⟩
     have hlt1 := lt_of_get D1.out
     have NCT := hid (NC_tail' VLD.out)
     have fin1 : ∀ (V : Value) (rs' : List Rc), RecsR (new w.heap.size) w1 V rs' → Few 40 rs' → NC rs' → DrawS B r p w (.returned (.agg #[V])) (w1.setCell ⟨w.heap.size, 0, none⟩ V) := fun V rs' h1 h2 h3 => by
      have FT : Fr B [81] w1 (w1.setCell ⟨w.heap.size, 0, none⟩ V) := (Fr.refl B [81] w1).setOld (p := ⟨w.heap.size, 0, none⟩) D0.out (by dsimp only; omega) (by simp [otag]) V
      exact ⟨V, rs', _, rfl, h1.keep FT (Safe.new (by simp)) (Safe.new (by simp)), h2, h3, hR1.keep FT (by simp), by omega, F1.setNew (Nat.le_refl _) _⟩
     have fin2 : ∀ (V : Value) (rs' : List Rc), RecsR (new w.heap.size) w1 V rs' → Few 40 rs' → NC rs' → DrawS B r p w (.returned (.agg #[V])) ((w1.setCell ⟨w.heap.size + 1 + 1, 0, none⟩ V).setCell ⟨w.heap.size, 0, none⟩ V) := fun V rs' h1 h2 h3 => by
      have FT : Fr B [81] w1 ((w1.setCell ⟨w.heap.size + 1 + 1, 0, none⟩ V).setCell ⟨w.heap.size, 0, none⟩ V) := ((Fr.refl B [81] w1).setOld (p := ⟨w.heap.size + 1 + 1, 0, none⟩) D1.out (by dsimp only; omega) (by simp [otag]) V).trans ((Fr.refl B [81] _).setOld (p := ⟨w.heap.size, 0, none⟩) (block_setne D0.out (by dsimp only; omega)) (by dsimp only; omega) (by simp [otag]) V)
      exact ⟨V, rs', _, rfl, h1.keep FT (Safe.new (by simp)) (Safe.new (by simp)), h2, h3, hR1.keep FT (by simp), by omega, (F1.setNew (p := ⟨w.heap.size + 1 + 1, 0, none⟩) (by dsimp only; omega) _).setNew (Nat.le_refl _) _⟩
    ·have RD := hid (hR1.keep (Fr.refl B [] w1).drew (by simp))
     obtain ⟨zs, z1, z2, z3⟩ := OWN1.out
     have Z2 := hid z2
     have Z3 := hid z3
     have hsz1 := F1.size
     clear z2 z3 fin1 fin2 OWN HR0 B0 B1
     have d1d : w1.drew.cell? ⟨w.heap.size + 1 + 1, 0, none⟩ = some (.slice va rs.length vcap) := d1
     first
     | go_region_law
      (first
       | (go_simp; go_at_call 34; (with_reducible refine (pick_at (n := 5) RD.out (by omega)).mono ?_); go_must (rintro e w2 ⟨k2, rfl, hk2, hR2, hf2⟩; have G2 := hid (hf2.keep _ _ D1.out (.inr (by simp [otag]))); have U2 := hid (hf2.keep _ _ D0.out (.inr (by simp [otag]))); have p1 := cell_of (o := 0) G2.out rfl; have p2 := free_of (o := 0) G2.out; have p3 : w.heap.size ≤ w2.heap.size := Nat.le_trans hsz1 hf2.size); (try go_wp2_with fail))
       | (go_simp; go_at_call 34; (with_reducible refine (pick_at (n := 13) hR2 (by omega)).mono ?_); go_must (rintro e w3 ⟨k3, rfl, hk3, hR3, hf3⟩; have G3 := hid (hf3.keep _ _ G2.out (.inr (by simp [otag]))); have U3 := hid (hf3.keep _ _ U2.out (.inr (by simp [otag]))); have p1 := cell_of (o := 0) G3.out rfl; have p2 := free_of (o := 0) G3.out; have p3 : w.heap.size ≤ w3.heap.size := Nat.le_trans (Nat.le_trans hsz1 hf2.size) hf3.size; have p4 := cell_alloc (o := .cells #[.int .i64 k2, .int .i64 k3, .slice none 0 0] 94) p1); (try go_wp2_with fail))
       | (refine step_append_lies _ (by rfl) _ _ _ (by rfl) w.heap.size 94 ir _ 3 40 Tryz.underlying79 hri hrz0 hrz1 hrz2 rfl (by omega) (.slice va rs.length vcap) rs.length (zs.flatMap encR) (by rfl) (ownsRow_keep Z2.out (((Fr.refl B _ w1).drew.trans hf2).trans hf3 |>.alloc _) (by simp)) ⟨w3.heap.size, 0, none⟩ 1 1 [.int .i64 k2, .int .i64 k3, .slice none 0 0] (by rfl) (by rfl) (World.news_of_block (cs := #[.int .i64 k2, .int .i64 k3, .slice none 0 0]) (heap_alloc_new w3 _)) (by simp [Value.oneCell']) (by omega) (show rs.length + 1 ≤ maxLen from Nat.le_trans (show rs.length + 1 ≤ 31 by omega) (by decide)) (by omega) (by have := hf2.size; have := hf3.size; have h4 : (w3.alloc (.cells #[.int .i64 k2, .int .i64 k3, .slice none 0 0] 94)).heap.size = w3.heap.size + 1 := (by simp); have h5 : w1.drew.heap.size = w1.heap.size := rfl; omega) (w3.heap.size + 1) (by simp) ?_; intro gg cap4 w4 own4 hgrow hat hlt4; have F4 : Fr w.heap.size [94] (w3.alloc (.cells #[.int .i64 k2, .int .i64 k3, .slice none 0 0] 94)) w4 := Fr.ofOwnGrown (sz := 3) (ownsRow_keep Z2.out (((Fr.refl B _ w1).drew.trans hf2).trans hf3 |>.alloc _) (by simp)) hgrow (Nat.le_refl _) (by simp); have G4 := hid (F4.keep _ _ (heap_up G3.out _) (.inr (by simp [otag]))); have U4 := hid (F4.keep _ _ (heap_up U3.out _) (.inr (by simp [otag]))); have r0 := cell_of (o := 0) U4.out rfl; have r1 := free_of (o := 0) U4.out; have r2 := lt_of_get U4.out; have r3 := lt_of_get G4.out; have F4H := hid F4; have q1 := cell_of (o := 0) G4.out rfl; have q2 := free_of (o := 0) G4.out; have OWN4 := hid own4; have q3 : w.heap.size ≤ w4.heap.size := Nat.le_trans (Nat.le_trans p3 (by simp)) F4.size; clear own4 p1 p2 p3))
     | fail
     all_goals go_wp2
     all_goals
      have FA : Fr B [86] w1 (w3.alloc (.cells #[.int .i64 k2, .int .i64 k3, .slice none 0 0] 94)) := (((Fr.refl B [86] w1).drew.trans hf2).trans hf3).alloc _
      have OWNF := RecsOwn.snoc (lo := w.heap.size) (r := ⟨k2, k3, []⟩) z1 (fun z hz => ((Z3.out z hz).keep FA (Safe.new (by simp))).keep F4H.out (Safe.new (by simp))) (SlR.nil _ _ _ _) rfl OWN4.out
      have FT : Fr B [81] w4 ((w4.setCell ⟨w.heap.size + 1 + 1, 0, none⟩ (.slice (some ⟨gg, 0, none⟩) (rs.length + 1) cap4)).setCell ⟨w.heap.size, 0, none⟩ (.slice (some ⟨gg, 0, none⟩) (rs.length + 1) cap4)) := ((Fr.refl B [81] w4).setOld (p := ⟨w.heap.size + 1 + 1, 0, none⟩) G4.out (by dsimp only; omega) (by simp [otag]) _).trans ((Fr.refl B [81] _).setOld (p := ⟨w.heap.size, 0, none⟩) (block_setne U4.out (by dsimp only; omega)) (by dsimp only; omega) (by simp [otag]) _)
      have g := cell_of (o := 0) (block_set (block_setne (p := ⟨w.heap.size + 1 + 1, 0, none⟩) (u := .slice (some ⟨gg, 0, none⟩) (rs.length + 1) cap4) U4.out (by dsimp only; omega)) 0 (.slice (some ⟨gg, 0, none⟩) (rs.length + 1) cap4)) rfl
      exact bodyPost_ret (v := .agg #[.slice (some ⟨gg, 0, none⟩) (rs.length + 1) cap4]) (by simp [results, Tryz.results36, go_sem, g]) rfl
       ⟨_, rs ++ [⟨k2, k3, []⟩], _, rfl, OWNF.reads.keep FT (Safe.new (by simp)) (Safe.new (by simp)), ⟨by simp; omega, fun x hx => by
        rcases List.mem_append.1 hx with hx | hx
        ·exact FEW40.2 x hx
        ·simp at hx; subst hx; simp⟩, (NC_of_valid VLD.out).snoc (fun _ _ => NoLock.of_nil rfl), ((hR3.alloc _).keep (F4H.out.mono hB (fun _ h => h)) (by simp)).keep FT (by simp), by omega, (((F1.trans FA).after F4H.out).setNew (p := ⟨w.heap.size + 1 + 1, 0, none⟩) (by dsimp only; omega) _).setNew (Nat.le_refl _) _⟩
    ·have hv1 : RecsR (new w.heap.size) w1 (.slice va (rs.length - 1) 0) rs.tail := by
      have hlen : rs.length = 1 := by omega
      have hrs : rs.tail = [] := by rw [← List.length_eq_zero_iff]; simp; omega
      rw [hlen, hrs]
      exact RecsR.nilAt _ _ _
     have g := cell_of (o := 0) (block_set (block_setne (p := ⟨w.heap.size + 1 + 1, 0, none⟩) (u := .slice va (rs.length - 1) 0) D0.out (by dsimp only; omega)) 0 (.slice va (rs.length - 1) 0)) rfl
     exact bodyPost_ret (v := .agg #[.slice va (rs.length - 1) 0]) (by simp [results, Tryz.results36, go_sem, g]) rfl (fin2 _ _ hv1 ⟨by have := FEW40.1; simp; omega, fun x hx => FEW40.2 x (List.mem_of_mem_tail hx)⟩ NCT.out)
    ·have hv1 := OWN1.out.reads.tail rfl (by omega)
     have g := cell_of (o := 0) (block_set (block_setne (p := ⟨w.heap.size + 1 + 1, 0, none⟩) (u := .slice (va.map (fun x => { block := x.block, off := x.off + 3 })) (rs.length - 1) (vcap - 1)) D0.out (by dsimp only; omega)) 0 (.slice (va.map (fun x => { block := x.block, off := x.off + 3 })) (rs.length - 1) (vcap - 1))) rfl
     exact bodyPost_ret (v := .agg #[.slice (va.map (fun x => { block := x.block, off := x.off + 3 })) (rs.length - 1) (vcap - 1)]) (by simp [results, Tryz.results36, go_sem, g]) rfl (fin2 _ _ hv1 ⟨by have := FEW40.1; simp; omega, fun x hx => FEW40.2 x (List.mem_of_mem_tail hx)⟩ NCT.out)
    all_goals
     have g := cell_of (o := 0) (block_set D0.out 0 (.slice va rs.length vcap)) rfl
     exact bodyPost_ret (v := .agg #[.slice va rs.length vcap]) (by simp [results, Tryz.results36, go_sem, g]) rfl (fin1 _ _ OWN1.out.reads FEW40 (NC_of_valid VLD.out))

end Go.Proofs.YtknoanpgadecbaaGreatDoor
