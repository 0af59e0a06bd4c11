/- The draw of updates. -/
import Derived.Test.YtknoanpgadecbaaGreatDoorQM3
import Derived.Deep.DeepCutAuto
set_option linter.unusedVariables false
set_option linter.unusedSimpArgs false
namespace Go.Proofs.YtknoanpgadecbaaGreatDoor
open Go.RowKit
set_option linter.unusedVariables false

theorem Rdr.setAbove {B r p : Nat} {w : World} {q : Addr} {u : Value} (h : Rdr B w r p) (hb : r < q.block) : Rdr B (w.setCell q u) r p := by
 obtain ⟨h0, a, len, cap, h1, h2, h3⟩ := h
 refine ⟨h0, a, len, cap, block_setne h1 (Nat.ne_of_lt hb), h2, fun hl => ?_⟩
 obtain ⟨b, off, g1, g2, g3⟩ := h3 hl
 refine ⟨b, off, g1, g2, fun i hi => ?_⟩
 obtain ⟨c, hc, hcc⟩ := g3 i hi
 exact ⟨c, hc, cell_setne hcc (by omega)⟩

theorem oneU3 (x y z : Int) : ∀ u ∈ [Value.int .i64 x, .int .i64 y, .int .i64 z], u.oneCell' = true := by
 intro u hu
 simp at hu
 rcases hu with rfl | rfl | rfl <;> rfl

theorem ups_snoc {lo n : Nat} {w : World} {v : Value} {us : List Upd} {x y z : Int} (hn : n = us.length) (h : w.ownsRow lo 97 3 v (n + 1) (us.flatMap encU ++ [.int .i64 x, .int .i64 y, .int .i64 z])) :
  w.ownsRow lo 97 3 v (us ++ [(⟨x, y, z⟩ : Upd)]).length ((us ++ [(⟨x, y, z⟩ : Upd)]).flatMap encU) := by
 subst hn
 simpa [encU] using h

theorem IntsR.at {K : Nat → Bool → Prop} {w : World} {b off n cap : Nat} {l : List Int} (h : IntsR K w (.slice (some ⟨b, off, none⟩) n cap) l) {i : Nat} (hi : i < l.length) : w.cell? ⟨b, off + i, none⟩ = some (.int .i64 l[i]) := by
 obtain ⟨b', off', cap', h1, h2, h3, h4, h5⟩ := SlR.cells h (by omega)
 simp only [Value.slice.injEq, Option.some.injEq, Addr.mk.injEq] at h1
 obtain ⟨⟨rfl, rfl, _⟩, _, rfl⟩ := h1
 exact h5 i _ (by rw [List.getElem?_map, List.getElem?_eq_getElem hi]; rfl)

theorem idx_cell {K : Nat → Bool → Prop} {w : World} {a : Option Addr} {n cap : Nat} {l : List Int} (h : IntsR K w (.slice a n cap) l) (i : Nat) : i < l.length → ∃ b off, a = some ⟨b, off, none⟩ ∧ w.cell? ⟨b, off + i, none⟩ = some (.int .i64 (l.getD i 0)) := by
 intro hi
 obtain ⟨b', off', cap', h1, h2, h3, h4, h5⟩ := SlR.cells h (by omega)
 simp only [Value.slice.injEq] at h1
 obtain ⟨rfl, _, _⟩ := h1
 exact ⟨b', off', rfl, h5 i _ (by rw [List.getElem?_map, List.getElem?_eq_getElem hi]; simp [List.getElem?_eq_getElem hi])⟩

theorem ups_cell {lo g cap : Nat} {w : World} {us : List Upd} (h : w.ownsRow lo 97 3 (.slice (some ⟨g, 0, none⟩) us.length cap) us.length (us.flatMap encU)) {k : Nat} (hk : k < us.length) :
  ∃ v, w.cell? ⟨g, k * 3, none⟩ = some v := by
 refine ⟨.int .i64 us[k].ref, ?_⟩
 rw [h.cellAt (k * 3) (by omega)]
 have := fmU us k 0 (by omega) hk
 simpa [encU] using this

theorem ups_cell2 {lo g cap : Nat} {w : World} {us : List Upd} (h : w.ownsRow lo 97 3 (.slice (some ⟨g, 0, none⟩) us.length cap) us.length (us.flatMap encU)) {k : Nat} (hk : k < us.length) :
  ∃ v, w.cell? ⟨g, k * 3 + 2, none⟩ = some v := by
 refine ⟨.int .i64 us[k].new, ?_⟩
 rw [h.cellAt (k * 3 + 2) (by omega)]
 have := fmU us k 2 (by omega) hk
 simpa [encU] using this

theorem fmU_set0 (us : List Upd) {k : Nat} (hk : k < us.length) (x : Int) : (us.flatMap encU).set (k * 3) (.int .i64 x) = (us.set k { us[k] with ref := x }).flatMap encU := by
 induction us generalizing k with
 | nil => simp at hk
 | cons u us ih =>
  cases k with
  | zero => simp [encU]
  | succ k =>
   have h3 : (k + 1) * 3 = k * 3 + 1 + 1 + 1 := by omega
   rw [h3]
   have := ih (k := k) (by simpa using hk)
   simp [encU] at this ⊢
   exact this

theorem fmU_set2 (us : List Upd) {k : Nat} (hk : k < us.length) (x : Int) : (us.flatMap encU).set (k * 3 + 2) (.int .i64 x) = (us.set k { us[k] with new := x }).flatMap encU := by
 induction us generalizing k with
 | nil => simp at hk
 | cons u us ih =>
  cases k with
  | zero => simp [encU]
  | succ k =>
   have h3 : (k + 1) * 3 + 2 = k * 3 + 2 + 1 + 1 + 1 := by omega
   rw [h3]
   have := ih (k := k) (by simpa using hk)
   simp [encU] at this ⊢
   exact this

def DrawU (B r p : Nat) (w : World) (e : Ending) (w' : World) : Prop :=
 ∃ (v : Value) (us : List Upd) (q : Nat), e = .returned v ∧ UpsR (new w.heap.size) w' v us ∧ us.length ≤ 8 ∧ Rdr B w' r q ∧ q ≤ p + 40 ∧ Fr B [86] w w'

set_option maxRecDepth 20000 in
set_option maxHeartbeats 4000000 in
theorem l92Updates_any {B r p lo : Nat} {w : World} {vr : Value} {refs : List Int} (hR : Rdr B w r p) (hp : p ≤ 999999900) (hr : IntsR (new lo) w vr refs) (hrl : refs.length ≤ 1000000000) :
  Calls Tryz.prog 78 #[.pointer (some ⟨r, 0, none⟩), vr] w (DrawU B r p w) := by
 obtain ⟨ra, rcap, rfl, hrcap, -⟩ := hr.shape
 obtain ⟨iu, hui, huz0, huz1, huz2⟩ := info_parts infoU
 have HRF := hid hr
 have HR0 := hid hR
 have hB : B ≤ w.heap.size := Nat.le_trans hR.1 (Nat.le_of_lt hR.lt)
 clear hr hR
 go_enter Tryz.func78, Tryz.ntmps78
 go_wp2
 go_loopw [5, 6] (fun v i wr => ∃ (k q : Nat) (us : List Upd), k ≤ 4 ∧ i = .int .i64 k ∧ wr.ownsRow w.heap.size 97 3 v us.length (us.flatMap encU) ∧ us.length ≤ k ∧ Rdr B wr r q ∧ q ≤ p + 4 * k ∧ Fr B [86] w wr) (fun _ i _ => 4 - (intOf i).toNat)
 case atStart => exact ⟨0, p, [], by omega, rfl, World.ownsRow_made w #[] 0 (Nat.le_refl _) (by decide) (by simp), Nat.le_refl _, HR0.out.alloc _, by omega, (Fr.refl _ _ _).alloc _⟩
 case round =>
  obtain ⟨k, q, us, hk, rfl, hown, hus, hR, hq, hfr⟩ := hrel
  have OWN := hid hown
  have hsz := hfr.size
  clear hown
  by_cases hlt : k < 4
  ·have hRr := HRF.out.keep hfr (Safe.new (by simp))
   obtain ⟨ra', rcap', hrv, _, hcell⟩ := hRr.shape
   cases hrv
   by_cases hkl : k < refs.length
   ·rcases hcell with rfl | ⟨rb, roff, rfl, hrb, hcell⟩
    ·simp at hkl
    ·have hck := hcell k hkl
     have hkl' : (k : Int) < (refs.length : Int) := by omega
     have HRr := hid hRr
     clear hcell hRr
     go_wp2_with (first
      | (go_at_call 34; (with_reducible refine (pick_at (n := 3) hR (by omega)).mono ?_); go_must (rintro e w1 ⟨k1, rfl, hk1, hR1, hf1⟩))
      | (go_at_call 34; (with_reducible refine (pick_at (n := 4) hR1 (by omega)).mono ?_); go_must (rintro e w2 ⟨k2, rfl, hk2, hR2, hf2⟩; have hk2' : (k2 : Int) < 4 := (by omega)))
      | (go_at_call 34; (with_reducible refine (pick_at (n := 6) hR2 (by omega)).mono ?_); go_must (rintro e w3 ⟨k3, rfl, hk3, hR3, hf3⟩; have hk3' : (k3 : Int) < 6 := (by omega); have FX3 := (hf1.trans hf2).trans hf3; have hs3 := FX3.size; have hr3 := hR3.lt))
      | (go_at_call 34; go_must (refine (pick_at (n := 6) (hR3.alloc _) (by omega)).mono ?_; rintro e w4 ⟨k4, rfl, hk4, hR4, hf4⟩; have FX4 := (FX3.alloc _).trans hf4; have hbx := hf4.keep _ _ (heap_alloc_new w3 (.cells #[.int .i64 k, .int .i64 ((k2 : Int) - 1), .int .i64 ((k3 : Int) - 1)] 97)) (.inr (by simp [otag])); have b1 := cell_of (o := 0) hbx rfl; have b2 := cell_of (o := 1) hbx rfl; have b3 := cell_of (o := 2) hbx rfl; have b4 := free_of (o := 1) hbx; have b5 := free_of (o := 2) hbx; have hbl := lt_of_get hbx; have ck4 := (HRr.out.keep FX4 (Safe.new (by simp))).at hkl))
      | ((at_builtin; refine wpList_push rfl (.tmp 48) (.tmp 50) 52 rfl w.heap.size 97 iu (.agg #[.int .i64 0, .int .i64 0, .int .i64 0]) 3 24 Tryz.underlying52 hui huz0 huz1 huz2 rfl (by decide) _ _ _ (ownsRow_keep OWN.out (by first | exact FX3.alloc _ | exact FX4 | exact FX4.setNew hs3 _ | exact (FX4.setNew hs3 _).setNew hs3 _) (by simp)) rfl (oneU3 _ _ _) (by unfold maxLen; omega) (by omega) (by first | (simp [World.setCell]; omega) | omega) (by rfl) _ (by rfl) (by simp [World.setCell]) ?_; intro v5 w5 own5 fr5 _)))
     all_goals go_roundw
     all_goals first
      | (case measure => simp [intOf]; omega)
      | skip
     all_goals first
      | exact ⟨k + 1, _, us, by omega, by go_num, ownsRow_keep OWN.out hf1 (by simp), by omega, hR1, by omega, hfr.trans hf1⟩
      | exact ⟨k + 1, _, us ++ [⟨_, _, _⟩], by omega, by go_num, ups_snoc rfl own5, by simp; omega, Rdr.keep (by first | exact hR4 | exact hR4.setAbove hr3 | exact (hR4.setAbove hr3).setAbove hr3) (fr5.mono hB (fun _ h => h)) (by simp), by omega, Fr.after (hfr.trans (by first | exact FX4 | exact FX4.setNew hs3 _ | exact (FX4.setNew hs3 _).setNew hs3 _)) fr5⟩
      | exact ⟨k + 1, _, us ++ [⟨_, _, _⟩], by omega, by go_num, ups_snoc rfl own5, by simp; omega, Rdr.keep (hR3.alloc _) (fr5.mono hB (fun _ h => h)) (by simp), by omega, Fr.after (hfr.trans (FX3.alloc _)) fr5⟩
   ·have hkl' : ¬ (k : Int) < (refs.length : Int) := by omega
    have hkd : decide ((k : Int) < (refs.length : Int)) = false := by simp; omega
    clear hcell hRr
    go_wp2_with (first
     | (go_at_call 34; (with_reducible refine (pick_at (n := 3) hR (by omega)).mono ?_); go_must (rintro e w1 ⟨k1, rfl, hk1, hR1, hf1⟩))
     | (go_at_call 34; (with_reducible refine (pick_at (n := 4) hR1 (by omega)).mono ?_); go_must (rintro e w2 ⟨k2, rfl, hk2, hR2, hf2⟩; have hk2' : (k2 : Int) < 4 := (by omega)))
     | (go_at_call 34; (with_reducible refine (pick_at (n := 6) hR2 (by omega)).mono ?_); go_must (rintro e w3 ⟨k3, rfl, hk3, hR3, hf3⟩; have hk3' : (k3 : Int) < 6 := (by omega); have FX3 := (hf1.trans hf2).trans hf3; have hs3 := FX3.size; have hr3 := hR3.lt))
     | (go_at_call 34; go_must (refine (pick_at (n := 6) (hR3.alloc _) (by omega)).mono ?_; rintro e w4 ⟨k4, rfl, hk4, hR4, hf4⟩; have FX4 := (FX3.alloc _).trans hf4; have hbx := hf4.keep _ _ (heap_alloc_new w3 (.cells #[.int .i64 k, .int .i64 ((k2 : Int) - 1), .int .i64 ((k3 : Int) - 1)] 97)) (.inr (by simp [otag])); have b1 := cell_of (o := 0) hbx rfl; have b2 := cell_of (o := 1) hbx rfl; have b3 := cell_of (o := 2) hbx rfl; have b4 := free_of (o := 1) hbx; have b5 := free_of (o := 2) hbx; have hbl := lt_of_get hbx; have ck4 := (HRr.out.keep FX4 (Safe.new (by simp))).at hkl))
     | ((at_builtin; refine wpList_push rfl (.tmp 48) (.tmp 50) 52 rfl w.heap.size 97 iu (.agg #[.int .i64 0, .int .i64 0, .int .i64 0]) 3 24 Tryz.underlying52 hui huz0 huz1 huz2 rfl (by decide) _ _ _ (ownsRow_keep OWN.out (by first | exact FX3.alloc _ | exact FX4 | exact FX4.setNew hs3 _ | exact (FX4.setNew hs3 _).setNew hs3 _) (by simp)) rfl (oneU3 _ _ _) (by unfold maxLen; omega) (by omega) (by first | (simp [World.setCell]; omega) | omega) (by rfl) _ (by rfl) (by simp [World.setCell]) ?_; intro v5 w5 own5 fr5 _)))
    all_goals go_roundw
    all_goals first
     | (case measure => simp [intOf]; omega)
     | skip
    all_goals first
     | exact ⟨k + 1, _, us, by omega, by go_num, ownsRow_keep OWN.out hf1 (by simp), by omega, hR1, by omega, hfr.trans hf1⟩
     | exact ⟨k + 1, _, us ++ [⟨_, _, _⟩], by omega, by go_num, ups_snoc rfl own5, by simp; omega, Rdr.keep (by first | exact hR4 | exact hR4.setAbove hr3 | exact (hR4.setAbove hr3).setAbove hr3) (fr5.mono hB (fun _ h => h)) (by simp), by omega, Fr.after (hfr.trans (by first | exact FX4 | exact FX4.setNew hs3 _ | exact (FX4.setNew hs3 _).setNew hs3 _)) fr5⟩
     | exact ⟨k + 1, _, us ++ [⟨_, _, _⟩], by omega, by go_num, ups_snoc rfl own5, by simp; omega, Rdr.keep (hR3.alloc _) (fr5.mono hB (fun _ h => h)) (by simp), by omega, Fr.after (hfr.trans (FX3.alloc _)) fr5⟩
  ·obtain rfl : k = 4 := by omega
   obtain ⟨oa, ocap, rfl⟩ := own_any OWN.out
   go_upto_if 54 with fail
   go_cut [5] (fun v wx => ∃ (us : List Upd) (q : Nat), wx.ownsRow w.heap.size 97 3 v us.length (us.flatMap encU) ∧ 0 < us.length ∧ us.length ≤ 5 ∧ Rdr B wx r q ∧ q ≤ p + 20 ∧ Fr B [86] w wx)
   case first =>
    have hRr := HRF.out.keep hfr (Safe.new (by simp))
    by_cases hu0 : us.length = 0
    ·have hul : us = [] := List.eq_nil_of_length_eq_zero hu0
     subst hul
     obtain ⟨ra', rcap', hrv, _, hcell⟩ := hRr.shape
     cases hrv
     clear hRr hu0
     rcases hcell with rfl | ⟨rb, roff, rfl, hrb, -⟩
     all_goals go_wp2_with (first
      | (go_at_call 34; go_must (refine (pick_at (n := 4) hR (by omega)).mono ?_; rintro e w1 ⟨k1, rfl, hk1, hR1, hf1⟩; have hk1' : (k1 : Int) < 4 := (by omega); have hs1 := hf1.size; try (have hcw := fun h : k1 < refs.length => (HRF.out.keep (hfr.trans hf1) (Safe.new (by simp))).at h)))
      | (at_builtin; refine wpList_push rfl (.tmp 65) (.tmp 69) 52 rfl w.heap.size 97 iu (.agg #[.int .i64 0, .int .i64 0, .int .i64 0]) 3 24 Tryz.underlying52 hui huz0 huz1 huz2 rfl (by decide) _ _ _ (ownsRow_keep OWN.out hf1 (by simp)) rfl (oneU3 _ _ _) (by unfold maxLen; simp) (by simp) (by omega) (by rfl) _ (by rfl) (by simp [World.setCell]) ?_; intro v5 w5 own5 fr5 _))
     all_goals go_meet
     all_goals exact ⟨[⟨_, _, _⟩], _, ups_snoc (us := []) rfl own5, by simp, by simp, hR1.keep (fr5.mono hB (fun _ h => h)) (by simp), by omega, (hfr.trans hf1).after fr5⟩
    ·have hu1 : (((us.length : Nat) : Int) == 0) = false := by rw [beq_eq_false_iff_ne]; omega
     have hq20 : q ≤ p + 20 := by omega
     have hu5 : us.length ≤ 5 := by omega
     have hu00 : 0 < us.length := by omega
     go_wp2
     go_meet
     exact ⟨us, q, OWN.out, hu00, hu5, hR, hq20, hfr⟩
   case rest =>
    obtain ⟨us, q, hown, hu0, hu5, hR, hq, hfr⟩ := hcut
    obtain ⟨g, gcap, rfl, hg1, hg2, hg3⟩ := own_shape hown hu0
    have OWN := hid hown
    have hsz := hfr.size
    clear hown
    go_wp2_with (first
     | (go_at_call 34; (with_reducible refine (pick_at (n := 30) hR (by omega)).mono ?_); go_must (rintro e w1 ⟨k1, rfl, hk1, hR1, hf1⟩; have OWN1 := hid (ownsRow_keep OWN.out hf1 (by simp)); have hs1 := hf1.size))
     | (go_at_call 34; (with_reducible refine (pick_at (n := 6) hR2 (by omega)).mono ?_); go_must (rintro e w3 ⟨k3, rfl, hk3, hR3, hf3⟩; have hk3' : (k3 : Int) < 6 := (by omega); have OWN3 := hid (ownsRow_keep OWN2.out hf3 (by simp)); have cf := OWN3.out.frozenAt (k2 * 3); obtain ⟨cv, cg⟩ := ups_cell OWN3.out hk2'; have hs3 := hf3.size))
     | (go_at_call 117; go_must (refine (l92Value_any hR2 (by omega)).mono ?_; rintro e w3 ⟨n3, q3, rfl, hR3, hq3, hf3, hn3, hn3'⟩; have OWN3 := hid (ownsRow_keep OWN2.out hf3 (by simp)); have cf := OWN3.out.frozenAt (k2 * 3 + 2); obtain ⟨cv, cg⟩ := ups_cell2 OWN3.out hk2'; have hs3 := hf3.size))
     | (go_at_call 34; go_must (refine (pick_at hR1 (by omega)).mono ?_; rintro e w2 ⟨k2, rfl, hk2, hR2, hf2⟩; have OWN2 := hid (ownsRow_keep OWN1.out hf2 (by simp)); have hk2' : k2 < us.length := (by omega); have hk2i : (k2 : Int) < (us.length : Int) := (by omega); have hs2 := hf2.size)))
    ·go_ret
     have hst := (OWN3.out.stored (k2 * 3) (.int .i64 ((k3 : Int) - 1))).1
     rw [fmU_set0 us hk2'] at hst
     exact ⟨_, _, _, rfl, UpsR.ofOwn hst (by simp) (Nat.le_refl _), by simp; omega, hR3.setAbove (by dsimp only; have := HR0.out.lt; omega), by omega, (((hfr.trans hf1).trans hf2).trans hf3).setNew hg1 _⟩
    ·go_ret
     have hst := (OWN3.out.stored (k2 * 3 + 2) (.int .i64 n3)).1
     rw [fmU_set2 us hk2'] at hst
     exact ⟨_, _, _, rfl, UpsR.ofOwn hst (by simp) (Nat.le_refl _), by simp; omega, hR3.setAbove (by dsimp only; have := HR0.out.lt; omega), by omega, (((hfr.trans hf1).trans hf2).trans hf3).setNew hg1 _⟩
    ·go_ret
     exact ⟨_, [], _, rfl, UpsR.empty _ _ _ _, by simp, hR1, by omega, hfr.trans hf1⟩
    ·go_ret
     exact ⟨_, us, _, rfl, UpsR.ofOwn OWN1.out rfl (Nat.le_refl _), by omega, hR1, by omega, hfr.trans hf1⟩

end Go.Proofs.YtknoanpgadecbaaGreatDoor
