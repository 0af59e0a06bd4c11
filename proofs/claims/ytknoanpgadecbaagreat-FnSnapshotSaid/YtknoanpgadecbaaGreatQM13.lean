/- Lists of lists of numbers: how they read. -/
import Derived.Test.YtknoanpgadecbaaGreatQCoTabI2
import Derived.Test.YtknoanpgadecbaaGreatQM10
import Derived.Test.YtknoanpgadecbaaGreatQM12
import Derived.Test.YtknoanpgadecbaaGreatQM3
import Derived.Deep.RegionHeld3
set_option linter.unusedVariables false
set_option linter.unusedSimpArgs false
namespace Go.Proofs.YtknoanpgadecbaaGreat
open Go.RowKit
set_option linter.unusedVariables false

theorem MatR.grow {lo B : Nat} {w w' : World} {v : Value} {ls : List (List Int)} (h : MatR lo w v ls) (hf : Fr B [] w w') : MatR lo w' v ls := h.tk hf (by simp) (by simp)

theorem MatR.shape {lo : Nat} {w : World} {v : Value} {ls : List (List Int)} (h : MatR lo w v ls) :
  ∃ a cap, v = .slice a ls.length cap ∧ ls.length ≤ cap ∧ (ls = [] ∨ ∃ b off, a = some ⟨b, off, none⟩ ∧ b < w.heap.size ∧
   ∀ i (hi : i < ls.length), ∃ ra rcap, w.cell? ⟨b, off + i, none⟩ = some (.slice ra ls[i].length rcap) ∧ IntsR (new lo) w (.slice ra ls[i].length rcap) ls[i]) := by
 obtain ⟨zs, hz, h, hu⟩ := h
 rcases ls with _ | ⟨p, ls⟩
 ·obtain ⟨a, cap, h1, h2, h3, h4, h5⟩ := h
  exact ⟨a, cap, h1, h3, .inl rfl⟩
 ·obtain ⟨b, off, cap, h1, h2, h3, h4, h5⟩ := SlR.cells h (by simp)
  refine ⟨_, cap, h1, h3, .inr ⟨b, off, rfl, h2, fun i hi => ?_⟩⟩
  obtain ⟨hi', e⟩ := fst_get hz hi
  have hx := hu _ (List.getElem_mem hi')
  obtain ⟨ra, rcap, hv, _, _⟩ := hx.shape
  rw [e]
  refine ⟨ra, rcap, ?_, by rw [← hv]; exact hx⟩
  rw [← hv]
  exact h5 i _ (by rw [List.getElem?_map, List.getElem?_eq_getElem hi']; rfl)

def snapL (c : Co) (ss : List (List Rc)) (n : Int) : List (List Int) := if snapOk c ss n then snapTo c ss n.toNat 3 else []

theorem snapL_rows {c : Co} {ss : List (List Rc)} {n : Int} : ∀ l ∈ snapL c ss n, l.length ≤ 1000000000 := by
 intro l hl
 unfold snapL at hl
 split at hl
 ·unfold snapTo at hl
  obtain ⟨i, _, rfl⟩ := List.mem_map.1 hl
  rw [refsTo_len]
  decide
 ·cases hl

theorem snapL_len {c : Co} {ss : List (List Rc)} {n : Int} : (snapL c ss n).length ≤ 3 := by
 unfold snapL
 split
 ·rw [snapTo_len]; exact Nat.le_refl _
 ·exact Nat.zero_le _

theorem snapL_yes {c : Co} {ss : List (List Rc)} {n : Int} (h : snapOk c ss n = true) : (snapL c ss n).length = 3 := by
 unfold snapL
 rw [if_pos h, snapTo_len]

theorem snapL_zero {c : Co} {ss : List (List Rc)} (h : snapOk c ss 0 = true) : snapL c ss 0 = [ [-1, -1, -1, -1], [-1, -1, -1, -1], [-1, -1, -1, -1] ] := by
 unfold snapL
 rw [if_pos h]
 rfl

theorem snapOk_less {c : Co} {ss : List (List Rc)} {n : Int} (h : snapOk c ss n = true) {k : Int} (h0 : 0 ≤ k) (hk : k ≤ n) : snapOk c ss k = true := by
 unfold snapOk at *
 have := inR_iff.1 h
 exact inR_iff.2 ⟨h0, by omega⟩

theorem snapOk_cases {c : Co} {ss : List (List Rc)} {n : Int} : (snapOk c ss n = true ∧ 0 ≤ n ∧ n ≤ ready c ss) ∨ (snapOk c ss n = false ∧ (n < 0 ∨ (0 ≤ n ∧ ready c ss < n))) := by
 cases h : snapOk c ss n
 ·right
  refine ⟨rfl, ?_⟩
  by_cases h0 : n < 0
  ·exact .inl h0
  ·right
   refine ⟨by omega, ?_⟩
   by_cases h1 : ready c ss < n
   ·exact h1
   ·have : snapOk c ss n = true := inR_iff.2 ⟨by omega, by omega⟩
    rw [h] at this
    cases this
 ·exact .inl ⟨rfl, inR_iff.1 h⟩

theorem wrap_succ (y : Int) (h : -10000 ≤ y ∧ y ≤ 10000) : IntKind.i64.wrap (y + 1) = y + 1 := by
 rw [IntKind.wrap_i64]; omega

set_option maxRecDepth 20000 in
set_option maxHeartbeats 8000000 in
theorem snapshotLess_walk {w : World} {a : Option Addr} {n cap : Nat} {a2 : Option Addr} {n2 cap2 : Nat} (hb : Bytes w.heap.size w a n cap) (hm : cap ≤ maxLen) :
  Calls Tryz.prog 6 #[.slice a n cap, .slice a2 n2 cap2] w fun e w' => e = .returned (.bool true) ∧ Fr w.heap.size [] w w' := by
 have HB := hid hb
 clear hb
 by_cases hn1 : n ≤ 1048576
 ·have in1 : ¬ (1048576 : Int) < (n : Int) := by omega
  by_cases hn2 : ¬ n2 ≤ 1048576
  ·have in2 : (1048576 : Int) < (n2 : Int) := by omega
   go_enter Tryz.func6, Tryz.ntmps6
   go_wp2
   go_ret
   exact ⟨rfl, Fr.refl _ _ _⟩
  have in2 : ¬ (1048576 : Int) < (n2 : Int) := by omega
  go_enter Tryz.func6, Tryz.ntmps6
  go_upto_region 4 with (go_at_call 13; go_must (refine (drawRefs_any HB.out hm).mono ?_; rintro e w1 ⟨v1, v2, v3, c, ss, x, rfl, cr, ci, sr, sl, sb, fr1, hx1, hx2⟩; have CR := hid cr; have CI := hid ci; have SR := hid sr; have SB := hid (fun rs h => (show Small rs ∧ NC rs from ⟨(sb rs h).small, (sb rs h).2⟩)); have SM := hid (fun rs h => (sb rs h).small); have F1 := hid fr1; obtain ⟨ta, tcap, rfl, _, _⟩ := cr.1.shape; obtain ⟨oa, ocap, rfl, _, _⟩ := cr.2.shape; obtain ⟨sa, scap, rfl, _, _⟩ := sr.shape; have sl9 := Nat.le_trans sl (show 3 ≤ 1000 from by decide); clear cr ci sr sb fr1))
  have G1 := hid ((Fr.refl w.heap.size [] w1).alloc (.cells #[.slice ta c.txns.length tcap, .slice oa c.order.length ocap] 26))
  have GW := hid ((Fr.refl w1.heap.size [] w1).alloc (.cells #[.slice ta c.txns.length tcap, .slice oa c.order.length ocap] 26))
  have A1 := hid (heap_alloc_new w1 (.cells #[.slice ta c.txns.length tcap, .slice oa c.order.length ocap] 26))
  have p0 := cell_of (o := 0) A1.out rfl
  have p1 := cell_of (o := 1) A1.out rfl
  have RW := hid (snapL_rows (c := c) (ss := ss) (n := x))
  have LL := hid (snapL_len (c := c) (ss := ss) (n := x))
  have SC := hid (snapOk_cases (c := c) (ss := ss) (n := x))
  have SY := hid (fun h => snapL_yes (c := c) (ss := ss) (n := x) h)
  have SL := hid (fun (h : snapOk c ss x = true) (k : Int) (h0 : 0 ≤ k) (hk : k ≤ x) => snapOk_less h h0 hk)
  have IR := hid (fun (W : World) (hw : Fr 0 [] w1 W) => implRefs_any w.heap.size _ _ _ c ss x W (CR.out.grow hw) CI.out (SR.out.grow hw) sl9 SB.out)
  have SRF := hid (fun (W : World) (hw : Fr 0 [] w1 W) => specRefs_any w.heap.size _ _ _ c ss x W (CR.out.grow hw) CI.out (SR.out.grow hw) sl9 SM.out)
  obtain ⟨L, hL⟩ : ∃ L, L = snapL c ss x := ⟨_, rfl⟩
  change Hid (∀ (W : World) (hw : Fr 0 [] w1 W), Calls Tryz.prog 14 _ W fun e w' => ∃ v, e = .returned (.tuple #[v, .bool (snapOk c ss x)]) ∧ MatOwn W.heap.size w' v (snapL c ss x) ∧ Fr W.heap.size [] W w') at IR
  change Hid (∀ (W : World) (hw : Fr 0 [] w1 W), Calls Tryz.prog 15 _ W fun e w' => ∃ v, e = .returned (.tuple #[v, .bool (snapOk c ss x)]) ∧ MatOwn W.heap.size w' v (snapL c ss x) ∧ Fr W.heap.size [] W w') at SRF
  rw [← hL] at IR SRF RW LL SY
  clear hL
  obtain ⟨q, hq⟩ : ∃ q, q = snapOk c ss x := ⟨_, rfl⟩
  have QE := hid hq
  rw [← hq] at IR SRF SC SY SL
  clear hq
  go_upto_region 7 with (first
   | (go_at_call 14; go_must (refine (IR.out _ GW.out.nil).mono ?_; rintro e w2 ⟨v5, rfl, own5, fr2⟩; have M5 := hid own5.reads; obtain ⟨a5, c5, rfl, _, _⟩ := own5.reads.shape; have F2 := hid (GW.out.trans fr2.nil); have A2 := hid (fr2.keep _ _ A1.out (.inr (by simp))); have q0 := cell_of (o := 0) A2.out rfl; have q1 := cell_of (o := 1) A2.out rfl; clear own5 fr2))
   | (go_at_call 15; go_must (refine (SRF.out _ F2.out.nil).mono ?_; rintro e w3 ⟨v6, rfl, own6, fr3⟩; have M6 := hid own6.reads; obtain ⟨a6, c6, rfl, _, _⟩ := own6.reads.shape; have M56 := hid (M5.out.grow fr3); have F3 := hid (F2.out.trans fr3.nil); have A3 := hid (fr3.keep _ _ A2.out (.inr (by simp))); clear own6 fr3)))
  clear p0 p1 q0 q1 A1 A2 F2 M5 IR SRF
  obtain ⟨_, _, e5, _, hc5⟩ := M56.out.shape
  cases e5
  obtain ⟨_, _, e6, _, hc6⟩ := M6.out.shape
  cases e6
  have C5 := hid hc5
  have C6 := hid hc6
  clear hc5 hc6 M56 M6
  go_wp2
  go_loopw [12, 13] (fun sm i wr => ∃ k : Nat, k ≤ L.length ∧ i = .int .i64 k ∧ sm = .bool true ∧ wr.heap[w1.heap.size]? = some (.cells #[.slice ta c.txns.length tcap, .slice oa c.order.length ocap] 26 (0, 0)) ∧ Fr w1.heap.size [] w1 wr ∧ Fr 0 [] w3 wr) (fun _ i _ => L.length - (intOf i).toNat)
  case atStart => exact ⟨0, Nat.zero_le _, rfl, by simp, A3.out, F3.out, Fr.refl _ _ _⟩
  case round =>
   clear A3
   obtain ⟨k, hk, rfl, rfl, hB, hfr, hf3⟩ := hrel
   have HBR := hid hB
   have p0 := cell_of (o := 0) hB rfl
   have p1 := cell_of (o := 1) hB rfl
   have hbl := lt_of_get hB
   clear hB
   by_cases hlt : k < L.length
   ·have hki : (k : Int) < (L.length : Int) := by omega
    have hl3 : L.length ≤ 3 := LL.out
    rcases C5.out with h | ⟨b5, o5, rfl, hb5, hcc5⟩
    ·rw [h] at hlt; simp at hlt
    rcases C6.out with h | ⟨b6, o6, rfl, hb6, hcc6⟩
    ·rw [h] at hlt; simp at hlt
    obtain ⟨r5, s5, x5, y5⟩ := hcc5 k hlt
    obtain ⟨r6, s6, x6, y6⟩ := hcc6 k hlt
    have hb5' := Nat.lt_of_lt_of_le hb5 hf3.size
    have hb6' := Nat.lt_of_lt_of_le hb6 hf3.size
    have z5 : wr.cell? ⟨b5, o5 + k, none⟩ = _ := (hf3.nil (B' := w3.heap.size) (T := [])).cell hb5 x5
    have z6 : wr.cell? ⟨b6, o6 + k, none⟩ = _ := (hf3.nil (B' := w3.heap.size) (T := [])).cell hb6 x6
    have Y5 := hid (y5.grow hf3)
    have Y6 := hid (y6.grow hf3)
    have RL := hid (RW.out _ (List.getElem_mem hlt))
    clear hcc5 hcc6 x5 x6 y5 y6
    generalize L[k] = l at *
    go_wp2
    have fd := (Fr.refl wr.heap.size [] wr).drew
    first
    | go_region_held3 (fun z => z.cell? ⟨b5, o5 + k, none⟩ = some (.slice r5 l.length s5) ∧ z.cell? ⟨b6, o6 + k, none⟩ = some (.slice r6 l.length s6))
     (first
      | exact ⟨z5, z6⟩
      | exact r0
      | fail)
     (first
      | (go_at_call 16; go_must (refine (sameInts_eq _ _ _ _ l _ (Y5.out.grow fd) (Y6.out.grow fd) RL.out).mono ?_; rintro e w4 ⟨rfl, fr4⟩; have FF := hid (fd.nil.trans (fr4.nil (B' := 0) (T := []))); have r0 := (⟨fr4.cell hb5' (fd.cell hb5' z5), fr4.cell hb6' (fd.cell hb6' z6)⟩ : (w4.cell? ⟨b5, o5 + k, none⟩ = some (.slice r5 l.length s5) ∧ w4.cell? ⟨b6, o6 + k, none⟩ = some (.slice r6 l.length s6)))))
      | fail)
    | fail
    all_goals go_wp2
    go_roundw
    case rel => exact ⟨k + 1, by omega, by go_num, rfl, FF.out.keep _ _ HBR.out (.inr (by simp)), hfr.trans FF.out.nil, hf3.trans FF.out⟩
    case measure => simp [intOf]; omega
   ·obtain rfl : k = L.length := by omega
    have CR9 := hid (CR.out.grow hfr)
    have SR9 := hid (SR.out.grow hfr)
    have W9 := hid (F1.out.trans hfr.nil)
    have IR2 := hid (fun (W : World) (hw : Fr 0 [] w1 W) (y : Int) => implRefs_any w.heap.size _ _ _ c ss y W (CR.out.grow hw) CI.out (SR.out.grow hw) sl9 SB.out)
    have SC1 := SC.out
    clear SC
    cases q
    ·clear SC1
     go_wp2
     go_ret
     exact ⟨ret_bool (by simp), W9.out⟩
    ·have L3 := hid (SY.out rfl)
     have hx0 : 0 ≤ x := by
      rcases SC1 with h | h
      ·exact h.2.1
      ·cases h.1
     obtain ⟨m, rfl⟩ := Int.eq_ofNat_of_zero_le hx0
     clear SC1
     have TM := show 0 ≤ (n2 : Int).tmod ((m : Int) + 1) ∧ (n2 : Int).tmod ((m : Int) + 1) ≤ (m : Int) from ⟨Int.tmod_nonneg _ (by omega), by have := Int.tmod_lt_of_pos (n2 : Int) (show (0 : Int) < (m : Int) + 1 by omega); omega⟩
     have SLT := hid (SL.out rfl _ TM.1 TM.2)
     have IR3 := hid (fun (W : World) (hw : Fr 0 [] w1 W) => IR2.out W hw ((n2 : Int).tmod ((m : Int) + 1)))
     change Hid (∀ (W : World) (hw : Fr 0 [] w1 W), Calls Tryz.prog 14 _ W fun e w' => ∃ v, e = .returned (.tuple #[v, .bool (snapOk c ss ((n2 : Int).tmod ((m : Int) + 1)))]) ∧ MatOwn W.heap.size w' v (snapL c ss ((n2 : Int).tmod ((m : Int) + 1))) ∧ Fr W.heap.size [] W w') at IR3
     rw [SLT.out] at IR3
     have L3' := L3.out
     have i3 : ((L.length : Int) == 3) = true := by simp; omega
     clear TM L3' IR2
     go_wp2
     have fd := hid (Fr.refl wr.heap.size [] wr).drew
     have hz0 : ¬ ((m : Int) + 1) = 0 := by omega
     have hz1 : (((m : Int) + 1) == 0) = false := by simp; omega
     have hz2 : IntKind.i64.wrap ((m : Int) + 1) = (m : Int) + 1 := wrap_succ _ ⟨hx1, hx2⟩
     first
     | go_region_held3 (fun z => z.cell? ⟨w1.heap.size, 0, none⟩ = some (.slice ta c.txns.length tcap) ∧ z.cell? ⟨w1.heap.size, 1, none⟩ = some (.slice oa c.order.length ocap))
      (first
       | exact ⟨p0, p1⟩
       | exact r0
       | fail)
      (first
       | (go_at_call 14; go_must (refine (IR3.out _ (hfr.trans fd.out.nil).nil).mono ?_; rintro e w4 ⟨v7, rfl, own7, fr4⟩; obtain ⟨a7, c7, rfl, _, _⟩ := own7.reads.shape; have W4 := hid ((W9.out.trans fd.out.nil).trans fr4.nil); have r0 := (⟨fr4.cell hbl (fd.out.cell hbl p0), fr4.cell hbl (fd.out.cell hbl p1)⟩ : (w4.cell? ⟨w1.heap.size, 0, none⟩ = some (.slice ta c.txns.length tcap) ∧ w4.cell? ⟨w1.heap.size, 1, none⟩ = some (.slice oa c.order.length ocap))); clear own7 fr4))
       | fail)
     | fail
     all_goals go_wp2
     all_goals go_ret
     all_goals exact ⟨ret_bool (by simp [L3.out]), W4.out⟩
 ·have in1 : (1048576 : Int) < (n : Int) := by omega
  go_enter Tryz.func6, Tryz.ntmps6
  go_wp2
  go_ret
  exact ⟨rfl, Fr.refl _ _ _⟩

theorem ints4_lit (w : World) : IntsR (new 0) (w.alloc (.cells #[.int .i64 (-1), .int .i64 (-1), .int .i64 (-1), .int .i64 (-1)] 3)) (.slice (some ⟨w.heap.size, 0, none⟩) 4 4) [-1, -1, -1, -1] :=
 ⟨_, 4, rfl, rfl, Nat.le_refl _, (fun h => by cases h), fun _ => ⟨w.heap.size, 0, _, _, _, rfl, ⟨Nat.zero_le _, by simp⟩, heap_alloc_new _ _, fun j u hu => by rw [Nat.zero_add]; rw [← List.getElem?_toArray] at hu; exact hu⟩⟩

set_option maxRecDepth 20000 in
set_option maxHeartbeats 8000000 in
theorem snapshotNone_walk {w : World} {a : Option Addr} {n cap : Nat} (hb : Bytes w.heap.size w a n cap) (hm : cap ≤ maxLen) :
  Calls Tryz.prog 7 #[.slice a n cap] w fun e w' => e = .returned (.bool true) ∧ Fr w.heap.size [] w w' := by
 have HB := hid hb
 clear hb
 by_cases hn1 : n ≤ 1048576
 ·have in1 : ¬ (1048576 : Int) < (n : Int) := by omega
  go_enter Tryz.func7, Tryz.ntmps7
  go_upto_region 4 with (go_at_call 13; go_must (refine (drawRefs_any HB.out hm).mono ?_; rintro e w1 ⟨v1, v2, v3, c, ss, x, rfl, cr, ci, sr, sl, sb, fr1, hx1, hx2⟩; have CR := hid cr; have CI := hid ci; have SR := hid sr; have SB := hid (fun rs h => (show Small rs ∧ NC rs from ⟨(sb rs h).small, (sb rs h).2⟩)); have SM := hid (fun rs h => (sb rs h).small); have F1 := hid fr1; obtain ⟨ta, tcap, rfl, _, _⟩ := cr.1.shape; obtain ⟨oa, ocap, rfl, _, _⟩ := cr.2.shape; obtain ⟨sa, scap, rfl, _, _⟩ := sr.shape; have sl9 := Nat.le_trans sl (show 3 ≤ 1000 from by decide); clear cr ci sr sb fr1))
  have G1 := hid ((Fr.refl w.heap.size [] w1).alloc (.cells #[.slice ta c.txns.length tcap, .slice oa c.order.length ocap] 26))
  have GW := hid ((Fr.refl w1.heap.size [] w1).alloc (.cells #[.slice ta c.txns.length tcap, .slice oa c.order.length ocap] 26))
  have A1 := hid (heap_alloc_new w1 (.cells #[.slice ta c.txns.length tcap, .slice oa c.order.length ocap] 26))
  have p0 := cell_of (o := 0) A1.out rfl
  have p1 := cell_of (o := 1) A1.out rfl
  have RW := hid (snapL_rows (c := c) (ss := ss) (n := x))
  have LL := hid (snapL_len (c := c) (ss := ss) (n := x))
  have SC := hid (snapOk_cases (c := c) (ss := ss) (n := x))
  have SY := hid (fun h => snapL_yes (c := c) (ss := ss) (n := x) h)
  have SL := hid (fun (h : snapOk c ss x = true) (k : Int) (h0 : 0 ≤ k) (hk : k ≤ x) => snapOk_less h h0 hk)
  have IR := hid (fun (W : World) (hw : Fr 0 [] w1 W) => implRefs_any w.heap.size _ _ _ c ss x W (CR.out.grow hw) CI.out (SR.out.grow hw) sl9 SB.out)
  have SRF := hid (fun (W : World) (hw : Fr 0 [] w1 W) => specRefs_any w.heap.size _ _ _ c ss x W (CR.out.grow hw) CI.out (SR.out.grow hw) sl9 SM.out)
  obtain ⟨L, hL⟩ : ∃ L, L = snapL c ss x := ⟨_, rfl⟩
  change Hid (∀ (W : World) (hw : Fr 0 [] w1 W), Calls Tryz.prog 14 _ W fun e w' => ∃ v, e = .returned (.tuple #[v, .bool (snapOk c ss x)]) ∧ MatOwn W.heap.size w' v (snapL c ss x) ∧ Fr W.heap.size [] W w') at IR
  change Hid (∀ (W : World) (hw : Fr 0 [] w1 W), Calls Tryz.prog 15 _ W fun e w' => ∃ v, e = .returned (.tuple #[v, .bool (snapOk c ss x)]) ∧ MatOwn W.heap.size w' v (snapL c ss x) ∧ Fr W.heap.size [] W w') at SRF
  rw [← hL] at IR SRF RW LL SY
  clear hL
  obtain ⟨q, hq⟩ : ∃ q, q = snapOk c ss x := ⟨_, rfl⟩
  have QE := hid hq
  rw [← hq] at IR SRF SC SY SL
  clear hq
  go_upto_region 7 with (first
   | (go_at_call 14; go_must (refine (IR.out _ GW.out.nil).mono ?_; rintro e w2 ⟨v5, rfl, own5, fr2⟩; have M5 := hid own5.reads; obtain ⟨a5, c5, rfl, _, _⟩ := own5.reads.shape; have F2 := hid (GW.out.trans fr2.nil); have A2 := hid (fr2.keep _ _ A1.out (.inr (by simp))); have q0 := cell_of (o := 0) A2.out rfl; have q1 := cell_of (o := 1) A2.out rfl; clear own5 fr2))
   | (go_at_call 15; go_must (refine (SRF.out _ F2.out.nil).mono ?_; rintro e w3 ⟨v6, rfl, own6, fr3⟩; have M6 := hid own6.reads; obtain ⟨a6, c6, rfl, _, _⟩ := own6.reads.shape; have M56 := hid (M5.out.grow fr3); have F3 := hid (F2.out.trans fr3.nil); have A3 := hid (fr3.keep _ _ A2.out (.inr (by simp))); clear own6 fr3)))
  clear p0 p1 q0 q1 A1 A2 F2 M5 IR SRF
  obtain ⟨_, _, e5, _, hc5⟩ := M56.out.shape
  cases e5
  obtain ⟨_, _, e6, _, hc6⟩ := M6.out.shape
  cases e6
  have C5 := hid hc5
  have C6 := hid hc6
  clear hc5 hc6 M56 M6
  go_wp2
  go_loopw [10, 11] (fun sm i wr => ∃ k : Nat, k ≤ L.length ∧ i = .int .i64 k ∧ sm = .bool true ∧ wr.heap[w1.heap.size]? = some (.cells #[.slice ta c.txns.length tcap, .slice oa c.order.length ocap] 26 (0, 0)) ∧ Fr w1.heap.size [] w1 wr ∧ Fr 0 [] w3 wr) (fun _ i _ => L.length - (intOf i).toNat)
  case atStart => exact ⟨0, Nat.zero_le _, rfl, by simp, A3.out, F3.out, Fr.refl _ _ _⟩
  case round =>
   clear A3
   obtain ⟨k, hk, rfl, rfl, hB, hfr, hf3⟩ := hrel
   have HBR := hid hB
   have p0 := cell_of (o := 0) hB rfl
   have p1 := cell_of (o := 1) hB rfl
   have hbl := lt_of_get hB
   clear hB
   by_cases hlt : k < L.length
   ·have hki : (k : Int) < (L.length : Int) := by omega
    have hl3 : L.length ≤ 3 := LL.out
    rcases C5.out with h | ⟨b5, o5, rfl, hb5, hcc5⟩
    ·rw [h] at hlt; simp at hlt
    rcases C6.out with h | ⟨b6, o6, rfl, hb6, hcc6⟩
    ·rw [h] at hlt; simp at hlt
    obtain ⟨r5, s5, x5, y5⟩ := hcc5 k hlt
    obtain ⟨r6, s6, x6, y6⟩ := hcc6 k hlt
    have hb5' := Nat.lt_of_lt_of_le hb5 hf3.size
    have hb6' := Nat.lt_of_lt_of_le hb6 hf3.size
    have z5 : wr.cell? ⟨b5, o5 + k, none⟩ = _ := (hf3.nil (B' := w3.heap.size) (T := [])).cell hb5 x5
    have z6 : wr.cell? ⟨b6, o6 + k, none⟩ = _ := (hf3.nil (B' := w3.heap.size) (T := [])).cell hb6 x6
    have Y5 := hid (y5.grow hf3)
    have Y6 := hid (y6.grow hf3)
    have RL := hid (RW.out _ (List.getElem_mem hlt))
    clear hcc5 hcc6 x5 x6 y5 y6
    generalize L[k] = l at *
    go_wp2
    have fd := (Fr.refl wr.heap.size [] wr).drew
    first
    | go_region_held3 (fun z => z.cell? ⟨b5, o5 + k, none⟩ = some (.slice r5 l.length s5) ∧ z.cell? ⟨b6, o6 + k, none⟩ = some (.slice r6 l.length s6))
     (first
      | exact ⟨z5, z6⟩
      | exact r0
      | fail)
     (first
      | (go_at_call 16; go_must (refine (sameInts_eq _ _ _ _ l _ (Y5.out.grow fd) (Y6.out.grow fd) RL.out).mono ?_; rintro e w4 ⟨rfl, fr4⟩; have FF := hid (fd.nil.trans (fr4.nil (B' := 0) (T := []))); have r0 := (⟨fr4.cell hb5' (fd.cell hb5' z5), fr4.cell hb6' (fd.cell hb6' z6)⟩ : (w4.cell? ⟨b5, o5 + k, none⟩ = some (.slice r5 l.length s5) ∧ w4.cell? ⟨b6, o6 + k, none⟩ = some (.slice r6 l.length s6)))))
      | fail)
    | fail
    all_goals go_wp2
    go_roundw
    case rel => exact ⟨k + 1, by omega, by go_num, rfl, FF.out.keep _ _ HBR.out (.inr (by simp)), hfr.trans FF.out.nil, hf3.trans FF.out⟩
    case measure => simp [intOf]; omega
   ·obtain rfl : k = L.length := by omega
    have CR9 := hid (CR.out.grow hfr)
    have SR9 := hid (SR.out.grow hfr)
    have W9 := hid (F1.out.trans hfr.nil)
    have IR2 := hid (fun (W : World) (hw : Fr 0 [] w1 W) => implRefs_any w.heap.size _ _ _ c ss 0 W (CR.out.grow hw) CI.out (SR.out.grow hw) sl9 SB.out)
    have SC1 := SC.out
    clear SC
    cases q
    ·clear SC1
     go_wp2
     go_ret
     exact ⟨ret_bool (by simp), W9.out⟩
    ·have L3 := hid (SY.out rfl)
     have hx0 : 0 ≤ x := by
      rcases SC1 with h | h
      ·exact h.2.1
      ·cases h.1
     have Z0 := hid (SL.out rfl 0 (by omega) hx0)
     have ZL := hid (snapL_zero (by exact Z0.out))
     change Hid (∀ (W : World) (hw : Fr 0 [] w1 W), Calls Tryz.prog 14 _ W fun e w' => ∃ v, e = .returned (.tuple #[v, .bool (snapOk c ss 0)]) ∧ MatOwn W.heap.size w' v (snapL c ss 0) ∧ Fr W.heap.size [] W w') at IR2
     rw [Z0.out] at IR2
     obtain ⟨M, hM⟩ : ∃ M, M = snapL c ss 0 := ⟨_, rfl⟩
     rw [← hM] at IR2 ZL
     have M3 := hid (show M.length = 3 by rw [ZL.out]; rfl)
     have MF := hid (show ∀ l ∈ M, l = [-1, -1, -1, -1] by
      intro l hl
      rw [ZL.out] at hl
      simpa using hl)
     clear SC1 hM ZL
     go_wp2_with (go_at_call 14; go_must (refine (IR2.out _ hfr.nil).mono ?_; rintro e w4 ⟨v7, rfl, own7, fr4⟩; obtain ⟨a7, c7, rfl, _, hc7⟩ := own7.reads.shape; have C7 := hid hc7; have W4 := hid (W9.out.trans fr4.nil); clear own7 fr4 hc7))
     go_loopw [14] (fun i wr => ∃ j : Nat, j ≤ M.length ∧ i = .int .i64 j ∧ Fr w.heap.size [] w wr ∧ Fr 0 [] w4 wr) (fun i _ => M.length - (intOf i).toNat)
     case atStart => exact ⟨0, Nat.zero_le _, rfl, W4.out, Fr.refl _ _ _⟩
     case round =>
      obtain ⟨j, hj, rfl, hfw, hf4⟩ := hrel
      have hm3 : M.length ≤ 3 := by have := M3.out; omega
      by_cases hlj : j < M.length
      ·have hji : (j : Int) < (M.length : Int) := by omega
       rcases C7.out with h | ⟨b7, o7, rfl, hb7, hcc7⟩
       ·rw [h] at hlj; simp at hlj
       obtain ⟨r7, s7, x7, y7⟩ := hcc7 j hlj
       have e7 := MF.out _ (List.getElem_mem hlj)
       rw [e7] at x7 y7
       have z7 := (hf4.nil (B' := w4.heap.size) (T := [])).cell hb7 x7
       have Y7 := hid (y7.grow hf4)
       have FL := hid ((Fr.refl 0 [] wr).alloc (.cells #[.int .i64 (-1), .int .i64 (-1), .int .i64 (-1), .int .i64 (-1)] 3))
       clear hcc7 x7 y7 e7
       go_wp2_with (go_at_call 16; go_must (refine (sameInts_eq _ _ _ _ [-1, -1, -1, -1] _ (Y7.out.grow FL.out) (ints4_lit wr) (by decide)).mono ?_; rintro e w5 ⟨rfl, fr5⟩; have FF := hid (FL.out.trans (fr5.nil (B' := 0) (T := [])))))
       go_roundw
       case rel => exact ⟨j + 1, by omega, by go_num, hfw.trans FF.out.nil, hf4.trans FF.out⟩
       case measure => simp [intOf]; omega
      ·obtain rfl : j = M.length := by omega
       have i3 : ((M.length : Int) == 3) = true := by have := M3.out; simp; omega
       go_wp2
       go_ret
       exact ⟨ret_bool (by simp [M3.out]), hfw⟩
 ·have in1 : (1048576 : Int) < (n : Int) := by omega
  go_enter Tryz.func7, Tryz.ntmps7
  go_wp2
  go_ret
  exact ⟨rfl, Fr.refl _ _ _⟩

set_option maxRecDepth 20000 in
set_option maxHeartbeats 8000000 in
theorem snapshot_walk {w : World} {a : Option Addr} {n cap : Nat} (hb : Bytes w.heap.size w a n cap) (hm : cap ≤ maxLen) :
  Calls Tryz.prog 5 #[.slice a n cap] w fun e w' => e = .returned (.bool true) ∧ Fr w.heap.size [] w w' := by
 have HB := hid hb
 clear hb
 by_cases hn1 : n ≤ 1048576
 ·have in1 : ¬ (1048576 : Int) < (n : Int) := by omega
  go_enter Tryz.func5, Tryz.ntmps5
  go_upto_region 4 with (go_at_call 13; go_must (refine (drawRefs_any HB.out hm).mono ?_; rintro e w1 ⟨v1, v2, v3, c, ss, x, rfl, cr, ci, sr, sl, sb, fr1, hx1, hx2⟩; have CR := hid cr; have CI := hid ci; have SR := hid sr; have SB := hid (fun rs h => (show Small rs ∧ NC rs from ⟨(sb rs h).small, (sb rs h).2⟩)); have SM := hid (fun rs h => (sb rs h).small); have F1 := hid fr1; obtain ⟨ta, tcap, rfl, _, _⟩ := cr.1.shape; obtain ⟨oa, ocap, rfl, _, _⟩ := cr.2.shape; obtain ⟨sa, scap, rfl, _, _⟩ := sr.shape; have sl9 := Nat.le_trans sl (show 3 ≤ 1000 from by decide); clear cr ci sr sb fr1))
  have G1 := hid ((Fr.refl w.heap.size [] w1).alloc (.cells #[.slice ta c.txns.length tcap, .slice oa c.order.length ocap] 26))
  have GW := hid ((Fr.refl w1.heap.size [] w1).alloc (.cells #[.slice ta c.txns.length tcap, .slice oa c.order.length ocap] 26))
  have A1 := hid (heap_alloc_new w1 (.cells #[.slice ta c.txns.length tcap, .slice oa c.order.length ocap] 26))
  have p0 := cell_of (o := 0) A1.out rfl
  have p1 := cell_of (o := 1) A1.out rfl
  have RW := hid (snapL_rows (c := c) (ss := ss) (n := x))
  have LL := hid (snapL_len (c := c) (ss := ss) (n := x))
  have SC := hid (snapOk_cases (c := c) (ss := ss) (n := x))
  have SY := hid (fun h => snapL_yes (c := c) (ss := ss) (n := x) h)
  have SL := hid (fun (h : snapOk c ss x = true) (k : Int) (h0 : 0 ≤ k) (hk : k ≤ x) => snapOk_less h h0 hk)
  have IR := hid (fun (W : World) (hw : Fr 0 [] w1 W) => implRefs_any w.heap.size _ _ _ c ss x W (CR.out.grow hw) CI.out (SR.out.grow hw) sl9 SB.out)
  have SRF := hid (fun (W : World) (hw : Fr 0 [] w1 W) => specRefs_any w.heap.size _ _ _ c ss x W (CR.out.grow hw) CI.out (SR.out.grow hw) sl9 SM.out)
  obtain ⟨L, hL⟩ : ∃ L, L = snapL c ss x := ⟨_, rfl⟩
  change Hid (∀ (W : World) (hw : Fr 0 [] w1 W), Calls Tryz.prog 14 _ W fun e w' => ∃ v, e = .returned (.tuple #[v, .bool (snapOk c ss x)]) ∧ MatOwn W.heap.size w' v (snapL c ss x) ∧ Fr W.heap.size [] W w') at IR
  change Hid (∀ (W : World) (hw : Fr 0 [] w1 W), Calls Tryz.prog 15 _ W fun e w' => ∃ v, e = .returned (.tuple #[v, .bool (snapOk c ss x)]) ∧ MatOwn W.heap.size w' v (snapL c ss x) ∧ Fr W.heap.size [] W w') at SRF
  rw [← hL] at IR SRF RW LL SY
  clear hL
  obtain ⟨q, hq⟩ : ∃ q, q = snapOk c ss x := ⟨_, rfl⟩
  have QE := hid hq
  rw [← hq] at IR SRF SC SY SL
  clear hq
  go_upto_region 7 with (first
   | (go_at_call 14; go_must (refine (IR.out _ GW.out.nil).mono ?_; rintro e w2 ⟨v5, rfl, own5, fr2⟩; have M5 := hid own5.reads; obtain ⟨a5, c5, rfl, _, _⟩ := own5.reads.shape; have F2 := hid (GW.out.trans fr2.nil); have A2 := hid (fr2.keep _ _ A1.out (.inr (by simp))); have q0 := cell_of (o := 0) A2.out rfl; have q1 := cell_of (o := 1) A2.out rfl; clear own5 fr2))
   | (go_at_call 15; go_must (refine (SRF.out _ F2.out.nil).mono ?_; rintro e w3 ⟨v6, rfl, own6, fr3⟩; have M6 := hid own6.reads; obtain ⟨a6, c6, rfl, _, _⟩ := own6.reads.shape; have M56 := hid (M5.out.grow fr3); have F3 := hid (F2.out.trans fr3.nil); have A3 := hid (fr3.keep _ _ A2.out (.inr (by simp))); clear own6 fr3)))
  clear p0 p1 q0 q1 A1 A2 F2 M5 IR SRF
  obtain ⟨_, _, e5, _, hc5⟩ := M56.out.shape
  cases e5
  obtain ⟨_, _, e6, _, hc6⟩ := M6.out.shape
  cases e6
  have C5 := hid hc5
  have C6 := hid hc6
  clear hc5 hc6 M56 M6
  go_wp2
  go_loopw [10, 11] (fun sm i wr => ∃ k : Nat, k ≤ L.length ∧ i = .int .i64 k ∧ sm = .bool true ∧ wr.heap[w1.heap.size]? = some (.cells #[.slice ta c.txns.length tcap, .slice oa c.order.length ocap] 26 (0, 0)) ∧ Fr w1.heap.size [] w1 wr ∧ Fr 0 [] w3 wr) (fun _ i _ => L.length - (intOf i).toNat)
  case atStart => exact ⟨0, Nat.zero_le _, rfl, by simp, A3.out, F3.out, Fr.refl _ _ _⟩
  case round =>
   clear A3
   obtain ⟨k, hk, rfl, rfl, hB, hfr, hf3⟩ := hrel
   have HBR := hid hB
   have p0 := cell_of (o := 0) hB rfl
   have p1 := cell_of (o := 1) hB rfl
   have hbl := lt_of_get hB
   clear hB
   by_cases hlt : k < L.length
   ·have hki : (k : Int) < (L.length : Int) := by omega
    have hl3 : L.length ≤ 3 := LL.out
    rcases C5.out with h | ⟨b5, o5, rfl, hb5, hcc5⟩
    ·rw [h] at hlt; simp at hlt
    rcases C6.out with h | ⟨b6, o6, rfl, hb6, hcc6⟩
    ·rw [h] at hlt; simp at hlt
    obtain ⟨r5, s5, x5, y5⟩ := hcc5 k hlt
    obtain ⟨r6, s6, x6, y6⟩ := hcc6 k hlt
    have hb5' := Nat.lt_of_lt_of_le hb5 hf3.size
    have hb6' := Nat.lt_of_lt_of_le hb6 hf3.size
    have z5 : wr.cell? ⟨b5, o5 + k, none⟩ = _ := (hf3.nil (B' := w3.heap.size) (T := [])).cell hb5 x5
    have z6 : wr.cell? ⟨b6, o6 + k, none⟩ = _ := (hf3.nil (B' := w3.heap.size) (T := [])).cell hb6 x6
    have Y5 := hid (y5.grow hf3)
    have Y6 := hid (y6.grow hf3)
    have RL := hid (RW.out _ (List.getElem_mem hlt))
    clear hcc5 hcc6 x5 x6 y5 y6
    generalize L[k] = l at *
    go_wp2
    have fd := (Fr.refl wr.heap.size [] wr).drew
    first
    | go_region_held3 (fun z => z.cell? ⟨b5, o5 + k, none⟩ = some (.slice r5 l.length s5) ∧ z.cell? ⟨b6, o6 + k, none⟩ = some (.slice r6 l.length s6))
     (first
      | exact ⟨z5, z6⟩
      | exact r0
      | fail)
     (first
      | (go_at_call 16; go_must (refine (sameInts_eq _ _ _ _ l _ (Y5.out.grow fd) (Y6.out.grow fd) RL.out).mono ?_; rintro e w4 ⟨rfl, fr4⟩; have FF := hid (fd.nil.trans (fr4.nil (B' := 0) (T := []))); have r0 := (⟨fr4.cell hb5' (fd.cell hb5' z5), fr4.cell hb6' (fd.cell hb6' z6)⟩ : (w4.cell? ⟨b5, o5 + k, none⟩ = some (.slice r5 l.length s5) ∧ w4.cell? ⟨b6, o6 + k, none⟩ = some (.slice r6 l.length s6)))))
      | fail)
    | fail
    all_goals go_wp2
    go_roundw
    case rel => exact ⟨k + 1, by omega, by go_num, rfl, FF.out.keep _ _ HBR.out (.inr (by simp)), hfr.trans FF.out.nil, hf3.trans FF.out⟩
    case measure => simp [intOf]; omega
   ·obtain rfl : k = L.length := by omega
    have CR9 := hid (CR.out.grow hfr)
    have SR9 := hid (SR.out.grow hfr)
    have W9 := hid (F1.out.trans hfr.nil)
    have IRD := hid (fun (W : World) (hw : Fr 0 [] w1 W) => implReady_any w.heap.size _ _ _ c ss W (CR.out.grow hw) (SR.out.grow hw) CI.out sl9 SB.out)
    have SRD := hid (fun (W : World) (hw : Fr 0 [] w1 W) => specReady_any w.heap.size _ _ _ c ss W (CR.out.grow hw) CI.out (SR.out.grow hw) sl9 SM.out)
    obtain ⟨r, hr⟩ : ∃ r, r = ready c ss := ⟨_, rfl⟩
    rw [← hr] at IRD SRD SC
    have SC1 := SC.out
    clear hr SC
    by_cases hr0 : r < 0
    ·clear SC1
     cases q
     all_goals
      go_wp2_with (go_at_call 11; go_must (refine (SRD.out _ hfr.nil).mono ?_; rintro e w4 ⟨rfl, fr4⟩; have W4 := hid (W9.out.trans fr4.nil); clear fr4))
      go_ret
      exact ⟨ret_bool (by simp), W4.out⟩
    ·rcases SC1 with ⟨rfl, h0, h1⟩ | ⟨rfl, h0 | ⟨h0, h1⟩⟩
     ·have i0 : decide (0 ≤ x) = true := by simp; omega
      have i1 : decide (x ≤ r) = true := by simp; omega
      go_wp2_with (first
       | (go_at_call 11; go_must (refine (SRD.out _ hfr.nil).mono ?_; rintro e w4 ⟨rfl, fr4⟩; have W4 := hid (W9.out.trans fr4.nil); have H4 := hid (hfr.trans fr4.nil); have B4 := hid (fr4.keep _ _ HBR.out (.inr (by simp))); have q0 := cell_of (o := 0) B4.out rfl; have q1 := cell_of (o := 1) B4.out rfl; clear fr4))
       | (go_at_call 10; go_must (refine (IRD.out _ H4.out.nil).mono ?_; rintro e w5 ⟨rfl, fr5⟩; have W5 := hid (W4.out.trans fr5.nil); clear fr5)))
      go_ret
      exact ⟨ret_bool (by simp), W5.out⟩
     ·have i0 : decide (0 ≤ x) = false := by simp; omega
      have i1 : ¬ 0 ≤ x := by omega
      go_wp2_with (first
       | (go_at_call 11; go_must (refine (SRD.out _ hfr.nil).mono ?_; rintro e w4 ⟨rfl, fr4⟩; have W4 := hid (W9.out.trans fr4.nil); have H4 := hid (hfr.trans fr4.nil); have B4 := hid (fr4.keep _ _ HBR.out (.inr (by simp))); have q0 := cell_of (o := 0) B4.out rfl; have q1 := cell_of (o := 1) B4.out rfl; clear fr4)))
      go_ret
      exact ⟨ret_bool (by simp), W4.out⟩
     ·have i0 : decide (0 ≤ x) = true := by simp; omega
      have i1 : decide (x ≤ r) = false := by simp; omega
      have i2 : ¬ x ≤ r := by omega
      go_wp2_with (first
       | (go_at_call 11; go_must (refine (SRD.out _ hfr.nil).mono ?_; rintro e w4 ⟨rfl, fr4⟩; have W4 := hid (W9.out.trans fr4.nil); have H4 := hid (hfr.trans fr4.nil); have B4 := hid (fr4.keep _ _ HBR.out (.inr (by simp))); have q0 := cell_of (o := 0) B4.out rfl; have q1 := cell_of (o := 1) B4.out rfl; clear fr4))
       | (go_at_call 10; go_must (refine (IRD.out _ H4.out.nil).mono ?_; rintro e w5 ⟨rfl, fr5⟩; have W5 := hid (W4.out.trans fr5.nil); clear fr5)))
      go_ret
      exact ⟨ret_bool (by simp), W5.out⟩
 ·have in1 : (1048576 : Int) < (n : Int) := by omega
  go_enter Tryz.func5, Tryz.ntmps5
  go_wp2
  go_ret
  exact ⟨rfl, Fr.refl _ _ _⟩

end Go.Proofs.YtknoanpgadecbaaGreat
