/- The reference's l51Do. -/
import Derived.Test.YtknoanpgadecbaaGreatDoorQCoWTxn
import Derived.Test.YtknoanpgadecbaaGreatDoorQDraw2
import Derived.Outline
import Derived.Deep.CutBlock
import Derived.Test.YtknoanpgadecbaaGreatDoorQM6
import Derived.Test.YtknoanpgadecbaaGreatDoorQM2
set_option linter.unusedVariables false
set_option linter.unusedSimpArgs false
namespace Go.Proofs.YtknoanpgadecbaaGreatDoor
open Go.RowKit
set_option linter.unusedVariables false

set_option maxRecDepth 20000 in
set_option maxHeartbeats 8000000 in
theorem l51Do_any (lo : Nat) (v1 v2 v3 v4 : Value) (d : Wd) (ek ea eb ec : Int) (w : World) (hv : WdR lo w v1 v2 v3 v4 d) (hlo : lo ≤ w.heap.size) (hi : WdI d) :
  Calls Tryz.prog 69 #[.agg #[v1, v2, v3, v4], .agg #[.int .i64 ek, .int .i64 ea, .int .i64 eb, .int .i64 ec]] w (WdOut lo w) := by
 obtain ⟨ta, tcap, rfl, _, _⟩ := hv.1.1.shape
 obtain ⟨oa, ocap, rfl, _, _⟩ := hv.1.2.shape
 obtain ⟨sa, scap, rfl, _, _⟩ := hv.2.1.shape
 obtain ⟨na, ncap, rfl, hnc, _⟩ := hv.2.2.shape
 have HV := hid hv
 have WI := hid hi
 clear hv hi
 have FA := hid ((((Fr.refl w.heap.size [] w).alloc (.cells #[.slice ta d.co.txns.length tcap, .slice oa d.co.order.length ocap, .slice sa d.shards.length scap, .slice na d.net.length ncap] 30)).alloc (.cells #[.int .i64 ek, .int .i64 ea, .int .i64 eb, .int .i64 ec] 36)).alloc (.cells #[.slice none 0 0, .slice none 0 0, .slice none 0 0, .slice none 0 0] 30))
 have B2 := hid (show (((w.alloc (.cells #[.slice ta d.co.txns.length tcap, .slice oa d.co.order.length ocap, .slice sa d.shards.length scap, .slice na d.net.length ncap] 30)).alloc (.cells #[.int .i64 ek, .int .i64 ea, .int .i64 eb, .int .i64 ec] 36)).alloc (.cells #[.slice none 0 0, .slice none 0 0, .slice none 0 0, .slice none 0 0] 30)).heap[w.heap.size + 2]? = some (.cells #[.slice none 0 0, .slice none 0 0, .slice none 0 0, .slice none 0 0] 30 (0, 0)) by
  have := heap_alloc_new ((w.alloc (.cells #[.slice ta d.co.txns.length tcap, .slice oa d.co.order.length ocap, .slice sa d.shards.length scap, .slice na d.net.length ncap] 30)).alloc (.cells #[.int .i64 ek, .int .i64 ea, .int .i64 eb, .int .i64 ec] 36)) (.cells #[.slice none 0 0, .slice none 0 0, .slice none 0 0, .slice none 0 0] 30)
  simpa using this)
 by_cases h1 : ek = 1
 ·subst h1
  go_enter Tryz.func69, Tryz.ntmps69
  go_wp2_with (go_at_call 107; go_must (refine (l51Begin_any lo _ _ _ _ d _ ea eb ec _ (HV.out.grow FA.out) (Nat.le_trans hlo FA.out.size) WI.out).mono ?_; rintro e w7 ⟨u1, u2, u3, u4, d', rfl, wr, wi, fr7⟩; obtain ⟨ua, ucap, rfl, _, _⟩ := wr.1.1.shape; obtain ⟨ub, ubcap, rfl, _, _⟩ := wr.1.2.shape; obtain ⟨uc, uccap, rfl, _, _⟩ := wr.2.1.shape; obtain ⟨ud, udcap, rfl, _, _⟩ := wr.2.2.shape; have WR7 := hid wr; have WI7 := hid wi; have FR7 := hid fr7; have G1 := hid (fr7.keep _ _ B2.out (.inr (by simp))); have s4 := fun o => free_of (o := o) G1.out; have s5 := cell_of (o := 0) G1.out rfl; have s6 := cell_of (o := 1) G1.out rfl; have s7 := cell_of (o := 2) G1.out rfl; have s8 := cell_of (o := 3) G1.out rfl; have hlG := lt_of_get G1.out; clear wr wi fr7))
  have F7 := FA.out.trans FR7.out.nil
  have h4 := box4 (u1 := .slice ua d'.co.txns.length ucap) (u2 := .slice ub d'.co.order.length ubcap) (u3 := .slice uc d'.shards.length uccap) (u4 := .slice ud d'.net.length udcap) G1.out
  have g0 := cell_of (o := 0) h4 rfl
  have g1 := cell_of (o := 1) h4 rfl
  have g2 := cell_of (o := 2) h4 rfl
  have g3 := cell_of (o := 3) h4 rfl
  have FT := box4_fr (u1 := .slice ua d'.co.txns.length ucap) (u2 := .slice ub d'.co.order.length ubcap) (u3 := .slice uc d'.shards.length uccap) (u4 := .slice ud d'.net.length udcap) G1.out
  exact bodyPost_ret (v := .agg #[.slice ua d'.co.txns.length ucap, .slice ub d'.co.order.length ubcap, .slice uc d'.shards.length uccap, .slice ud d'.net.length udcap]) (by simp [results, Tryz.results69, go_sem, g0, g1, g2, g3]) rfl ⟨_, _, _, _, d', rfl, WR7.out.tk FT (by simp [Apt]), WI7.out, (((F7.setNew (p := ⟨w.heap.size + 2, 0, none⟩) (by dsimp only; omega) _).setNew (p := ⟨w.heap.size + 2, 1, none⟩) (by dsimp only; omega) _).setNew (p := ⟨w.heap.size + 2, 2, none⟩) (by dsimp only; omega) _).setNew (by dsimp only; omega) _⟩
 ·have q1 : (ek == 1) = false := by simpa using h1
  by_cases h2 : ek = 2
  ·subst h2
   go_enter Tryz.func69, Tryz.ntmps69
   go_wp2_with (go_at_call 108; go_must (refine (l51Net_any lo _ _ _ _ d _ ea eb ec _ (HV.out.grow FA.out) (Nat.le_trans hlo FA.out.size) WI.out).mono ?_; rintro e w7 ⟨u1, u2, u3, u4, d', rfl, wr, wi, fr7⟩; obtain ⟨ua, ucap, rfl, _, _⟩ := wr.1.1.shape; obtain ⟨ub, ubcap, rfl, _, _⟩ := wr.1.2.shape; obtain ⟨uc, uccap, rfl, _, _⟩ := wr.2.1.shape; obtain ⟨ud, udcap, rfl, _, _⟩ := wr.2.2.shape; have WR7 := hid wr; have WI7 := hid wi; have FR7 := hid fr7; have G1 := hid (fr7.keep _ _ B2.out (.inr (by simp))); have s4 := fun o => free_of (o := o) G1.out; have s5 := cell_of (o := 0) G1.out rfl; have s6 := cell_of (o := 1) G1.out rfl; have s7 := cell_of (o := 2) G1.out rfl; have s8 := cell_of (o := 3) G1.out rfl; have hlG := lt_of_get G1.out; clear wr wi fr7))
   have F7 := FA.out.trans FR7.out.nil
   have h4 := box4 (u1 := .slice ua d'.co.txns.length ucap) (u2 := .slice ub d'.co.order.length ubcap) (u3 := .slice uc d'.shards.length uccap) (u4 := .slice ud d'.net.length udcap) G1.out
   have g0 := cell_of (o := 0) h4 rfl
   have g1 := cell_of (o := 1) h4 rfl
   have g2 := cell_of (o := 2) h4 rfl
   have g3 := cell_of (o := 3) h4 rfl
   have FT := box4_fr (u1 := .slice ua d'.co.txns.length ucap) (u2 := .slice ub d'.co.order.length ubcap) (u3 := .slice uc d'.shards.length uccap) (u4 := .slice ud d'.net.length udcap) G1.out
   exact bodyPost_ret (v := .agg #[.slice ua d'.co.txns.length ucap, .slice ub d'.co.order.length ubcap, .slice uc d'.shards.length uccap, .slice ud d'.net.length udcap]) (by simp [results, Tryz.results69, go_sem, g0, g1, g2, g3]) rfl ⟨_, _, _, _, d', rfl, WR7.out.tk FT (by simp [Apt]), WI7.out, (((F7.setNew (p := ⟨w.heap.size + 2, 0, none⟩) (by dsimp only; omega) _).setNew (p := ⟨w.heap.size + 2, 1, none⟩) (by dsimp only; omega) _).setNew (p := ⟨w.heap.size + 2, 2, none⟩) (by dsimp only; omega) _).setNew (by dsimp only; omega) _⟩
  ·have q2 : (ek == 2) = false := by simpa using h2
   by_cases h3 : ek = 3
   ·subst h3
    go_enter Tryz.func69, Tryz.ntmps69
    go_wp2_with (go_at_call 108; go_must (refine (l51Net_any lo _ _ _ _ d _ ea eb ec _ (HV.out.grow FA.out) (Nat.le_trans hlo FA.out.size) WI.out).mono ?_; rintro e w7 ⟨u1, u2, u3, u4, d', rfl, wr, wi, fr7⟩; obtain ⟨ua, ucap, rfl, _, _⟩ := wr.1.1.shape; obtain ⟨ub, ubcap, rfl, _, _⟩ := wr.1.2.shape; obtain ⟨uc, uccap, rfl, _, _⟩ := wr.2.1.shape; obtain ⟨ud, udcap, rfl, _, _⟩ := wr.2.2.shape; have WR7 := hid wr; have WI7 := hid wi; have FR7 := hid fr7; have G1 := hid (fr7.keep _ _ B2.out (.inr (by simp))); have s4 := fun o => free_of (o := o) G1.out; have s5 := cell_of (o := 0) G1.out rfl; have s6 := cell_of (o := 1) G1.out rfl; have s7 := cell_of (o := 2) G1.out rfl; have s8 := cell_of (o := 3) G1.out rfl; have hlG := lt_of_get G1.out; clear wr wi fr7))
    have F7 := FA.out.trans FR7.out.nil
    have h4 := box4 (u1 := .slice ua d'.co.txns.length ucap) (u2 := .slice ub d'.co.order.length ubcap) (u3 := .slice uc d'.shards.length uccap) (u4 := .slice ud d'.net.length udcap) G1.out
    have g0 := cell_of (o := 0) h4 rfl
    have g1 := cell_of (o := 1) h4 rfl
    have g2 := cell_of (o := 2) h4 rfl
    have g3 := cell_of (o := 3) h4 rfl
    have FT := box4_fr (u1 := .slice ua d'.co.txns.length ucap) (u2 := .slice ub d'.co.order.length ubcap) (u3 := .slice uc d'.shards.length uccap) (u4 := .slice ud d'.net.length udcap) G1.out
    exact bodyPost_ret (v := .agg #[.slice ua d'.co.txns.length ucap, .slice ub d'.co.order.length ubcap, .slice uc d'.shards.length uccap, .slice ud d'.net.length udcap]) (by simp [results, Tryz.results69, go_sem, g0, g1, g2, g3]) rfl ⟨_, _, _, _, d', rfl, WR7.out.tk FT (by simp [Apt]), WI7.out, (((F7.setNew (p := ⟨w.heap.size + 2, 0, none⟩) (by dsimp only; omega) _).setNew (p := ⟨w.heap.size + 2, 1, none⟩) (by dsimp only; omega) _).setNew (p := ⟨w.heap.size + 2, 2, none⟩) (by dsimp only; omega) _).setNew (by dsimp only; omega) _⟩
   ·have q3 : (ek == 3) = false := by simpa using h3
    by_cases h4 : ek = 4
    ·subst h4
     go_enter Tryz.func69, Tryz.ntmps69
     go_wp2_with (go_at_call 108; go_must (refine (l51Net_any lo _ _ _ _ d _ ea eb ec _ (HV.out.grow FA.out) (Nat.le_trans hlo FA.out.size) WI.out).mono ?_; rintro e w7 ⟨u1, u2, u3, u4, d', rfl, wr, wi, fr7⟩; obtain ⟨ua, ucap, rfl, _, _⟩ := wr.1.1.shape; obtain ⟨ub, ubcap, rfl, _, _⟩ := wr.1.2.shape; obtain ⟨uc, uccap, rfl, _, _⟩ := wr.2.1.shape; obtain ⟨ud, udcap, rfl, _, _⟩ := wr.2.2.shape; have WR7 := hid wr; have WI7 := hid wi; have FR7 := hid fr7; have G1 := hid (fr7.keep _ _ B2.out (.inr (by simp))); have s4 := fun o => free_of (o := o) G1.out; have s5 := cell_of (o := 0) G1.out rfl; have s6 := cell_of (o := 1) G1.out rfl; have s7 := cell_of (o := 2) G1.out rfl; have s8 := cell_of (o := 3) G1.out rfl; have hlG := lt_of_get G1.out; clear wr wi fr7))
     have F7 := FA.out.trans FR7.out.nil
     have h4 := box4 (u1 := .slice ua d'.co.txns.length ucap) (u2 := .slice ub d'.co.order.length ubcap) (u3 := .slice uc d'.shards.length uccap) (u4 := .slice ud d'.net.length udcap) G1.out
     have g0 := cell_of (o := 0) h4 rfl
     have g1 := cell_of (o := 1) h4 rfl
     have g2 := cell_of (o := 2) h4 rfl
     have g3 := cell_of (o := 3) h4 rfl
     have FT := box4_fr (u1 := .slice ua d'.co.txns.length ucap) (u2 := .slice ub d'.co.order.length ubcap) (u3 := .slice uc d'.shards.length uccap) (u4 := .slice ud d'.net.length udcap) G1.out
     exact bodyPost_ret (v := .agg #[.slice ua d'.co.txns.length ucap, .slice ub d'.co.order.length ubcap, .slice uc d'.shards.length uccap, .slice ud d'.net.length udcap]) (by simp [results, Tryz.results69, go_sem, g0, g1, g2, g3]) rfl ⟨_, _, _, _, d', rfl, WR7.out.tk FT (by simp [Apt]), WI7.out, (((F7.setNew (p := ⟨w.heap.size + 2, 0, none⟩) (by dsimp only; omega) _).setNew (p := ⟨w.heap.size + 2, 1, none⟩) (by dsimp only; omega) _).setNew (p := ⟨w.heap.size + 2, 2, none⟩) (by dsimp only; omega) _).setNew (by dsimp only; omega) _⟩
    ·have q4 : (ek == 4) = false := by simpa using h4
     go_enter Tryz.func69, Tryz.ntmps69
     go_wp2_with (go_at_call 109; go_must (refine (l51Txn_any lo _ _ _ _ d _ ea eb ec _ (HV.out.grow FA.out) (Nat.le_trans hlo FA.out.size) WI.out).mono ?_; rintro e w7 ⟨u1, u2, u3, u4, d', rfl, wr, wi, fr7⟩; obtain ⟨ua, ucap, rfl, _, _⟩ := wr.1.1.shape; obtain ⟨ub, ubcap, rfl, _, _⟩ := wr.1.2.shape; obtain ⟨uc, uccap, rfl, _, _⟩ := wr.2.1.shape; obtain ⟨ud, udcap, rfl, _, _⟩ := wr.2.2.shape; have WR7 := hid wr; have WI7 := hid wi; have FR7 := hid fr7; have G1 := hid (fr7.keep _ _ B2.out (.inr (by simp))); have s4 := fun o => free_of (o := o) G1.out; have s5 := cell_of (o := 0) G1.out rfl; have s6 := cell_of (o := 1) G1.out rfl; have s7 := cell_of (o := 2) G1.out rfl; have s8 := cell_of (o := 3) G1.out rfl; have hlG := lt_of_get G1.out; clear wr wi fr7))
     have F7 := FA.out.trans FR7.out.nil
     have h4 := box4 (u1 := .slice ua d'.co.txns.length ucap) (u2 := .slice ub d'.co.order.length ubcap) (u3 := .slice uc d'.shards.length uccap) (u4 := .slice ud d'.net.length udcap) G1.out
     have g0 := cell_of (o := 0) h4 rfl
     have g1 := cell_of (o := 1) h4 rfl
     have g2 := cell_of (o := 2) h4 rfl
     have g3 := cell_of (o := 3) h4 rfl
     have FT := box4_fr (u1 := .slice ua d'.co.txns.length ucap) (u2 := .slice ub d'.co.order.length ubcap) (u3 := .slice uc d'.shards.length uccap) (u4 := .slice ud d'.net.length udcap) G1.out
     exact bodyPost_ret (v := .agg #[.slice ua d'.co.txns.length ucap, .slice ub d'.co.order.length ubcap, .slice uc d'.shards.length uccap, .slice ud d'.net.length udcap]) (by simp [results, Tryz.results69, go_sem, g0, g1, g2, g3]) rfl ⟨_, _, _, _, d', rfl, WR7.out.tk FT (by simp [Apt]), WI7.out, (((F7.setNew (p := ⟨w.heap.size + 2, 0, none⟩) (by dsimp only; omega) _).setNew (p := ⟨w.heap.size + 2, 1, none⟩) (by dsimp only; omega) _).setNew (p := ⟨w.heap.size + 2, 2, none⟩) (by dsimp only; omega) _).setNew (by dsimp only; omega) _⟩

theorem SlR.zero {K : Nat → Bool → Prop} {E sz : Nat} {w : World} (a : Option Addr) : SlR K E sz w (.slice a 0 0) 0 [] :=
 ⟨a, 0, rfl, by simp, Nat.le_refl _, fun _ => ⟨rfl, rfl⟩, fun h => absurd h (Nat.lt_irrefl _)⟩

theorem worldNew_any (w : World) : Calls Tryz.prog 70 #[] w (WdOut w.heap.size w) := by
 refine (specNew_any w).mono ?_
 rintro e w2 ⟨t, o, u, n, xs, rfl, own, hx, fr⟩
 have hl : xs.length = 3 := by have := own.1; simpa using this
 refine ⟨_, _, _, _, ⟨⟨[], []⟩, List.replicate 3 [], []⟩, rfl, ⟨⟨⟨[], rfl, SlR.zero t, fun z hz => by cases hz⟩, SlR.zero o⟩, ⟨xs.map fun x => ([], x), ?_, ?_, fun z hz => ?_⟩, SlR.zero n⟩, ⟨CoI.nil, rfl, fun rs hrs => ?_, by simp, fun m hm => by cases hm⟩, fr⟩
 ·rw [List.map_map]
  match xs, hl with
  | [a, b, c], _ => rfl
 ·have h := SlR.ofOwns own
  rw [List.map_map]
  simpa [Function.comp_def] using h
 ·obtain ⟨x, hx', rfl⟩ := List.mem_map.1 hz
  obtain ⟨a, rfl⟩ := hx x hx'
  exact ⟨[], rfl, SlR.zero a, fun z hz => by cases hz⟩
 ·obtain rfl := List.eq_of_mem_replicate hrs
  exact ShI.nil

structure EvS (B r E : Nat) (w0 : World) (m : Nat) (w : World) : Prop where
 lo : r < E
 ne : w0.heap.size ≤ E
 ne1 : E ≠ w0.heap.size + 1
 rb : w.heap[w0.heap.size + 1]? = some (.cells #[.int .i64 0, .int .i64 0, .int .i64 0, .int .i64 0] 36 (0, 0))
 rd : ∃ q, q ≤ m ∧ Rdr B w r q
 box : ∃ a b c d : Int, w.heap[E]? = some (.cells #[.int .i64 a, .int .i64 b, .int .i64 c, .int .i64 d] 36 (0, 0))
 fr : Fr B [86] w0 w

theorem EvS.set {B r E m : Nat} {w0 w : World} (h : EvS B r E w0 m w) {j : Nat} {x : Int} : EvS B r E w0 m (w.setCell ⟨E, j, none⟩ (.int .i64 x)) := by
 obtain ⟨q, h1, h2⟩ := h.rd
 obtain ⟨a, b, c, d, hb⟩ := h.box
 refine ⟨h.lo, h.ne, h.ne1, block_setne h.rb (by have := h.ne1; dsimp only; omega), ⟨q, h1, h2.setAbove h.lo⟩, ?_, h.fr.setNew h.ne _⟩
 have := block_set hb j (.int .i64 x)
 match j with
 | 0 => exact ⟨x, b, c, d, by simpa using this⟩
 | 1 => exact ⟨a, x, c, d, by simpa using this⟩
 | 2 => exact ⟨a, b, x, d, by simpa using this⟩
 | 3 => exact ⟨a, b, c, x, by simpa using this⟩
 | j + 4 => exact ⟨a, b, c, d, by simpa using this⟩

theorem EvS.alloc {B r E m : Nat} {w0 w : World} (h : EvS B r E w0 m w) (o : Obj) : EvS B r E w0 m (w.alloc o) := by
 obtain ⟨q, h1, h2⟩ := h.rd
 obtain ⟨a, b, c, d, hb⟩ := h.box
 exact ⟨h.lo, h.ne, h.ne1, heap_up h.rb o, ⟨q, h1, h2.alloc o⟩, ⟨a, b, c, d, heap_up hb o⟩, h.fr.alloc o⟩

theorem EvS.drew {B r E m : Nat} {w0 w : World} (h : EvS B r E w0 m w) : EvS B r E w0 m w.drew := by
 obtain ⟨q, h1, h2⟩ := h.rd
 obtain ⟨a, b, c, d, hb⟩ := h.box
 exact ⟨h.lo, h.ne, h.ne1, h.rb, ⟨q, h1, h2.keep (Fr.refl B [] w).drew (by simp)⟩, ⟨a, b, c, d, hb⟩, h.fr.drew⟩

theorem EvS.pick {B r E m : Nat} {w0 w : World} (n : Int) (h : EvS B r E w0 m w) (hm : m ≤ 1000000000) :
  Calls Tryz.prog 34 #[.pointer (some ⟨r, 0, none⟩), .int .i64 n] w fun e w' => ∃ k : Nat, e = .returned (.int .i64 (k : Int)) ∧ (k = 0 ∨ (k : Int) < n) ∧ EvS B r E w0 (m + 1) w' ∧ Fr B [86] w w' := by
 obtain ⟨q, h1, h2⟩ := h.rd
 obtain ⟨a, b, c, d, hb⟩ := h.box
 refine (pick_at (n := n) h2 (by omega)).mono ?_
 rintro e w' ⟨k, rfl, hk, hR, hf⟩
 exact ⟨k, rfl, hk, ⟨h.lo, h.ne, h.ne1, hf.keep _ _ h.rb (.inr (by simp [otag])), ⟨_, by omega, hR⟩, ⟨a, b, c, d, hf.keep _ _ hb (.inr (by simp [otag]))⟩, h.fr.trans hf⟩, hf⟩

theorem EvS.more {B r E m m' : Nat} {w0 w : World} (h : EvS B r E w0 m w) (hm : m ≤ m') : EvS B r E w0 m' w := by
 obtain ⟨q, h1, h2⟩ := h.rd
 exact ⟨h.lo, h.ne, h.ne1, h.rb, ⟨q, by omega, h2⟩, h.box, h.fr⟩

def DrawE (B r p : Nat) (w : World) (e : Ending) (w' : World) : Prop :=
 ∃ (k a b c : Int) (q : Nat), e = .returned (.agg #[.int .i64 k, .int .i64 a, .int .i64 b, .int .i64 c]) ∧ Rdr B w' r q ∧ q ≤ p + 20 ∧ Fr B [86] w w'

set_option maxRecDepth 20000 in
set_option maxHeartbeats 4000000 in
theorem l92Event_any {B r p : Nat} {w : World} (ta oa sa na : Option Addr) (tn tc on oc sn sc nn nc : Nat) (hR : Rdr B w r p) (hp : p ≤ 999990000) (h1 : tn ≤ 1000) (h2 : nn ≤ 1000) :
  Calls Tryz.prog 71 #[.pointer (some ⟨r, 0, none⟩), .agg #[.slice ta tn tc, .slice oa on oc, .slice sa sn sc, .slice na nn nc]] w (DrawE B r p w) := by
 have hB : B ≤ w.heap.size := Nat.le_trans hR.1 (Nat.le_of_lt hR.lt)
 have HR := hid hR
 clear hR
 have F0 := hid (((Fr.refl B [86] w).alloc (.cells #[.slice ta tn tc, .slice oa on oc, .slice sa sn sc, .slice na nn nc] 30)).alloc (.cells #[.int .i64 0, .int .i64 0, .int .i64 0, .int .i64 0] 36))
 have R0 := hid (two_boxes w (.cells #[.slice ta tn tc, .slice oa on oc, .slice sa sn sc, .slice na nn nc] 30) (.cells #[.int .i64 0, .int .i64 0, .int .i64 0, .int .i64 0] 36))
 go_enter Tryz.func71, Tryz.ntmps71
 go_upto_block 0 with (first
  | (go_at_call 34; (with_reducible refine (pick_at ((HR.out.alloc _).alloc _) (by omega)).mono ?_); go_must (rintro e w1 ⟨k1, rfl, hk1, hR1, hf1⟩; have R1 := hid (hf1.keep _ _ R0.out.1 (.inr (by simp [otag]))); have R2 := hid (hf1.keep _ _ R0.out.2 (.inr (by simp [otag]))); have F1 := hid (F0.out.trans hf1); have c1 := cell_of (o := 0) R1.out rfl; have c2 := cell_of (o := 3) R1.out rfl; have hl1 := lt_of_get R1.out; have hl2 := lt_of_get R2.out))
  | (go_at_call 34; (with_reducible refine (pick_at (n := 20) hR2 (by omega)).mono ?_); go_must (rintro e w3 ⟨k3, rfl, hk3, hR3, hf3⟩))
  | (go_at_call 34; (with_reducible refine (pick_at (hR1.alloc _) (by omega)).mono ?_); go_must (rintro e w2 ⟨k2, rfl, hk2, hR2, hf2⟩)))
 all_goals
  have hE : w.heap.size + 1 + 1 ≤ w1.heap.size := by omega
  have hk3' : (k3 : Int) < 20 := by omega
  have A1 := heap_alloc_new w1 (.cells #[.int .i64 0, .int .i64 (k1 : Int), .int .i64 0, .int .i64 0] 36)
  have ES : EvS B r w1.heap.size w (p + 3) w3 := ⟨Nat.lt_of_lt_of_le HR.out.lt (by omega), by omega, by omega, (hf2.trans hf3).keep _ _ (heap_up R2.out _) (.inr (by simp [otag])), ⟨_, by omega, hR3⟩, ⟨0, k1, 0, 0, (hf2.trans hf3).keep _ _ A1 (.inr (by simp [otag]))⟩, ((F1.out.alloc _).trans hf2).trans hf3⟩
  clear A1
  obtain ⟨E, hE'⟩ : ∃ E, E = w1.heap.size := ⟨_, rfl⟩
  rw [← hE'] at ES ⊢
 clear R1 R2 hR1 hR2 hR3 hf1 hf2 hf3 c1 c2 hl1 hl2 hk1 hk2 hk3 F0 R0 F1 hE hE'
 have bx := hid ES.box
 obtain ⟨ea, eb, ec, ed, hbx⟩ := bx.out
 have bf := fun o => free_of (o := o) hbx
 have bl := lt_of_get hbx
 have b0 := cell_of (o := 0) hbx rfl
 have b1 := cell_of (o := 1) hbx rfl
 have b2 := cell_of (o := 2) hbx rfl
 have b3 := cell_of (o := 3) hbx rfl
 replace ES := hid ES
 clear hbx bx
 go_cut [6] (fun v wx => v = .int .i64 k2 ∧ EvS B r E w (p + 10) wx)
 case first =>
  go_wp2_with ((go_at_call 34; go_must (refine (EvS.pick _ (by first | with_reducible exact ES.out | with_reducible exact EvS.set ES.out | with_reducible exact EvS.set (EvS.set (EvS.set (EvS.set ES.out)))) (by omega)).mono ?_; rintro e w4 ⟨k4, rfl, hk4, es, hf4⟩; have ES := hid es; obtain ⟨ea, eb, ec, ed, hbx⟩ := es.box; have bf := fun o => free_of (o := o) hbx; have bl := lt_of_get hbx; have b0 := cell_of (o := 0) hbx rfl; have b1 := cell_of (o := 1) hbx rfl; have b2 := cell_of (o := 2) hbx rfl; have b3 := cell_of (o := 3) hbx rfl; clear es hbx hf4)))
  all_goals go_meet
  all_goals (refine ⟨rfl, ?_⟩; refine EvS.more (m := ?_) ?_ ?_; rotate_left; (first | with_reducible exact ES.out | with_reducible exact EvS.set ES.out | with_reducible exact EvS.set (EvS.set ES.out) | with_reducible exact EvS.set (EvS.set (EvS.set (EvS.set ES.out))) | with_reducible exact EvS.set (EvS.set (EvS.set (EvS.set (EvS.set ES.out))))); omega)
 case rest =>
  obtain ⟨rfl, es⟩ := hcut
  clear b0 b1 b2 b3 bf bl ES hk3'
  obtain ⟨ea, eb, ec, ed, hbx⟩ := es.box
  have bf := fun o => free_of (o := o) hbx
  have bl := lt_of_get hbx
  have b0 := cell_of (o := 0) hbx rfl
  have b1 := cell_of (o := 1) hbx rfl
  have b2 := cell_of (o := 2) hbx rfl
  have b3 := cell_of (o := 3) hbx rfl
  have ES := hid es
  clear es hbx
  go_upto_block 1 with ((go_at_call 34; go_must (refine (EvS.pick _ (by first | with_reducible exact ES.out | with_reducible exact EvS.set ES.out | with_reducible exact EvS.set (EvS.set (EvS.set (EvS.set ES.out)))) (by omega)).mono ?_; rintro e w4 ⟨k4, rfl, hk4, es, hf4⟩; have ES := hid es; obtain ⟨ea, eb, ec, ed, hbx⟩ := es.box; have bf := fun o => free_of (o := o) hbx; have bl := lt_of_get hbx; have b0 := cell_of (o := 0) hbx rfl; have b1 := cell_of (o := 1) hbx rfl; have b2 := cell_of (o := 2) hbx rfl; have b3 := cell_of (o := 3) hbx rfl; clear es hbx hf4)))
  go_cut [6] (fun v wx => v = .int .i64 k2 ∧ EvS B r E w (p + 15) wx)
  case first =>
   go_wp2_with (first
    | (go_at_call 34; (with_reducible refine (EvS.pick _ ES.out (by omega)).mono ?_); go_must (rintro e w4 ⟨k4, rfl, hk4, es, hf4⟩; have ES := hid es; obtain ⟨ea, eb, ec, ed, hbx⟩ := es.box; have bf := fun o => free_of (o := o) hbx; have bl := lt_of_get hbx; have b0 := cell_of (o := 0) hbx rfl; have b1 := cell_of (o := 1) hbx rfl; have b2 := cell_of (o := 2) hbx rfl; have b3 := cell_of (o := 3) hbx rfl; clear es hbx hf4))
    | (go_at_call 34; go_must (refine (EvS.pick 3 (ES.out.alloc (.cells #[.int .i64 (-2), .int .i64 990, .int .i64 991] 3)) (by omega)).mono ?_; rintro e w5 ⟨k5, rfl, hk5, es, hf5⟩; have hj3 : k5 < 3 := (by omega); have hcb := hf5.keep _ _ (heap_alloc_new _ (.cells #[.int .i64 (-2), .int .i64 990, .int .i64 991] 3)) (.inr (by simp [otag])); obtain ⟨m, hm, hmm⟩ := cell3 hcb hj3; have hj3' : (k5 : Int) < 3 := (by omega); have ES := hid es; obtain ⟨ea, eb, ec, ed, hbx⟩ := es.box; have bf := fun o => free_of (o := o) hbx; have bl := lt_of_get hbx; have b0 := cell_of (o := 0) hbx rfl; have b1 := cell_of (o := 1) hbx rfl; have b2 := cell_of (o := 2) hbx rfl; have b3 := cell_of (o := 3) hbx rfl; clear es hbx hf5 hcb hmm)))
   all_goals go_meet
   all_goals (refine ⟨rfl, ?_⟩; refine EvS.more (m := ?_) ?_ ?_; rotate_left; (first | with_reducible exact ES.out | with_reducible exact EvS.set ES.out | with_reducible exact EvS.set (EvS.set ES.out) | with_reducible exact EvS.set (EvS.set (EvS.set (EvS.set ES.out))) | with_reducible exact EvS.set (EvS.set (EvS.set (EvS.set (EvS.set ES.out))))); omega)
  case rest =>
   obtain ⟨rfl, es⟩ := hcut
   clear b0 b1 b2 b3 bf bl ES
   obtain ⟨ea, eb, ec, ed, hbx⟩ := es.box
   have bf := fun o => free_of (o := o) hbx
   have bl := lt_of_get hbx
   have b0 := cell_of (o := 0) hbx rfl
   have b1 := cell_of (o := 1) hbx rfl
   have b2 := cell_of (o := 2) hbx rfl
   have b3 := cell_of (o := 3) hbx rfl
   have ES := hid es
   have RB := hid es.rb
   have q4 := fun o => free_of (o := o) RB.out
   have q5 := cell_of (o := 0) RB.out rfl
   have q6 := cell_of (o := 1) RB.out rfl
   have q7 := cell_of (o := 2) RB.out rfl
   have q8 := cell_of (o := 3) RB.out rfl
   have hlq := lt_of_get RB.out
   clear es hbx
   go_wp2
   have h4 := box4 (u1 := .int .i64 ea) (u2 := .int .i64 eb) (u3 := .int .i64 ec) (u4 := .int .i64 ed) RB.out
   have g0 := cell_of (o := 0) h4 rfl
   have g1 := cell_of (o := 1) h4 rfl
   have g2 := cell_of (o := 2) h4 rfl
   have g3 := cell_of (o := 3) h4 rfl
   obtain ⟨q, hq, hR⟩ := ES.out.rd
   have hr1 : r < w.heap.size + 1 := by have := HR.out.lt; omega
   exact bodyPost_ret (v := .agg #[.int .i64 ea, .int .i64 eb, .int .i64 ec, .int .i64 ed]) (by simp [results, Tryz.results71, go_sem, g0, g1, g2, g3]) rfl ⟨ea, eb, ec, ed, q, rfl, (((hR.setAbove (q := ⟨w.heap.size + 1, 0, none⟩) hr1).setAbove (q := ⟨w.heap.size + 1, 1, none⟩) hr1).setAbove (q := ⟨w.heap.size + 1, 2, none⟩) hr1).setAbove (q := ⟨w.heap.size + 1, 3, none⟩) hr1, by omega, (((ES.out.fr.setNew (p := ⟨w.heap.size + 1, 0, none⟩) (by dsimp only; omega) _).setNew (p := ⟨w.heap.size + 1, 1, none⟩) (by dsimp only; omega) _).setNew (p := ⟨w.heap.size + 1, 2, none⟩) (by dsimp only; omega) _).setNew (by dsimp only; omega) _⟩

def DrawW (B r p : Nat) (w : World) (e : Ending) (w' : World) : Prop :=
 ∃ v1 v2 v3 v4 d q, e = .returned (.agg #[v1, v2, v3, v4]) ∧ WdR 0 w' v1 v2 v3 v4 d ∧ WdI d ∧ Rdr B w' r q ∧ q ≤ p + 2000 ∧ Fr B [86] w w'

theorem WdI.len {d : Wd} (h : WdI d) : d.co.txns.length ≤ 1000 ∧ d.net.length ≤ 1000 := ⟨by have := h.1.2.1; omega, by have := h.2.2.2.1; omega⟩

set_option maxRecDepth 20000 in
set_option maxHeartbeats 4000000 in
theorem l92World_any {B r p : Nat} {w : World} (hR : Rdr B w r p) (hp : p ≤ 999980000) :
  Calls Tryz.prog 33 #[.pointer (some ⟨r, 0, none⟩)] w (DrawW B r p w) := by
 have hB : B ≤ w.heap.size := Nat.le_trans hR.1 (Nat.le_of_lt hR.lt)
 have HR := hid hR
 clear hR
 have F0 := hid ((Fr.refl B [86] w).alloc (.cells #[.slice none 0 0, .slice none 0 0, .slice none 0 0, .slice none 0 0] 30))
 have R0 := hid (heap_alloc_new w (.cells #[.slice none 0 0, .slice none 0 0, .slice none 0 0, .slice none 0 0] 30))
 go_enter Tryz.func33, Tryz.ntmps33
 go_upto_region 3 with (first
  | (go_at_call 70; go_must (refine (worldNew_any _).mono ?_; rintro e w1 ⟨v1, v2, v3, v4, d, rfl, wd, wi, fr1⟩; have WD := hid (wd.lower (Nat.zero_le _)); have WI := hid wi; have R1 := hid (fr1.keep _ _ R0.out (.inr (by simp))); have hR1 := (HR.out.alloc _).keep (fr1.nil (B' := B) (T := [])) (by simp); have F1 := hid (F0.out.trans fr1.nil); clear wd wi fr1))
  | (go_at_call 34; (with_reducible refine (pick_at (n := 7) hR1 (by omega)).mono ?_); go_must (rintro e w2 ⟨k1, rfl, hk1, hR2, hf2⟩; have hk1' := pk_lt hk1 (by decide)))
  | (go_at_call 34; (with_reducible refine (pick_at (n := 4) hR2 (by omega)).mono ?_); go_must (rintro e w3 ⟨k2, rfl, hk2, hR3, hf3⟩))
  | (go_at_call 34; (with_reducible refine (pick_at (n := 8) hR3 (by omega)).mono ?_); go_must (rintro e w4 ⟨k3, rfl, hk3, hR4, hf4⟩; have FP := hid ((hf2.trans hf3).trans hf4); have F4 := hid (F1.out.trans FP.out); have R4 := hid (FP.out.keep _ _ R1.out (.inr (by simp [otag]))); have WD4 := hid (WD.out.tk FP.out (by simp [Apt])); clear hR1 hR2 hR3 hf2 hf3 hf4))
  | (go_at_call 69; go_must (refine (l51Do_any 0 _ _ _ _ d _ _ _ _ _ WD4.out (Nat.zero_le _) WI.out).mono ?_; rintro e w5 ⟨u1, u2, u3, u4, d5, rfl, wd, wi, fr5⟩; obtain ⟨ua, ucap, rfl, _, _⟩ := wd.1.1.shape; obtain ⟨ub, ubcap, rfl, _, _⟩ := wd.1.2.shape; obtain ⟨uc, uccap, rfl, _, _⟩ := wd.2.1.shape; obtain ⟨ud, udcap, rfl, _, _⟩ := wd.2.2.shape; have WD5 := hid wd; have WI5 := hid wi; have hR5 := hR4.keep (fr5.nil (B' := B) (T := [])) (by simp); have F5 := hid (F4.out.trans fr5.nil); have R5 := hid (fr5.keep _ _ R4.out (.inr (by simp))); clear wd wi fr5))
  | (go_at_call 34; go_must (refine (pick_at (n := 60) (hR5.alloc _) (by omega)).mono ?_; rintro e w6 ⟨m, rfl, hm, hR6, hf6⟩; have hm' := pk_lt hm (by decide); have B6 := hid (hf6.keep _ _ (heap_alloc_new w5 (.cells #[.slice ua d5.co.txns.length ucap, .slice ub d5.co.order.length ubcap, .slice uc d5.shards.length uccap, .slice ud d5.net.length udcap] 30)) (.inr (by simp [otag]))); have R6 := hid (hf6.keep _ _ (heap_up R5.out _) (.inr (by simp [otag]))); have F6 := hid ((F5.out.alloc _).trans hf6); have WD6 := hid ((WD5.out.grow ((Fr.refl 0 [] w5).alloc (.cells #[.slice ua d5.co.txns.length ucap, .slice ub d5.co.order.length ubcap, .slice uc d5.shards.length uccap, .slice ud d5.net.length udcap] 30))).tk hf6 (by simp [Apt])); clear hf6)))
 have hX : w.heap.size + 1 ≤ w5.heap.size := by have := F5.out.size; have := lt_of_get R5.out; omega
 obtain ⟨X, hX'⟩ : ∃ X, X = w5.heap.size := ⟨_, rfl⟩
 rw [← hX'] at hX B6 ⊢
 clear hX' F0 R0 WD R1 F1 FP F4 R4 WD4 hR4 WD5 hR5 F5 R5 hk1 hk2 hk3 hk1'
 go_wp2
 go_loopw [5] (fun i wr => ∃ (k : Nat) (v1 v2 v3 v4 : Value) (d : Wd) (q : Nat), k ≤ m ∧ i = .int .i64 k ∧ wr.heap[w.heap.size]? = some (.cells #[.slice none 0 0, .slice none 0 0, .slice none 0 0, .slice none 0 0] 30 (0, 0)) ∧
   wr.heap[X]? = some (.cells #[v1, v2, v3, v4] 30 (0, 0)) ∧ WdR 0 wr v1 v2 v3 v4 d ∧ WdI d ∧ Rdr B wr r q ∧ q ≤ p + 10 + 30 * k ∧ Fr B [86] w wr) (fun i _ => m - (intOf i).toNat)
 case atStart => exact ⟨0, _, _, _, _, d5, _, Nat.zero_le _, rfl, R6.out, B6.out, WD6.out, WI5.out, hR6, by omega, F6.out⟩
 case round =>
  obtain ⟨k, v1, v2, v3, v4, d, q, hk, rfl, rb, xb, wd, wi, hR, hq, hfr⟩ := hrel
  obtain ⟨ta, tcap, rfl, _, _⟩ := wd.1.1.shape
  obtain ⟨oa, ocap, rfl, _, _⟩ := wd.1.2.shape
  obtain ⟨sa, scap, rfl, _, _⟩ := wd.2.1.shape
  obtain ⟨na, ncap, rfl, _, _⟩ := wd.2.2.shape
  have RB := hid rb
  have XB := hid xb
  have WD := hid wd
  have WI := hid wi
  have FR := hid hfr
  have HQ := hid hq
  have b0 := cell_of (o := 0) xb rfl
  have b1 := cell_of (o := 1) xb rfl
  have b2 := cell_of (o := 2) xb rfl
  have b3 := cell_of (o := 3) xb rfl
  have bl := lt_of_get xb
  clear rb xb wd wi hfr hq R6 B6 WD6 WI5 hR6 F6
  have hXr : r < X := by have := HR.out.lt; omega
  have hXw : w.heap.size ≠ X := by omega
  have hXn : w.heap.size ≤ X := by omega
  by_cases hlt : k < m
  ·have hki : (k : Int) < (m : Int) := by omega
   have XL := WI.out.len
   go_wp2
   refine wp_region_L 5 (S := (fun x => x.cell? ⟨X, 0, none⟩ = some (.slice ta d.co.txns.length tcap) ∧ x.cell? ⟨X, 1, none⟩ = some (.slice oa d.co.order.length ocap) ∧ x.cell? ⟨X, 2, none⟩ = some (.slice sa d.shards.length scap) ∧ x.cell? ⟨X, 3, none⟩ = some (.slice na d.net.length ncap))) (by kernel_rfl) ?_ (fun hHeld => ?_)
   ·exact ⟨b0, b1, b2, b3⟩
   have FD := (Fr.refl B [] wr).drew
   have hRd := hR.keep FD (by simp)
   replace XB := hid (FD.keep _ _ XB.out (.inr (by simp)))
   replace RB := hid (FD.keep _ _ RB.out (.inr (by simp)))
   replace WD := hid (WD.out.grow FD)
   replace FR := hid (FR.out.trans FD.nil)
   clear FD hR b0 b1 b2 b3
   generalize wr.drew = V at *
   refine wpAnyL_take (i := 0) (v := ?_) rfl (by kernel_rfl) (by kernel_rfl) (by kernel_rfl) (by kernel_rfl) (fun _ _ _ h => h) (Or.inl ⟨by rfl, ?_⟩) (by assumption) ?_
   rotate_left
   ·intro w hSw; (try dsimp only at hSw); go_simp; try with_reducible rfl
   (try simp only [Act.put, List.getElem_toArray, List.getElem_cons_succ, List.getElem_cons_zero, List.getElem?_toArray, List.getElem?_cons_succ, List.getElem?_cons_zero, List.setIfInBounds_toArray, List.set_cons_zero, List.set_cons_succ])
   refine wpAnyL_take (i := 1) (v := ?_) rfl (by kernel_rfl) (by kernel_rfl) (by kernel_rfl) (by kernel_rfl) (fun _ _ _ h => h) (Or.inl ⟨by rfl, ?_⟩) (by assumption) ?_
   rotate_left
   ·intro w hSw; (try dsimp only at hSw); go_simp; try with_reducible rfl
   (try simp only [Act.put, List.getElem_toArray, List.getElem_cons_succ, List.getElem_cons_zero, List.getElem?_toArray, List.getElem?_cons_succ, List.getElem?_cons_zero, List.setIfInBounds_toArray, List.set_cons_zero, List.set_cons_succ])
   refine wpAnyL_take (i := 2) (v := ?_) rfl (by kernel_rfl) (by kernel_rfl) (by kernel_rfl) (by kernel_rfl) (fun _ _ _ h => h) (Or.inl ⟨by rfl, ?_⟩) (by assumption) ?_
   rotate_left
   ·intro w hSw; (try dsimp only at hSw); go_simp; try with_reducible rfl
   (try simp only [Act.put, List.getElem_toArray, List.getElem_cons_succ, List.getElem_cons_zero, List.getElem?_toArray, List.getElem?_cons_succ, List.getElem?_cons_zero, List.setIfInBounds_toArray, List.set_cons_zero, List.set_cons_succ])
   refine wpAnyL_one (i := 3) (by kernel_rfl) rfl (fun K hK => ?_)
   go_simp
   (go_at_call 71; refine (l92Event_any _ _ _ _ _ _ _ _ _ _ _ _ hRd (by have := HQ.out; omega) XL.1 XL.2).mono ?_; rintro e w6 ⟨ek, ea, eb, ec, q6, rfl, hR6, hq6, hf6⟩; have XB6 := hid (hf6.keep _ _ XB.out (.inr (by simp [otag]))); have RB6 := hid (hf6.keep _ _ RB.out (.inr (by simp [otag]))); have WD6 := hid (WD.out.tk hf6 (by simp [Apt])); have F6 := hid (FR.out.trans hf6); have c0 := cell_of (o := 0) XB6.out rfl; have c1 := cell_of (o := 1) XB6.out rfl; have c2 := cell_of (o := 2) XB6.out rfl; have c3 := cell_of (o := 3) XB6.out rfl)
   refine hK.out _ _ (Or.inr ?_) (fun hHeld => ?_)
   ·exact ⟨c0, c1, c2, c3⟩
   replace hHeld := hHeld.resolve_right (by decide)
   clear hK K
   (try simp only [Act.put, List.getElem_toArray, List.getElem_cons_succ, List.getElem_cons_zero, List.getElem?_toArray, List.getElem?_cons_succ, List.getElem?_cons_zero, List.setIfInBounds_toArray, List.set_cons_zero, List.set_cons_succ])
   refine wpAnyL_one (i := 4) (by kernel_rfl) rfl (fun K hK => ?_)
   go_simp
   (go_at_call 69; refine (l51Do_any 0 _ _ _ _ d _ _ _ _ _ WD6.out (Nat.zero_le _) WI.out).mono ?_; rintro e w7 ⟨u1, u2, u3, u4, d5, rfl, wd, wi, fr7⟩; obtain ⟨ua, ucap, rfl, _, _⟩ := wd.1.1.shape; obtain ⟨ub, ubcap, rfl, _, _⟩ := wd.1.2.shape; obtain ⟨uc, uccap, rfl, _, _⟩ := wd.2.1.shape; obtain ⟨ud, udcap, rfl, _, _⟩ := wd.2.2.shape; have WD7 := hid wd; have WI7 := hid wi; have hR7 := hR6.keep (fr7.nil (B' := B) (T := [])) (by simp); have F7 := hid (F6.out.trans fr7.nil); have XB7 := hid (fr7.keep _ _ XB6.out (.inr (by simp))); have RB7 := hid (fr7.keep _ _ RB6.out (.inr (by simp))); clear wd wi fr7 c0 c1 c2 c3; have c0 := cell_of (o := 0) XB7.out rfl; have c1 := cell_of (o := 1) XB7.out rfl; have c2 := cell_of (o := 2) XB7.out rfl; have c3 := cell_of (o := 3) XB7.out rfl; have c4 := fun o => free_of (o := o) XB7.out; have c5 := lt_of_get XB7.out)
   refine hK.out _ _ (Or.inr ?_) (fun hHeld => ?_)
   ·exact ⟨c0, c1, c2, c3⟩
   replace hHeld := hHeld.resolve_right (by decide)
   clear hK K
   (try simp only [Act.put, List.getElem_toArray, List.getElem_cons_succ, List.getElem_cons_zero, List.getElem?_toArray, List.getElem?_cons_succ, List.getElem?_cons_zero, List.setIfInBounds_toArray, List.set_cons_zero, List.set_cons_succ])
   refine wpAnyL_one (i := 5) (by kernel_rfl) rfl (fun K hK => ?_)
   go_simp
   refine hK.out _ _ (Or.inl rfl) (fun hHeld => ?_)
   clear hK K hHeld
   (try simp only [Act.put, List.getElem_toArray, List.getElem_cons_succ, List.getElem_cons_zero, List.getElem?_toArray, List.getElem?_cons_succ, List.getElem?_cons_zero, List.setIfInBounds_toArray, List.set_cons_zero, List.set_cons_succ])
   refine wpAnyL_done (by kernel_rfl) ?_ _
   have h4 := hid (box4 (u1 := .slice ua d5.co.txns.length ucap) (u2 := .slice ub d5.co.order.length ubcap) (u3 := .slice uc d5.shards.length uccap) (u4 := .slice ud d5.net.length udcap) XB7.out)
   have FT := hid (box4_fr (u1 := .slice ua d5.co.txns.length ucap) (u2 := .slice ub d5.co.order.length ubcap) (u3 := .slice uc d5.shards.length uccap) (u4 := .slice ud d5.net.length udcap) XB7.out)
   clear c0 c1 c2 c3 c4 c5
   go_wp2
   go_roundw
   case rel => exact ⟨k + 1, _, _, _, _, d5, q6, by omega, by go_num, block_setne (block_setne (block_setne (block_setne RB7.out hXw) hXw) hXw) hXw, h4.out, WD7.out.tk FT.out (by simp [Apt]), WI7.out, (((hR7.setAbove (q := ⟨X, 0, none⟩) hXr).setAbove (q := ⟨X, 1, none⟩) hXr).setAbove (q := ⟨X, 2, none⟩) hXr).setAbove (q := ⟨X, 3, none⟩) hXr, by have := HQ.out; omega, (((F7.out.setNew (p := ⟨X, 0, none⟩) hXn _).setNew (p := ⟨X, 1, none⟩) hXn _).setNew (p := ⟨X, 2, none⟩) hXn _).setNew (p := ⟨X, 3, none⟩) hXn _⟩
   case measure => simp [intOf]; omega
  ·obtain rfl : k = m := by omega
   have r0 := cell_of (o := 0) RB.out rfl
   have r1 := cell_of (o := 1) RB.out rfl
   have r2 := cell_of (o := 2) RB.out rfl
   have r3 := cell_of (o := 3) RB.out rfl
   have r4 := fun o => free_of (o := o) RB.out
   have rl := lt_of_get RB.out
   go_wp2
   have h4 := box4 (u1 := .slice ta d.co.txns.length tcap) (u2 := .slice oa d.co.order.length ocap) (u3 := .slice sa d.shards.length scap) (u4 := .slice na d.net.length ncap) RB.out
   have g0 := cell_of (o := 0) h4 rfl
   have g1 := cell_of (o := 1) h4 rfl
   have g2 := cell_of (o := 2) h4 rfl
   have g3 := cell_of (o := 3) h4 rfl
   have FT := box4_fr (u1 := .slice ta d.co.txns.length tcap) (u2 := .slice oa d.co.order.length ocap) (u3 := .slice sa d.shards.length scap) (u4 := .slice na d.net.length ncap) RB.out
   have hRw : r < w.heap.size := HR.out.lt
   have hw : w.heap.size ≤ w.heap.size := Nat.le_refl _
   exact bodyPost_ret (v := .agg #[.slice ta d.co.txns.length tcap, .slice oa d.co.order.length ocap, .slice sa d.shards.length scap, .slice na d.net.length ncap]) (by simp [results, Tryz.results33, go_sem, g0, g1, g2, g3]) rfl ⟨_, _, _, _, d, q, rfl, WD.out.tk FT (by simp [Apt]), WI.out, (((hR.setAbove (q := ⟨w.heap.size, 0, none⟩) hRw).setAbove (q := ⟨w.heap.size, 1, none⟩) hRw).setAbove (q := ⟨w.heap.size, 2, none⟩) hRw).setAbove (q := ⟨w.heap.size, 3, none⟩) hRw, by have := HQ.out; omega, (((FR.out.setNew (p := ⟨w.heap.size, 0, none⟩) hw _).setNew (p := ⟨w.heap.size, 1, none⟩) hw _).setNew (p := ⟨w.heap.size, 2, none⟩) hw _).setNew (p := ⟨w.heap.size, 3, none⟩) hw _⟩

end Go.Proofs.YtknoanpgadecbaaGreatDoor
