/- The reference's l51Net. -/
import Derived.Test.YtknoanpgadecbaaGreatDoorQM9
set_option linter.unusedVariables false
set_option linter.unusedSimpArgs false
namespace Go.Proofs.YtknoanpgadecbaaGreatDoor
open Go.RowKit
set_option linter.unusedVariables false

theorem SlR.drop {K : Nat → Bool → Prop} {E sz : Nat} {w : World} {b off n cap : Nat} {cs : List Value} (h : SlR K E sz w (.slice (some ⟨b, off, none⟩) n cap) n cs) {k : Nat} (hk : k ≤ n) : SlR K E sz w (.slice (some ⟨b, off + k * sz, none⟩) (n - k) (cap - k)) (n - k) (cs.drop (k * sz)) := by
 obtain ⟨a', cap', h1, h2, h3, h4, h5⟩ := h
 simp only [Value.slice.injEq, true_and] at h1
 obtain ⟨rfl, rfl⟩ := h1
 refine ⟨some ⟨b, off + k * sz, none⟩, cap - k, rfl, by rw [List.length_drop, h2, ← Nat.sub_mul], by omega, by simp, fun hn => ?_⟩
 obtain ⟨b', off', cur, e, fr, g1, g2, g3, g4⟩ := h5 (by omega)
 cases g1
 refine ⟨b, off + k * sz, cur, e, fr, rfl, g2, g3, fun j u hu => ?_⟩
 rw [List.getElem?_drop] at hu
 have := g4 _ _ hu
 rwa [← Nat.add_assoc] at this

theorem fm_drop {α : Type} (f : α → List Value) (sz : Nat) (hf : ∀ x, (f x).length = sz) (l : List α) (k : Nat) : (l.flatMap f).drop (k * sz) = (l.drop k).flatMap f := by
 induction l generalizing k with
 | nil => simp
 | cons x l ih =>
  cases k with
  | zero => simp
  | succ k =>
   rw [List.flatMap_cons, List.drop_succ_cons, ← ih k, List.drop_append, hf]
   have h1 : (k + 1) * sz - sz = k * sz := by rw [Nat.succ_mul]; omega
   rw [h1, List.drop_of_length_le (by rw [hf, Nat.succ_mul]; omega), List.nil_append]

def netDel (ms : List Msg) (i : Nat) : List Msg := ms.take i ++ ms.drop (i + 1)
theorem netDel_cells (ms : List Msg) (i : Nat) : (ms.flatMap encM).take (i * 4) ++ (ms.flatMap encM).drop ((i + 1) * 4) = (netDel ms i).flatMap encM := by
 rw [fm_take encM 4 (fun _ => rfl), fm_drop encM 4 (fun _ => rfl), netDel, List.flatMap_append]
theorem netDel_length {ms : List Msg} {i : Nat} (h : i < ms.length) : (netDel ms i).length = ms.length - 1 := by
 simp [netDel]; omega
theorem netDel_I {ms : List Msg} {i : Nat} (h : NetI ms) : NetI (netDel ms i) := by
 refine ⟨by have := h.1; simp [netDel]; omega, fun m hm => ?_⟩
 rcases List.mem_append.1 hm with hm | hm
 ·exact h.2 m (List.mem_of_mem_take hm)
 ·exact h.2 m (List.mem_of_mem_drop hm)

theorem SlR_emptyAt {K : Nat → Bool → Prop} {E sz : Nat} {w : World} {b off n : Nat} {cs : List Value} (hn : n = 0) (hc : cs.length = 0) : SlR K E sz w (.slice (some ⟨b, off, none⟩) n 0) n cs := by
 subst hn
 exact ⟨some ⟨b, off, none⟩, 0, rfl, by simpa using hc, Nat.le_refl _, by simp, fun h => absurd h (Nat.lt_irrefl _)⟩

set_option maxRecDepth 20000 in
set_option maxHeartbeats 8000000 in
theorem l51Net_any (lo : Nat) (v1 v2 v3 v4 : Value) (d : Wd) (ek ea eb ec : Int) (w : World) (hv : WdR lo w v1 v2 v3 v4 d) (hlo : lo ≤ w.heap.size) (hi : WdI d) :
  Calls Tryz.prog 108 #[.agg #[v1, v2, v3, v4], .agg #[.int .i64 ek, .int .i64 ea, .int .i64 eb, .int .i64 ec]] w (WdOut lo w) := by
 obtain ⟨ta, tcap, rfl, _, _⟩ := hv.1.1.shape
 obtain ⟨oa, ocap, rfl, _, _⟩ := hv.1.2.shape
 obtain ⟨sa, scap, rfl, _, _⟩ := hv.2.1.shape
 obtain ⟨na, ncap, rfl, hnc, hncell⟩ := hv.2.2.shape
 obtain ⟨im, hmi, hmz0, hmz1, hmz2⟩ := info_parts infoM
 have HV := hid hv
 have WI := hid hi
 have hn14 := hi.2.2.2.1
 have iw : IntKind.i64.wrap ((d.net.length : Int) - 1) = (d.net.length : Int) - 1 := by rw [IntKind.wrap_i64]; omega
 clear hv hi
 rcases ga : inR ea 0 ((d.net.length : Int) - 1) with _ | _
 ·have GA := hid ga
  clear ga
  go_enter Tryz.func108, Tryz.ntmps108
  go_wp2_with (go_at_call 22; go_must (refine (l6In_any _ _ _ _).mono ?_; rintro e w4 ⟨rfl, hw4⟩; rw [GA.out]; subst hw4))
  have R2 := (show (((w.alloc (.cells #[.slice ta d.co.txns.length tcap, .slice oa d.co.order.length ocap, .slice sa d.shards.length scap, .slice na d.net.length ncap] 30)).alloc (.cells #[.int .i64 ek, .int .i64 ea, .int .i64 eb, .int .i64 ec] 36)).alloc (.cells #[.slice ta d.co.txns.length tcap, .slice oa d.co.order.length ocap, .slice sa d.shards.length scap, .slice na d.net.length ncap] 30)).heap[w.heap.size + 1 + 1]? = some (.cells #[.slice ta d.co.txns.length tcap, .slice oa d.co.order.length ocap, .slice sa d.shards.length scap, .slice na d.net.length ncap] 30 (0, 0)) by
   have := heap_alloc_new ((w.alloc (.cells #[.slice ta d.co.txns.length tcap, .slice oa d.co.order.length ocap, .slice sa d.shards.length scap, .slice na d.net.length ncap] 30)).alloc (.cells #[.int .i64 ek, .int .i64 ea, .int .i64 eb, .int .i64 ec] 36)) (.cells #[.slice ta d.co.txns.length tcap, .slice oa d.co.order.length ocap, .slice sa d.shards.length scap, .slice na d.net.length ncap] 30)
   simpa using this)
  have g0 := cell_of (o := 0) R2 rfl
  have g1 := cell_of (o := 1) R2 rfl
  have g2 := cell_of (o := 2) R2 rfl
  have g3 := cell_of (o := 3) R2 rfl
  have FR := (((Fr.refl w.heap.size [] w).alloc (.cells #[.slice ta d.co.txns.length tcap, .slice oa d.co.order.length ocap, .slice sa d.shards.length scap, .slice na d.net.length ncap] 30)).alloc (.cells #[.int .i64 ek, .int .i64 ea, .int .i64 eb, .int .i64 ec] 36)).alloc (.cells #[.slice ta d.co.txns.length tcap, .slice oa d.co.order.length ocap, .slice sa d.shards.length scap, .slice na d.net.length ncap] 30)
  exact bodyPost_ret (v := .agg #[.slice ta d.co.txns.length tcap, .slice oa d.co.order.length ocap, .slice sa d.shards.length scap, .slice na d.net.length ncap]) (by simp [results, Tryz.results108, go_sem, g0, g1, g2, g3]) rfl ⟨_, _, _, _, d, rfl, HV.out.grow FR, WI.out, FR⟩
 ·have GA := hid ga
  have hin := inR_iff.1 ga
  obtain ⟨i, rfl⟩ := Int.eq_ofNat_of_zero_le hin.1
  have hlt : i < d.net.length := by have := hin.2; omega
  have hii : (i : Int) < (d.net.length : Int) := by omega
  clear ga hin
  rcases hncell with h | ⟨nb, noff, rfl, hnb, hcell⟩
  ·rw [h] at hlt; simp at hlt
  obtain ⟨x0, x1, x2, x3⟩ := hcell i hlt
  have hms := WI.out.2.2.2.2 _ (List.getElem_mem hlt)
  obtain ⟨j, hj⟩ := Int.eq_ofNat_of_zero_le hms.1
  have hj2 : j ≤ 2 := by have := hms.2; omega
  rw [hj] at x2
  clear hcell hms hj
  generalize (d.net[i]).kind = mk at x0
  generalize (d.net[i]).txn = mt at x1
  generalize (d.net[i]).yes = my at x3
  have FA := hid ((((Fr.refl w.heap.size [] w).alloc (.cells #[.slice ta d.co.txns.length tcap, .slice oa d.co.order.length ocap, .slice sa d.shards.length scap, .slice (some ⟨nb, noff, none⟩) d.net.length ncap] 30)).alloc (.cells #[.int .i64 ek, .int .i64 i, .int .i64 eb, .int .i64 ec] 36)).alloc (.cells #[.slice none 0 0, .slice none 0 0, .slice none 0 0, .slice none 0 0] 30))
  have z0 := FA.out.cell hnb x0
  have z1 := FA.out.cell hnb x1
  have z2 := FA.out.cell hnb x2
  have z3 := FA.out.cell hnb x3
  clear x0 x1 x2 x3
  go_enter Tryz.func108, Tryz.ntmps108
  go_upto_if 23 with (go_at_call 22; go_must (refine (l6In_any _ _ _ _).mono ?_; rintro e w4 ⟨rfl, hw4⟩; rw [GA.out]; subst hw4))
  have FX := hid (FA.out.alloc (.cells #[.int .i64 mk, .int .i64 mt, .int .i64 j, .bool my] 47))
  have B0 := hid (heap_up (heap_up (heap_up (heap_alloc_new w (.cells #[.slice ta d.co.txns.length tcap, .slice oa d.co.order.length ocap, .slice sa d.shards.length scap, .slice (some ⟨nb, noff, none⟩) d.net.length ncap] 30)) (.cells #[.int .i64 ek, .int .i64 i, .int .i64 eb, .int .i64 ec] 36)) (.cells #[.slice none 0 0, .slice none 0 0, .slice none 0 0, .slice none 0 0] 30)) (.cells #[.int .i64 mk, .int .i64 mt, .int .i64 j, .bool my] 47))
  have B1 := hid (show ((((w.alloc (.cells #[.slice ta d.co.txns.length tcap, .slice oa d.co.order.length ocap, .slice sa d.shards.length scap, .slice (some ⟨nb, noff, none⟩) d.net.length ncap] 30)).alloc (.cells #[.int .i64 ek, .int .i64 i, .int .i64 eb, .int .i64 ec] 36)).alloc (.cells #[.slice none 0 0, .slice none 0 0, .slice none 0 0, .slice none 0 0] 30)).alloc (.cells #[.int .i64 mk, .int .i64 mt, .int .i64 j, .bool my] 47)).heap[w.heap.size + 1]? = some (.cells #[.int .i64 ek, .int .i64 i, .int .i64 eb, .int .i64 ec] 36 (0, 0)) by
   have := heap_up (heap_up (heap_alloc_new (w.alloc (.cells #[.slice ta d.co.txns.length tcap, .slice oa d.co.order.length ocap, .slice sa d.shards.length scap, .slice (some ⟨nb, noff, none⟩) d.net.length ncap] 30)) (.cells #[.int .i64 ek, .int .i64 i, .int .i64 eb, .int .i64 ec] 36)) (.cells #[.slice none 0 0, .slice none 0 0, .slice none 0 0, .slice none 0 0] 30)) (.cells #[.int .i64 mk, .int .i64 mt, .int .i64 j, .bool my] 47)
   simpa using this)
  have B2 := hid (show ((((w.alloc (.cells #[.slice ta d.co.txns.length tcap, .slice oa d.co.order.length ocap, .slice sa d.shards.length scap, .slice (some ⟨nb, noff, none⟩) d.net.length ncap] 30)).alloc (.cells #[.int .i64 ek, .int .i64 i, .int .i64 eb, .int .i64 ec] 36)).alloc (.cells #[.slice none 0 0, .slice none 0 0, .slice none 0 0, .slice none 0 0] 30)).alloc (.cells #[.int .i64 mk, .int .i64 mt, .int .i64 j, .bool my] 47)).heap[w.heap.size + 2]? = some (.cells #[.slice none 0 0, .slice none 0 0, .slice none 0 0, .slice none 0 0] 30 (0, 0)) by
   have := heap_up (heap_alloc_new ((w.alloc (.cells #[.slice ta d.co.txns.length tcap, .slice oa d.co.order.length ocap, .slice sa d.shards.length scap, .slice (some ⟨nb, noff, none⟩) d.net.length ncap] 30)).alloc (.cells #[.int .i64 ek, .int .i64 i, .int .i64 eb, .int .i64 ec] 36)) (.cells #[.slice none 0 0, .slice none 0 0, .slice none 0 0, .slice none 0 0] 30)) (.cells #[.int .i64 mk, .int .i64 mt, .int .i64 j, .bool my] 47)
   simpa using this)
  have B3 := hid (show ((((w.alloc (.cells #[.slice ta d.co.txns.length tcap, .slice oa d.co.order.length ocap, .slice sa d.shards.length scap, .slice (some ⟨nb, noff, none⟩) d.net.length ncap] 30)).alloc (.cells #[.int .i64 ek, .int .i64 i, .int .i64 eb, .int .i64 ec] 36)).alloc (.cells #[.slice none 0 0, .slice none 0 0, .slice none 0 0, .slice none 0 0] 30)).alloc (.cells #[.int .i64 mk, .int .i64 mt, .int .i64 j, .bool my] 47)).heap[w.heap.size + 3]? = some (.cells #[.int .i64 mk, .int .i64 mt, .int .i64 j, .bool my] 47 (0, 0)) by
   have := heap_alloc_new (((w.alloc (.cells #[.slice ta d.co.txns.length tcap, .slice oa d.co.order.length ocap, .slice sa d.shards.length scap, .slice (some ⟨nb, noff, none⟩) d.net.length ncap] 30)).alloc (.cells #[.int .i64 ek, .int .i64 i, .int .i64 eb, .int .i64 ec] 36)).alloc (.cells #[.slice none 0 0, .slice none 0 0, .slice none 0 0, .slice none 0 0] 30)) (.cells #[.int .i64 mk, .int .i64 mt, .int .i64 j, .bool my] 47)
   simpa using this)
  obtain ⟨W, hW⟩ : ∃ W : World, W = (((w.alloc (.cells #[.slice ta d.co.txns.length tcap, .slice oa d.co.order.length ocap, .slice sa d.shards.length scap, .slice (some ⟨nb, noff, none⟩) d.net.length ncap] 30)).alloc (.cells #[.int .i64 ek, .int .i64 i, .int .i64 eb, .int .i64 ec] 36)).alloc (.cells #[.slice none 0 0, .slice none 0 0, .slice none 0 0, .slice none 0 0] 30)).alloc (.cells #[.int .i64 mk, .int .i64 mt, .int .i64 j, .bool my] 47) := ⟨_, rfl⟩
  rw [← hW] at FX B0 B1 B2 B3 ⊢
  clear hW z0 z1 z2 z3 FA
  have p0 := cell_of (o := 0) B0.out rfl
  have p1 := cell_of (o := 1) B0.out rfl
  have p2 := cell_of (o := 2) B0.out rfl
  have p3 := cell_of (o := 3) B0.out rfl
  have p4 := fun o => free_of (o := o) B2.out
  have p5 := cell_of (o := 0) B2.out rfl
  have p6 := cell_of (o := 1) B2.out rfl
  have p7 := cell_of (o := 2) B2.out rfl
  have p8 := cell_of (o := 3) B2.out rfl
  have hl0 := lt_of_get B0.out
  have hl1 := lt_of_get B1.out
  have hl2 := lt_of_get B2.out
  have hl3 := lt_of_get B3.out
  have m0 := cell_of (o := 0) B3.out rfl
  have m1 := cell_of (o := 1) B3.out rfl
  have m2 := cell_of (o := 2) B3.out rfl
  have m3 := cell_of (o := 3) B3.out rfl
  have q0 := cell_of (o := 0) B1.out rfl
  by_cases hk4 : ek = 4
  ·subst hk4
   go_wp2_with (go_at_call 157; go_must (refine (l51Post_any lo _ _ _ _ d ⟨mk, mt, j, my⟩ _ (HV.out.grow FX.out) (Nat.le_trans hlo FX.out.size)).mono ?_; rintro e w5 ⟨u4, rfl, nr, fr5⟩; obtain ⟨nb', ncap', rfl, _, _⟩ := nr.shape; have NR := hid nr; have FR5 := hid fr5; have G1 := hid (fr5.keep _ _ B2.out (.inr (by simp))); have s4 := fun o => free_of (o := o) G1.out; have s5 := cell_of (o := 0) G1.out rfl; have s6 := cell_of (o := 1) G1.out rfl; have s7 := cell_of (o := 2) G1.out rfl; have s8 := cell_of (o := 3) G1.out rfl; have hlG := lt_of_get G1.out; clear nr fr5))
   have F5 := FX.out.trans FR5.out.nil
   have WR2 : WdR lo w5 (.slice ta d.co.txns.length tcap) (.slice oa d.co.order.length ocap) (.slice sa d.shards.length scap) (.slice nb' (netPost d.net ⟨mk, mt, j, my⟩).length ncap') ⟨d.co, d.shards, netPost d.net ⟨mk, mt, j, my⟩⟩ := ⟨(HV.out.grow F5).1, (HV.out.grow F5).2.1, NR.out⟩
   have h4 := box4 (u1 := .slice ta d.co.txns.length tcap) (u2 := .slice oa d.co.order.length ocap) (u3 := .slice sa d.shards.length scap) (u4 := .slice nb' (netPost d.net ⟨mk, mt, j, my⟩).length ncap') G1.out
   have g0 := cell_of (o := 0) h4 rfl
   have g1 := cell_of (o := 1) h4 rfl
   have g2 := cell_of (o := 2) h4 rfl
   have g3 := cell_of (o := 3) h4 rfl
   have FT := box4_fr (u1 := .slice ta d.co.txns.length tcap) (u2 := .slice oa d.co.order.length ocap) (u3 := .slice sa d.shards.length scap) (u4 := .slice nb' (netPost d.net ⟨mk, mt, j, my⟩).length ncap') G1.out
   exact bodyPost_ret (v := .agg #[.slice ta d.co.txns.length tcap, .slice oa d.co.order.length ocap, .slice sa d.shards.length scap, .slice nb' (netPost d.net ⟨mk, mt, j, my⟩).length ncap']) (by simp [results, Tryz.results108, go_sem, g0, g1, g2, g3]) rfl ⟨_, _, _, _, ⟨d.co, d.shards, netPost d.net ⟨mk, mt, j, my⟩⟩, rfl, (WR2).tk FT (by simp [Apt]), ⟨WI.out.1, WI.out.2.1, WI.out.2.2.1, netI_post WI.out.2.2.2 ⟨by simp only; omega, by simp only; omega⟩⟩, (((F5.setNew (p := ⟨w.heap.size + 2, 0, none⟩) (by dsimp only; omega) _).setNew (p := ⟨w.heap.size + 2, 1, none⟩) (by dsimp only; omega) _).setNew (p := ⟨w.heap.size + 2, 2, none⟩) (by dsimp only; omega) _).setNew (by dsimp only; omega) _⟩
  ·have hk4b : (ek == 4) = false := by simpa using hk4
   go_wp2
   have f := (Fr.refl W.heap.size [] W).drew
   have FD := f
   replace B0 := hid (FD.keep _ _ B0.out (.inr (by simp)))
   replace B1 := hid (FD.keep _ _ B1.out (.inr (by simp)))
   replace B2 := hid (FD.keep _ _ B2.out (.inr (by simp)))
   replace B3 := hid (FD.keep _ _ B3.out (.inr (by simp)))
   have KP0 := (⟨cell_of (o := 3) B0.out rfl, cell_of (o := 1) B1.out rfl⟩ : W.drew.cell? ⟨w.heap.size, 3, none⟩ = some (.slice (some ⟨nb, noff, none⟩) d.net.length ncap) ∧ W.drew.cell? ⟨w.heap.size + 1, 1, none⟩ = some (.int .i64 i))
   have FW0 := hid (FX.out.trans FD.nil)
   have NN := hid (HV.out.2.2.tk FW0.out (by simp))
   clear f FD FX hl0 hl1 hl2 hl3 m0 m1 m2 m3 q0 p0 p1 p2 p3 p4 p5 p6 p7 p8
   have hw1 : IntKind.i64.wrap ((i : Int) + 1) = (i : Int) + 1 := by rw [IntKind.wrap_i64]; omega
   have hw2 : ((i : Int) + 1).toNat = i + 1 := by omega
   have hw3 : (i : Int) + 1 ≤ (d.net.length : Int) := by omega
   have hw4 : 0 ≤ (i : Int) + 1 := by omega
   have hw5 : (i : Int) ≤ (i : Int) + 1 := by omega
   have hw6 : (i : Int) ≤ (ncap : Int) := by omega
   by_cases hcap : ncap = i + 1
   ·have QT := True.intro
    subst hcap
    refine wp_region_L 15 (S := (fun x => x.cell? ⟨w.heap.size, 3, none⟩ = some (.slice (some ⟨nb, noff, none⟩) d.net.length (i + 1)) ∧ x.cell? ⟨w.heap.size + 1, 1, none⟩ = some (.int .i64 i))) (by kernel_rfl) ?_ (fun hHeld => ?_)
    ·exact KP0
    clear KP0
    generalize W.drew = V at *
    have hl0 := lt_of_get B0.out
    have hl1 := lt_of_get B1.out
    have FW := hid (Fr.refl V.heap.size [] V)
    have KP := hid (fun (x : World) (f : Fr V.heap.size [] V x) => (⟨f.cell hl0 (cell_of (o := 3) B0.out rfl), f.cell hl1 (cell_of (o := 1) B1.out rfl)⟩ : x.cell? ⟨w.heap.size, 3, none⟩ = some (.slice (some ⟨nb, noff, none⟩) d.net.length (i + 1)) ∧ x.cell? ⟨w.heap.size + 1, 1, none⟩ = some (.int .i64 i)))
    refine wpAnyL_take (i := 1) (v := ?_) rfl (by kernel_rfl) (by kernel_rfl) (by kernel_rfl) (by kernel_rfl) (fun _ _ _ h => h) (Or.inl ⟨by rfl, ?_⟩) (by assumption) ?_
    rotate_left
    ·intro w hSw; (try dsimp only at hSw); go_simp; try with_reducible rfl
    (try simp only [Act.put, List.getElem_toArray, List.getElem_cons_succ, List.getElem_cons_zero, List.getElem?_toArray, List.getElem?_cons_succ, List.getElem?_cons_zero, List.setIfInBounds_toArray, List.set_cons_zero, List.set_cons_succ])
    refine wpAnyL_take (i := 3) (v := ?_) rfl (by kernel_rfl) (by kernel_rfl) (by kernel_rfl) (by kernel_rfl) (fun _ _ _ h => h) (Or.inl ⟨by rfl, ?_⟩) (by assumption) ?_
    rotate_left
    ·intro w hSw; (try dsimp only at hSw); go_simp; try with_reducible rfl
    (try simp only [Act.put, List.getElem_toArray, List.getElem_cons_succ, List.getElem_cons_zero, List.getElem?_toArray, List.getElem?_cons_succ, List.getElem?_cons_zero, List.setIfInBounds_toArray, List.set_cons_zero, List.set_cons_succ])
    refine wpAnyL_take (i := 7) (v := ?_) rfl (by kernel_rfl) (by kernel_rfl) (by kernel_rfl) (by kernel_rfl) (fun _ _ _ h => h) (Or.inl ⟨by rfl, ?_⟩) (by assumption) ?_
    rotate_left
    ·intro w hSw; (try dsimp only at hSw); go_simp; try with_reducible rfl
    (try simp only [Act.put, List.getElem_toArray, List.getElem_cons_succ, List.getElem_cons_zero, List.getElem?_toArray, List.getElem?_cons_succ, List.getElem?_cons_zero, List.setIfInBounds_toArray, List.set_cons_zero, List.set_cons_succ])
    refine wpAnyL_take (i := 9) (v := ?_) rfl (by kernel_rfl) (by kernel_rfl) (by kernel_rfl) (by kernel_rfl) (fun _ _ _ h => h) (Or.inl ⟨by rfl, ?_⟩) (by assumption) ?_
    rotate_left
    ·intro w hSw; (try dsimp only at hSw); go_simp; try with_reducible rfl
    (try simp only [Act.put, List.getElem_toArray, List.getElem_cons_succ, List.getElem_cons_zero, List.getElem?_toArray, List.getElem?_cons_succ, List.getElem?_cons_zero, List.setIfInBounds_toArray, List.set_cons_zero, List.set_cons_succ])
    refine wpAnyL_take (i := 2) (v := ?_) rfl (by kernel_rfl) (by kernel_rfl) (by kernel_rfl) (by kernel_rfl) (fun _ _ _ h => h) (Or.inl ⟨by rfl, ?_⟩) (by assumption) ?_
    rotate_left
    ·intro w hSw; (try dsimp only at hSw); go_simp; try with_reducible rfl
    (try simp only [Act.put, List.getElem_toArray, List.getElem_cons_succ, List.getElem_cons_zero, List.getElem?_toArray, List.getElem?_cons_succ, List.getElem?_cons_zero, List.setIfInBounds_toArray, List.set_cons_zero, List.set_cons_succ])
    refine wpAnyL_take (i := 4) (v := ?_) rfl (by kernel_rfl) (by kernel_rfl) (by kernel_rfl) (by kernel_rfl) (fun _ _ _ h => h) (Or.inl ⟨by rfl, ?_⟩) (by assumption) ?_
    rotate_left
    ·intro w hSw; (try dsimp only at hSw); go_simp; try with_reducible rfl
    (try simp only [Act.put, List.getElem_toArray, List.getElem_cons_succ, List.getElem_cons_zero, List.getElem?_toArray, List.getElem?_cons_succ, List.getElem?_cons_zero, List.setIfInBounds_toArray, List.set_cons_zero, List.set_cons_succ])
    refine wpAnyL_take (i := 8) (v := ?_) rfl (by kernel_rfl) (by kernel_rfl) (by kernel_rfl) (by kernel_rfl) (fun _ _ _ h => h) (Or.inl ⟨by rfl, ?_⟩) (by assumption) ?_
    rotate_left
    ·intro w hSw; (try dsimp only at hSw); go_simp; try with_reducible rfl
    (try simp only [Act.put, List.getElem_toArray, List.getElem_cons_succ, List.getElem_cons_zero, List.getElem?_toArray, List.getElem?_cons_succ, List.getElem?_cons_zero, List.setIfInBounds_toArray, List.set_cons_zero, List.set_cons_succ])
    refine wpAnyL_take (i := 10) (v := ?_) rfl (by kernel_rfl) (by kernel_rfl) (by kernel_rfl) (by kernel_rfl) (fun _ _ _ h => h) (Or.inl ⟨by rfl, ?_⟩) (by assumption) ?_
    rotate_left
    ·intro w hSw; (try dsimp only at hSw); go_simp; try with_reducible rfl
    (try simp only [Act.put, List.getElem_toArray, List.getElem_cons_succ, List.getElem_cons_zero, List.getElem?_toArray, List.getElem?_cons_succ, List.getElem?_cons_zero, List.setIfInBounds_toArray, List.set_cons_zero, List.set_cons_succ])
    refine wpAnyL_take (i := 5) (v := ?_) rfl (by kernel_rfl) (by kernel_rfl) (by kernel_rfl) (by kernel_rfl) (fun _ _ _ h => h) (Or.inl ⟨by rfl, ?_⟩) (by assumption) ?_
    rotate_left
    ·intro w hSw; (try dsimp only at hSw); go_simp; try with_reducible rfl
    (try simp only [Act.put, List.getElem_toArray, List.getElem_cons_succ, List.getElem_cons_zero, List.getElem?_toArray, List.getElem?_cons_succ, List.getElem?_cons_zero, List.setIfInBounds_toArray, List.set_cons_zero, List.set_cons_succ])
    refine wpAnyL_take (i := 11) (v := ?_) rfl (by kernel_rfl) (by kernel_rfl) (by kernel_rfl) (by kernel_rfl) (fun _ _ _ h => h) (Or.inl ⟨by rfl, ?_⟩) (by assumption) ?_
    rotate_left
    ·intro w hSw; (try dsimp only at hSw); go_simp; try with_reducible rfl
    (try simp only [Act.put, List.getElem_toArray, List.getElem_cons_succ, List.getElem_cons_zero, List.getElem?_toArray, List.getElem?_cons_succ, List.getElem?_cons_zero, List.setIfInBounds_toArray, List.set_cons_zero, List.set_cons_succ])
    refine wpAnyL_take (i := 12) (v := ?_) rfl (by kernel_rfl) (by kernel_rfl) (by kernel_rfl) (by kernel_rfl) (fun _ _ _ h => h) (Or.inl ⟨by rfl, ?_⟩) (by assumption) ?_
    rotate_left
    ·intro w hSw; (try dsimp only at hSw); go_simp; try with_reducible rfl
    (try simp only [Act.put, List.getElem_toArray, List.getElem_cons_succ, List.getElem_cons_zero, List.getElem?_toArray, List.getElem?_cons_succ, List.getElem?_cons_zero, List.setIfInBounds_toArray, List.set_cons_zero, List.set_cons_succ])
    refine wpAnyL_ready (rs := [0]) (by kernel_rfl) (by simp) ?_
    refine AllReadyL.cons rfl (fun K hK => ?_) AllReadyL.nil
    go_simp
    have OWN := hid (World.ownsRow_made (e := 47) (size := 4) V #[] 0 (Nat.le_refl _) (by decide) (by simp))
    have FW := hid (FW.out.alloc (.cells #[] 47))
    refine hK.out _ _ (Or.inr ?_) (fun hHeld => ?_)
    ·exact KP.out _ FW.out
    replace hHeld := hHeld.resolve_right (by decide)
    clear hK K
    (try simp only [Act.put, List.getElem_toArray, List.getElem_cons_succ, List.getElem_cons_zero, List.getElem?_toArray, List.getElem?_cons_succ, List.getElem?_cons_zero, List.setIfInBounds_toArray, List.set_cons_zero, List.set_cons_succ])
    refine wpAnyL_ready (rs := [6]) (by kernel_rfl) (by simp) ?_
    refine AllReadyL.cons rfl (fun K hK => ?_) AllReadyL.nil
    refine step_apG rfl (.tmp 27) (.tmp 32) 28 rfl V.heap.size 47 im (.agg #[.int .i64 0, .int .i64 0, .int .i64 0, .bool false]) 4 32 Tryz.underlying28 hmi hmz0 hmz1 hmz2 rfl (by decide) (.slice (some ⟨V.heap.size, 0, none⟩) 0 0) 0 [] (by rfl) OWN.out (new lo) 47 (.slice (some ⟨nb, noff, none⟩) i (i + 1)) i ((d.net.flatMap encM).take (i * 4)) (by rfl) ((SlR.keep NN.out FW.out (Safe.new (by simp))).take (Nat.le_of_lt hlt)) (fun u hu => oneM _ u (List.mem_of_mem_take hu)) (by unfold maxLen; omega) (by omega) FW.out.size ?_
    intro v3 w3 own3 gr3 _
    rw [Nat.zero_add, List.nil_append] at own3
    obtain ⟨a3, c3, rfl⟩ := own_any own3
    have FW := hid (FW.out.after (Fr.ofOwnGrown (B := V.heap.size) (T := [47]) OWN.out gr3 (Nat.le_refl _) (List.mem_singleton.2 rfl)))
    have OWN := hid own3
    clear own3 gr3
    refine hK.out _ _ (Or.inr ?_) (fun hHeld => ?_)
    ·exact KP.out _ FW.out
    replace hHeld := hHeld.resolve_right (by decide)
    clear hK K
    (try simp only [Act.put, List.getElem_toArray, List.getElem_cons_succ, List.getElem_cons_zero, List.getElem?_toArray, List.getElem?_cons_succ, List.getElem?_cons_zero, List.setIfInBounds_toArray, List.set_cons_zero, List.set_cons_succ])
    refine wpAnyL_ready (rs := [13]) (by kernel_rfl) (by simp) ?_
    refine AllReadyL.cons rfl (fun K hK => ?_) AllReadyL.nil
    refine step_apG rfl (.tmp 33) (.tmp 39) 28 rfl V.heap.size 47 im (.agg #[.int .i64 0, .int .i64 0, .int .i64 0, .bool false]) 4 32 Tryz.underlying28 hmi hmz0 hmz1 hmz2 rfl (by decide) (.slice a3 i c3) i ((d.net.flatMap encM).take (i * 4)) (by rfl) OWN.out (new lo) 47 (.slice (some ⟨nb, noff, none⟩) 0 0) 0 ((d.net.flatMap encM).drop ((i + 1) * 4)) (by rfl) (SlR_emptyAt rfl (by rw [List.length_drop, fm_length encM 4 (fun _ => rfl)]; omega)) (fun u hu => oneM _ u (List.mem_of_mem_drop hu)) (by unfold maxLen; omega) (by omega) FW.out.size ?_
    intro v6 w6 own6 gr6 _
    rw [netDel_cells, show i + 0 = (netDel d.net i).length by (rw [netDel_length hlt]; omega)] at own6
    obtain ⟨a6, c6, rfl⟩ := own_any own6
    have FW := hid (FW.out.after (Fr.ofOwnGrown (B := V.heap.size) (T := [47]) OWN.out gr6 (Nat.le_refl _) (List.mem_singleton.2 rfl)))
    have OWN := hid own6
    have s0 := cell_of (o := 3) (FW.out.keep _ _ B0.out (.inr (by simp))) rfl
    have s1 := free_of (o := 3) (FW.out.keep _ _ B0.out (.inr (by simp)))
    clear own6 gr6
    refine hK.out _ _ (Or.inr ?_) (fun hHeld => ?_)
    ·exact KP.out _ FW.out
    replace hHeld := hHeld.resolve_right (by decide)
    clear hK K
    (try simp only [Act.put, List.getElem_toArray, List.getElem_cons_succ, List.getElem_cons_zero, List.getElem?_toArray, List.getElem?_cons_succ, List.getElem?_cons_zero, List.setIfInBounds_toArray, List.set_cons_zero, List.set_cons_succ])
    refine wpAnyL_take (i := 14) (v := ?_) rfl (by kernel_rfl) (by kernel_rfl) (by kernel_rfl) (by kernel_rfl) (fun _ _ _ h => h) (Or.inl ⟨by rfl, ?_⟩) (by assumption) ?_
    rotate_left
    ·intro w hSw; (try dsimp only at hSw); go_simp; try with_reducible rfl
    (try simp only [Act.put, List.getElem_toArray, List.getElem_cons_succ, List.getElem_cons_zero, List.getElem?_toArray, List.getElem?_cons_succ, List.getElem?_cons_zero, List.setIfInBounds_toArray, List.set_cons_zero, List.set_cons_succ])
    refine wpAnyL_one (i := 15) (by kernel_rfl) rfl (fun K hK => ?_)
    go_simp
    refine hK.out _ _ (Or.inl rfl) (fun hHeld => ?_)
    clear hK K hHeld
    (try simp only [Act.put, List.getElem_toArray, List.getElem_cons_succ, List.getElem_cons_zero, List.getElem?_toArray, List.getElem?_cons_succ, List.getElem?_cons_zero, List.setIfInBounds_toArray, List.set_cons_zero, List.set_cons_succ])
    refine wpAnyL_done (by kernel_rfl) ?_ _
    have FN := hid (FW0.out.trans FW.out.nil)
    have E0 := hid (FW.out.keep _ _ B0.out (.inr (by simp)))
    have E1 := hid (FW.out.keep _ _ B1.out (.inr (by simp)))
    have E2 := hid (FW.out.keep _ _ B2.out (.inr (by simp)))
    have E3 := hid (FW.out.keep _ _ B3.out (.inr (by simp)))
    have NR : NetR lo w6 (.slice a6 (netDel d.net i).length c6) (netDel d.net i) := (SlR.ofOwns OWN.out).weak (new_low (Nat.le_trans hlo FW0.out.size))
    have ES := hid (block_set E0.out 3 (.slice a6 (netDel d.net i).length c6))
    have E1S := hid (block_setne (p := ⟨w.heap.size, 3, none⟩) (u := .slice a6 (netDel d.net i).length c6) E1.out (by dsimp only; omega))
    have E2S := hid (block_setne (p := ⟨w.heap.size, 3, none⟩) (u := .slice a6 (netDel d.net i).length c6) E2.out (by dsimp only; omega))
    have E3S := hid (block_setne (p := ⟨w.heap.size, 3, none⟩) (u := .slice a6 (netDel d.net i).length c6) E3.out (by dsimp only; omega))
    have FS := (Fr.refl 0 [30] w6).setOld (p := ⟨w.heap.size, 3, none⟩) E0.out (Nat.zero_le _) (by simp [otag]) (.slice a6 (netDel d.net i).length c6)
    have FV := hid (FN.out.setNew (p := ⟨w.heap.size, 3, none⟩) (by dsimp only; omega) (.slice a6 (netDel d.net i).length c6))
    have WR := hid (show WdR lo (w6.setCell ⟨w.heap.size, 3, none⟩ (.slice a6 (netDel d.net i).length c6)) (.slice ta d.co.txns.length tcap) (.slice oa d.co.order.length ocap) (.slice sa d.shards.length scap) (.slice a6 (netDel d.net i).length c6) ⟨d.co, d.shards, netDel d.net i⟩ from WdR.tk ⟨(HV.out.grow FN.out).1, (HV.out.grow FN.out).2.1, NR⟩ FS (by simp [Apt]))
    have WD := hid (show WdI ⟨d.co, d.shards, netDel d.net i⟩ from ⟨WI.out.1, WI.out.2.1, WI.out.2.2.1, netDel_I WI.out.2.2.2⟩)
    clear FW KP FW0 NN B0 B1 B2 B3 OWN hHeld s0 s1 NR FS hl0 hl1
    have e0 := cell_of (o := 0) ES.out rfl
    have e1 := cell_of (o := 1) ES.out rfl
    have e2 := cell_of (o := 2) ES.out rfl
    have e3 := cell_of (o := 3) ES.out rfl
    have e4 := fun o => free_of (o := o) E2S.out
    have e5 := cell_of (o := 0) E2S.out rfl
    have e6 := cell_of (o := 1) E2S.out rfl
    have e7 := cell_of (o := 2) E2S.out rfl
    have e8 := cell_of (o := 3) E2S.out rfl
    have e9 := cell_of (o := 0) E1S.out rfl
    have e10 := cell_of (o := 0) E3S.out rfl
    have e11 := cell_of (o := 1) E3S.out rfl
    have e12 := cell_of (o := 2) E3S.out rfl
    have e13 := cell_of (o := 3) E3S.out rfl
    have hlE := lt_of_get E2S.out
    by_cases hk2 : ek = 2
    ·subst hk2
     go_wp2_with (go_at_call 158; go_must (refine (l51Hear_any lo _ _ _ _ ⟨d.co, d.shards, netDel d.net i⟩ mk mt j my _ WR.out (Nat.le_trans hlo FV.out.size) WD.out hj2).mono ?_; rintro e w7 ⟨u1, u2, u3, u4, d', rfl, wr, wi, fr7⟩; obtain ⟨ua, ucap, rfl, _, _⟩ := wr.1.1.shape; obtain ⟨ub, ubcap, rfl, _, _⟩ := wr.1.2.shape; obtain ⟨uc, uccap, rfl, _, _⟩ := wr.2.1.shape; obtain ⟨ud, udcap, rfl, _, _⟩ := wr.2.2.shape; have WR7 := hid wr; have WI7 := hid wi; have FR7 := hid fr7; have G1 := hid (fr7.keep _ _ E2S.out (.inr (by simp))); have s4 := fun o => free_of (o := o) G1.out; have s5 := cell_of (o := 0) G1.out rfl; have s6 := cell_of (o := 1) G1.out rfl; have s7 := cell_of (o := 2) G1.out rfl; have s8 := cell_of (o := 3) G1.out rfl; have hlG := lt_of_get G1.out; clear wr wi fr7))
     have F7 := FV.out.trans FR7.out.nil
     have h4 := box4 (u1 := .slice ua d'.co.txns.length ucap) (u2 := .slice ub d'.co.order.length ubcap) (u3 := .slice uc d'.shards.length uccap) (u4 := .slice ud d'.net.length udcap) G1.out
     have g0 := cell_of (o := 0) h4 rfl
     have g1 := cell_of (o := 1) h4 rfl
     have g2 := cell_of (o := 2) h4 rfl
     have g3 := cell_of (o := 3) h4 rfl
     have FT := box4_fr (u1 := .slice ua d'.co.txns.length ucap) (u2 := .slice ub d'.co.order.length ubcap) (u3 := .slice uc d'.shards.length uccap) (u4 := .slice ud d'.net.length udcap) G1.out
     exact bodyPost_ret (v := .agg #[.slice ua d'.co.txns.length ucap, .slice ub d'.co.order.length ubcap, .slice uc d'.shards.length uccap, .slice ud d'.net.length udcap]) (by simp [results, Tryz.results108, go_sem, g0, g1, g2, g3]) rfl ⟨_, _, _, _, d', rfl, (WR7.out).tk FT (by simp [Apt]), WI7.out, (((F7.setNew (p := ⟨w.heap.size + 2, 0, none⟩) (by dsimp only; omega) _).setNew (p := ⟨w.heap.size + 2, 1, none⟩) (by dsimp only; omega) _).setNew (p := ⟨w.heap.size + 2, 2, none⟩) (by dsimp only; omega) _).setNew (by dsimp only; omega) _⟩
    ·have hk2b : (ek == 2) = false := by simpa using hk2
     go_wp2
     have h4 := box4 (u1 := .slice ta d.co.txns.length tcap) (u2 := .slice oa d.co.order.length ocap) (u3 := .slice sa d.shards.length scap) (u4 := .slice a6 (netDel d.net i).length c6) E2S.out
     have g0 := cell_of (o := 0) h4 rfl
     have g1 := cell_of (o := 1) h4 rfl
     have g2 := cell_of (o := 2) h4 rfl
     have g3 := cell_of (o := 3) h4 rfl
     have FT := box4_fr (u1 := .slice ta d.co.txns.length tcap) (u2 := .slice oa d.co.order.length ocap) (u3 := .slice sa d.shards.length scap) (u4 := .slice a6 (netDel d.net i).length c6) E2S.out
     exact bodyPost_ret (v := .agg #[.slice ta d.co.txns.length tcap, .slice oa d.co.order.length ocap, .slice sa d.shards.length scap, .slice a6 (netDel d.net i).length c6]) (by simp [results, Tryz.results108, go_sem, g0, g1, g2, g3]) rfl ⟨_, _, _, _, ⟨d.co, d.shards, netDel d.net i⟩, rfl, (WR.out).tk FT (by simp [Apt]), WD.out, (((FV.out.setNew (p := ⟨w.heap.size + 2, 0, none⟩) (by dsimp only; omega) _).setNew (p := ⟨w.heap.size + 2, 1, none⟩) (by dsimp only; omega) _).setNew (p := ⟨w.heap.size + 2, 2, none⟩) (by dsimp only; omega) _).setNew (by dsimp only; omega) _⟩
   ·have QT := True.intro
    refine wp_region_L 15 (S := (fun x => x.cell? ⟨w.heap.size, 3, none⟩ = some (.slice (some ⟨nb, noff, none⟩) d.net.length ncap) ∧ x.cell? ⟨w.heap.size + 1, 1, none⟩ = some (.int .i64 i))) (by kernel_rfl) ?_ (fun hHeld => ?_)
    ·exact KP0
    clear KP0
    generalize W.drew = V at *
    have hl0 := lt_of_get B0.out
    have hl1 := lt_of_get B1.out
    have FW := hid (Fr.refl V.heap.size [] V)
    have KP := hid (fun (x : World) (f : Fr V.heap.size [] V x) => (⟨f.cell hl0 (cell_of (o := 3) B0.out rfl), f.cell hl1 (cell_of (o := 1) B1.out rfl)⟩ : x.cell? ⟨w.heap.size, 3, none⟩ = some (.slice (some ⟨nb, noff, none⟩) d.net.length ncap) ∧ x.cell? ⟨w.heap.size + 1, 1, none⟩ = some (.int .i64 i)))
    refine wpAnyL_take (i := 1) (v := ?_) rfl (by kernel_rfl) (by kernel_rfl) (by kernel_rfl) (by kernel_rfl) (fun _ _ _ h => h) (Or.inl ⟨by rfl, ?_⟩) (by assumption) ?_
    rotate_left
    ·intro w hSw; (try dsimp only at hSw); go_simp; try with_reducible rfl
    (try simp only [Act.put, List.getElem_toArray, List.getElem_cons_succ, List.getElem_cons_zero, List.getElem?_toArray, List.getElem?_cons_succ, List.getElem?_cons_zero, List.setIfInBounds_toArray, List.set_cons_zero, List.set_cons_succ])
    refine wpAnyL_take (i := 3) (v := ?_) rfl (by kernel_rfl) (by kernel_rfl) (by kernel_rfl) (by kernel_rfl) (fun _ _ _ h => h) (Or.inl ⟨by rfl, ?_⟩) (by assumption) ?_
    rotate_left
    ·intro w hSw; (try dsimp only at hSw); go_simp; try with_reducible rfl
    (try simp only [Act.put, List.getElem_toArray, List.getElem_cons_succ, List.getElem_cons_zero, List.getElem?_toArray, List.getElem?_cons_succ, List.getElem?_cons_zero, List.setIfInBounds_toArray, List.set_cons_zero, List.set_cons_succ])
    refine wpAnyL_take (i := 7) (v := ?_) rfl (by kernel_rfl) (by kernel_rfl) (by kernel_rfl) (by kernel_rfl) (fun _ _ _ h => h) (Or.inl ⟨by rfl, ?_⟩) (by assumption) ?_
    rotate_left
    ·intro w hSw; (try dsimp only at hSw); go_simp; try with_reducible rfl
    (try simp only [Act.put, List.getElem_toArray, List.getElem_cons_succ, List.getElem_cons_zero, List.getElem?_toArray, List.getElem?_cons_succ, List.getElem?_cons_zero, List.setIfInBounds_toArray, List.set_cons_zero, List.set_cons_succ])
    refine wpAnyL_take (i := 9) (v := ?_) rfl (by kernel_rfl) (by kernel_rfl) (by kernel_rfl) (by kernel_rfl) (fun _ _ _ h => h) (Or.inl ⟨by rfl, ?_⟩) (by assumption) ?_
    rotate_left
    ·intro w hSw; (try dsimp only at hSw); go_simp; try with_reducible rfl
    (try simp only [Act.put, List.getElem_toArray, List.getElem_cons_succ, List.getElem_cons_zero, List.getElem?_toArray, List.getElem?_cons_succ, List.getElem?_cons_zero, List.setIfInBounds_toArray, List.set_cons_zero, List.set_cons_succ])
    refine wpAnyL_take (i := 2) (v := ?_) rfl (by kernel_rfl) (by kernel_rfl) (by kernel_rfl) (by kernel_rfl) (fun _ _ _ h => h) (Or.inl ⟨by rfl, ?_⟩) (by assumption) ?_
    rotate_left
    ·intro w hSw; (try dsimp only at hSw); go_simp; try with_reducible rfl
    (try simp only [Act.put, List.getElem_toArray, List.getElem_cons_succ, List.getElem_cons_zero, List.getElem?_toArray, List.getElem?_cons_succ, List.getElem?_cons_zero, List.setIfInBounds_toArray, List.set_cons_zero, List.set_cons_succ])
    refine wpAnyL_take (i := 4) (v := ?_) rfl (by kernel_rfl) (by kernel_rfl) (by kernel_rfl) (by kernel_rfl) (fun _ _ _ h => h) (Or.inl ⟨by rfl, ?_⟩) (by assumption) ?_
    rotate_left
    ·intro w hSw; (try dsimp only at hSw); go_simp; try with_reducible rfl
    (try simp only [Act.put, List.getElem_toArray, List.getElem_cons_succ, List.getElem_cons_zero, List.getElem?_toArray, List.getElem?_cons_succ, List.getElem?_cons_zero, List.setIfInBounds_toArray, List.set_cons_zero, List.set_cons_succ])
    refine wpAnyL_take (i := 8) (v := ?_) rfl (by kernel_rfl) (by kernel_rfl) (by kernel_rfl) (by kernel_rfl) (fun _ _ _ h => h) (Or.inl ⟨by rfl, ?_⟩) (by assumption) ?_
    rotate_left
    ·intro w hSw; (try dsimp only at hSw); go_simp; try with_reducible rfl
    (try simp only [Act.put, List.getElem_toArray, List.getElem_cons_succ, List.getElem_cons_zero, List.getElem?_toArray, List.getElem?_cons_succ, List.getElem?_cons_zero, List.setIfInBounds_toArray, List.set_cons_zero, List.set_cons_succ])
    refine wpAnyL_take (i := 10) (v := ?_) rfl (by kernel_rfl) (by kernel_rfl) (by kernel_rfl) (by kernel_rfl) (fun _ _ _ h => h) (Or.inl ⟨by rfl, ?_⟩) (by assumption) ?_
    rotate_left
    ·intro w hSw; (try dsimp only at hSw); go_simp; try with_reducible rfl
    (try simp only [Act.put, List.getElem_toArray, List.getElem_cons_succ, List.getElem_cons_zero, List.getElem?_toArray, List.getElem?_cons_succ, List.getElem?_cons_zero, List.setIfInBounds_toArray, List.set_cons_zero, List.set_cons_succ])
    refine wpAnyL_take (i := 5) (v := ?_) rfl (by kernel_rfl) (by kernel_rfl) (by kernel_rfl) (by kernel_rfl) (fun _ _ _ h => h) (Or.inl ⟨by rfl, ?_⟩) (by assumption) ?_
    rotate_left
    ·intro w hSw; (try dsimp only at hSw); go_simp; try with_reducible rfl
    (try simp only [Act.put, List.getElem_toArray, List.getElem_cons_succ, List.getElem_cons_zero, List.getElem?_toArray, List.getElem?_cons_succ, List.getElem?_cons_zero, List.setIfInBounds_toArray, List.set_cons_zero, List.set_cons_succ])
    refine wpAnyL_take (i := 11) (v := ?_) rfl (by kernel_rfl) (by kernel_rfl) (by kernel_rfl) (by kernel_rfl) (fun _ _ _ h => h) (Or.inl ⟨by rfl, ?_⟩) (by assumption) ?_
    rotate_left
    ·intro w hSw; (try dsimp only at hSw); go_simp; try with_reducible rfl
    (try simp only [Act.put, List.getElem_toArray, List.getElem_cons_succ, List.getElem_cons_zero, List.getElem?_toArray, List.getElem?_cons_succ, List.getElem?_cons_zero, List.setIfInBounds_toArray, List.set_cons_zero, List.set_cons_succ])
    refine wpAnyL_take (i := 12) (v := ?_) rfl (by kernel_rfl) (by kernel_rfl) (by kernel_rfl) (by kernel_rfl) (fun _ _ _ h => h) (Or.inl ⟨by rfl, ?_⟩) (by assumption) ?_
    rotate_left
    ·intro w hSw; (try dsimp only at hSw); go_simp; try with_reducible rfl
    (try simp only [Act.put, List.getElem_toArray, List.getElem_cons_succ, List.getElem_cons_zero, List.getElem?_toArray, List.getElem?_cons_succ, List.getElem?_cons_zero, List.setIfInBounds_toArray, List.set_cons_zero, List.set_cons_succ])
    refine wpAnyL_ready (rs := [0]) (by kernel_rfl) (by simp) ?_
    refine AllReadyL.cons rfl (fun K hK => ?_) AllReadyL.nil
    go_simp
    have OWN := hid (World.ownsRow_made (e := 47) (size := 4) V #[] 0 (Nat.le_refl _) (by decide) (by simp))
    have FW := hid (FW.out.alloc (.cells #[] 47))
    refine hK.out _ _ (Or.inr ?_) (fun hHeld => ?_)
    ·exact KP.out _ FW.out
    replace hHeld := hHeld.resolve_right (by decide)
    clear hK K
    (try simp only [Act.put, List.getElem_toArray, List.getElem_cons_succ, List.getElem_cons_zero, List.getElem?_toArray, List.getElem?_cons_succ, List.getElem?_cons_zero, List.setIfInBounds_toArray, List.set_cons_zero, List.set_cons_succ])
    refine wpAnyL_ready (rs := [6]) (by kernel_rfl) (by simp) ?_
    refine AllReadyL.cons rfl (fun K hK => ?_) AllReadyL.nil
    refine step_apG rfl (.tmp 27) (.tmp 32) 28 rfl V.heap.size 47 im (.agg #[.int .i64 0, .int .i64 0, .int .i64 0, .bool false]) 4 32 Tryz.underlying28 hmi hmz0 hmz1 hmz2 rfl (by decide) (.slice (some ⟨V.heap.size, 0, none⟩) 0 0) 0 [] (by rfl) OWN.out (new lo) 47 (.slice (some ⟨nb, noff, none⟩) i ncap) i ((d.net.flatMap encM).take (i * 4)) (by rfl) ((SlR.keep NN.out FW.out (Safe.new (by simp))).take (Nat.le_of_lt hlt)) (fun u hu => oneM _ u (List.mem_of_mem_take hu)) (by unfold maxLen; omega) (by omega) FW.out.size ?_
    intro v3 w3 own3 gr3 _
    rw [Nat.zero_add, List.nil_append] at own3
    obtain ⟨a3, c3, rfl⟩ := own_any own3
    have FW := hid (FW.out.after (Fr.ofOwnGrown (B := V.heap.size) (T := [47]) OWN.out gr3 (Nat.le_refl _) (List.mem_singleton.2 rfl)))
    have OWN := hid own3
    clear own3 gr3
    refine hK.out _ _ (Or.inr ?_) (fun hHeld => ?_)
    ·exact KP.out _ FW.out
    replace hHeld := hHeld.resolve_right (by decide)
    clear hK K
    (try simp only [Act.put, List.getElem_toArray, List.getElem_cons_succ, List.getElem_cons_zero, List.getElem?_toArray, List.getElem?_cons_succ, List.getElem?_cons_zero, List.setIfInBounds_toArray, List.set_cons_zero, List.set_cons_succ])
    refine wpAnyL_ready (rs := [13]) (by kernel_rfl) (by simp) ?_
    refine AllReadyL.cons rfl (fun K hK => ?_) AllReadyL.nil
    refine step_apG rfl (.tmp 33) (.tmp 39) 28 rfl V.heap.size 47 im (.agg #[.int .i64 0, .int .i64 0, .int .i64 0, .bool false]) 4 32 Tryz.underlying28 hmi hmz0 hmz1 hmz2 rfl (by decide) (.slice a3 i c3) i ((d.net.flatMap encM).take (i * 4)) (by rfl) OWN.out (new lo) 47 (.slice (some ⟨nb, noff + (i + 1) * 4, none⟩) (d.net.length - (i + 1)) (ncap - (i + 1))) (d.net.length - (i + 1)) ((d.net.flatMap encM).drop ((i + 1) * 4)) (by rfl) ((SlR.keep NN.out FW.out (Safe.new (by simp))).drop hlt) (fun u hu => oneM _ u (List.mem_of_mem_drop hu)) (by unfold maxLen; omega) (by omega) FW.out.size ?_
    intro v6 w6 own6 gr6 _
    rw [netDel_cells, show i + (d.net.length - (i + 1)) = (netDel d.net i).length by (rw [netDel_length hlt]; omega)] at own6
    obtain ⟨a6, c6, rfl⟩ := own_any own6
    have FW := hid (FW.out.after (Fr.ofOwnGrown (B := V.heap.size) (T := [47]) OWN.out gr6 (Nat.le_refl _) (List.mem_singleton.2 rfl)))
    have OWN := hid own6
    have s0 := cell_of (o := 3) (FW.out.keep _ _ B0.out (.inr (by simp))) rfl
    have s1 := free_of (o := 3) (FW.out.keep _ _ B0.out (.inr (by simp)))
    clear own6 gr6
    refine hK.out _ _ (Or.inr ?_) (fun hHeld => ?_)
    ·exact KP.out _ FW.out
    replace hHeld := hHeld.resolve_right (by decide)
    clear hK K
    (try simp only [Act.put, List.getElem_toArray, List.getElem_cons_succ, List.getElem_cons_zero, List.getElem?_toArray, List.getElem?_cons_succ, List.getElem?_cons_zero, List.setIfInBounds_toArray, List.set_cons_zero, List.set_cons_succ])
    refine wpAnyL_take (i := 14) (v := ?_) rfl (by kernel_rfl) (by kernel_rfl) (by kernel_rfl) (by kernel_rfl) (fun _ _ _ h => h) (Or.inl ⟨by rfl, ?_⟩) (by assumption) ?_
    rotate_left
    ·intro w hSw; (try dsimp only at hSw); go_simp; try with_reducible rfl
    (try simp only [Act.put, List.getElem_toArray, List.getElem_cons_succ, List.getElem_cons_zero, List.getElem?_toArray, List.getElem?_cons_succ, List.getElem?_cons_zero, List.setIfInBounds_toArray, List.set_cons_zero, List.set_cons_succ])
    refine wpAnyL_one (i := 15) (by kernel_rfl) rfl (fun K hK => ?_)
    go_simp
    refine hK.out _ _ (Or.inl rfl) (fun hHeld => ?_)
    clear hK K hHeld
    (try simp only [Act.put, List.getElem_toArray, List.getElem_cons_succ, List.getElem_cons_zero, List.getElem?_toArray, List.getElem?_cons_succ, List.getElem?_cons_zero, List.setIfInBounds_toArray, List.set_cons_zero, List.set_cons_succ])
    refine wpAnyL_done (by kernel_rfl) ?_ _
    have FN := hid (FW0.out.trans FW.out.nil)
    have E0 := hid (FW.out.keep _ _ B0.out (.inr (by simp)))
    have E1 := hid (FW.out.keep _ _ B1.out (.inr (by simp)))
    have E2 := hid (FW.out.keep _ _ B2.out (.inr (by simp)))
    have E3 := hid (FW.out.keep _ _ B3.out (.inr (by simp)))
    have NR : NetR lo w6 (.slice a6 (netDel d.net i).length c6) (netDel d.net i) := (SlR.ofOwns OWN.out).weak (new_low (Nat.le_trans hlo FW0.out.size))
    have ES := hid (block_set E0.out 3 (.slice a6 (netDel d.net i).length c6))
    have E1S := hid (block_setne (p := ⟨w.heap.size, 3, none⟩) (u := .slice a6 (netDel d.net i).length c6) E1.out (by dsimp only; omega))
    have E2S := hid (block_setne (p := ⟨w.heap.size, 3, none⟩) (u := .slice a6 (netDel d.net i).length c6) E2.out (by dsimp only; omega))
    have E3S := hid (block_setne (p := ⟨w.heap.size, 3, none⟩) (u := .slice a6 (netDel d.net i).length c6) E3.out (by dsimp only; omega))
    have FS := (Fr.refl 0 [30] w6).setOld (p := ⟨w.heap.size, 3, none⟩) E0.out (Nat.zero_le _) (by simp [otag]) (.slice a6 (netDel d.net i).length c6)
    have FV := hid (FN.out.setNew (p := ⟨w.heap.size, 3, none⟩) (by dsimp only; omega) (.slice a6 (netDel d.net i).length c6))
    have WR := hid (show WdR lo (w6.setCell ⟨w.heap.size, 3, none⟩ (.slice a6 (netDel d.net i).length c6)) (.slice ta d.co.txns.length tcap) (.slice oa d.co.order.length ocap) (.slice sa d.shards.length scap) (.slice a6 (netDel d.net i).length c6) ⟨d.co, d.shards, netDel d.net i⟩ from WdR.tk ⟨(HV.out.grow FN.out).1, (HV.out.grow FN.out).2.1, NR⟩ FS (by simp [Apt]))
    have WD := hid (show WdI ⟨d.co, d.shards, netDel d.net i⟩ from ⟨WI.out.1, WI.out.2.1, WI.out.2.2.1, netDel_I WI.out.2.2.2⟩)
    clear FW KP FW0 NN B0 B1 B2 B3 OWN hHeld s0 s1 NR FS hl0 hl1
    have e0 := cell_of (o := 0) ES.out rfl
    have e1 := cell_of (o := 1) ES.out rfl
    have e2 := cell_of (o := 2) ES.out rfl
    have e3 := cell_of (o := 3) ES.out rfl
    have e4 := fun o => free_of (o := o) E2S.out
    have e5 := cell_of (o := 0) E2S.out rfl
    have e6 := cell_of (o := 1) E2S.out rfl
    have e7 := cell_of (o := 2) E2S.out rfl
    have e8 := cell_of (o := 3) E2S.out rfl
    have e9 := cell_of (o := 0) E1S.out rfl
    have e10 := cell_of (o := 0) E3S.out rfl
    have e11 := cell_of (o := 1) E3S.out rfl
    have e12 := cell_of (o := 2) E3S.out rfl
    have e13 := cell_of (o := 3) E3S.out rfl
    have hlE := lt_of_get E2S.out
    by_cases hk2 : ek = 2
    ·subst hk2
     go_wp2_with (go_at_call 158; go_must (refine (l51Hear_any lo _ _ _ _ ⟨d.co, d.shards, netDel d.net i⟩ mk mt j my _ WR.out (Nat.le_trans hlo FV.out.size) WD.out hj2).mono ?_; rintro e w7 ⟨u1, u2, u3, u4, d', rfl, wr, wi, fr7⟩; obtain ⟨ua, ucap, rfl, _, _⟩ := wr.1.1.shape; obtain ⟨ub, ubcap, rfl, _, _⟩ := wr.1.2.shape; obtain ⟨uc, uccap, rfl, _, _⟩ := wr.2.1.shape; obtain ⟨ud, udcap, rfl, _, _⟩ := wr.2.2.shape; have WR7 := hid wr; have WI7 := hid wi; have FR7 := hid fr7; have G1 := hid (fr7.keep _ _ E2S.out (.inr (by simp))); have s4 := fun o => free_of (o := o) G1.out; have s5 := cell_of (o := 0) G1.out rfl; have s6 := cell_of (o := 1) G1.out rfl; have s7 := cell_of (o := 2) G1.out rfl; have s8 := cell_of (o := 3) G1.out rfl; have hlG := lt_of_get G1.out; clear wr wi fr7))
     have F7 := FV.out.trans FR7.out.nil
     have h4 := box4 (u1 := .slice ua d'.co.txns.length ucap) (u2 := .slice ub d'.co.order.length ubcap) (u3 := .slice uc d'.shards.length uccap) (u4 := .slice ud d'.net.length udcap) G1.out
     have g0 := cell_of (o := 0) h4 rfl
     have g1 := cell_of (o := 1) h4 rfl
     have g2 := cell_of (o := 2) h4 rfl
     have g3 := cell_of (o := 3) h4 rfl
     have FT := box4_fr (u1 := .slice ua d'.co.txns.length ucap) (u2 := .slice ub d'.co.order.length ubcap) (u3 := .slice uc d'.shards.length uccap) (u4 := .slice ud d'.net.length udcap) G1.out
     exact bodyPost_ret (v := .agg #[.slice ua d'.co.txns.length ucap, .slice ub d'.co.order.length ubcap, .slice uc d'.shards.length uccap, .slice ud d'.net.length udcap]) (by simp [results, Tryz.results108, go_sem, g0, g1, g2, g3]) rfl ⟨_, _, _, _, d', rfl, (WR7.out).tk FT (by simp [Apt]), WI7.out, (((F7.setNew (p := ⟨w.heap.size + 2, 0, none⟩) (by dsimp only; omega) _).setNew (p := ⟨w.heap.size + 2, 1, none⟩) (by dsimp only; omega) _).setNew (p := ⟨w.heap.size + 2, 2, none⟩) (by dsimp only; omega) _).setNew (by dsimp only; omega) _⟩
    ·have hk2b : (ek == 2) = false := by simpa using hk2
     go_wp2
     have h4 := box4 (u1 := .slice ta d.co.txns.length tcap) (u2 := .slice oa d.co.order.length ocap) (u3 := .slice sa d.shards.length scap) (u4 := .slice a6 (netDel d.net i).length c6) E2S.out
     have g0 := cell_of (o := 0) h4 rfl
     have g1 := cell_of (o := 1) h4 rfl
     have g2 := cell_of (o := 2) h4 rfl
     have g3 := cell_of (o := 3) h4 rfl
     have FT := box4_fr (u1 := .slice ta d.co.txns.length tcap) (u2 := .slice oa d.co.order.length ocap) (u3 := .slice sa d.shards.length scap) (u4 := .slice a6 (netDel d.net i).length c6) E2S.out
     exact bodyPost_ret (v := .agg #[.slice ta d.co.txns.length tcap, .slice oa d.co.order.length ocap, .slice sa d.shards.length scap, .slice a6 (netDel d.net i).length c6]) (by simp [results, Tryz.results108, go_sem, g0, g1, g2, g3]) rfl ⟨_, _, _, _, ⟨d.co, d.shards, netDel d.net i⟩, rfl, (WR.out).tk FT (by simp [Apt]), WD.out, (((FV.out.setNew (p := ⟨w.heap.size + 2, 0, none⟩) (by dsimp only; omega) _).setNew (p := ⟨w.heap.size + 2, 1, none⟩) (by dsimp only; omega) _).setNew (p := ⟨w.heap.size + 2, 2, none⟩) (by dsimp only; omega) _).setNew (by dsimp only; omega) _⟩

end Go.Proofs.YtknoanpgadecbaaGreatDoor
