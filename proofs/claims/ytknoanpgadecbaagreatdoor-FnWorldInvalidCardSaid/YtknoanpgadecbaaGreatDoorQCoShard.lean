/- The reference's l22Shard, CoordinatorTimeout, l22Vote. -/
import Derived.Test.YtknoanpgadecbaaGreatDoorQCoBegin
set_option linter.unusedVariables false
set_option linter.unusedSimpArgs false
namespace Go.Proofs.YtknoanpgadecbaaGreatDoor
open Go.RowKit
set_option linter.unusedVariables false

set_option maxRecDepth 20000 in
set_option maxHeartbeats 2000000 in
theorem l22Shard_any (lo : Nat) (v : Value) (ps : List Pt) (x : Int) (w : World) (hv : PartsR lo w v ps) (hl : ps.length ≤ 1000000000) :
  Calls Tryz.prog 50 #[v, .int .i64 x] w fun e w' => e = .returned (.int .i64 (partOf ps x)) ∧ w = w' := by
 obtain ⟨a, cap, rfl, hc, hcell⟩ := hv.shape
 have HC := hid hcell
 clear hv hcell
 go_enter Tryz.func50, Tryz.ntmps50
 go_wp2
 go_loopw [5] (fun vi wx => ∃ k : Nat, k ≤ ps.length ∧ vi = .int .i64 k ∧ (∀ i (hi : i < ps.length), i < k → ps[i].shard ≠ x) ∧ wx = w) (fun vi _ => ps.length - (intOf vi).toNat)
 case atStart => exact ⟨0, Nat.zero_le _, rfl, fun i _ h => by omega, rfl⟩
 case round =>
  obtain ⟨k, hk, rfl, hno, rfl⟩ := hrel
  have NO := hid hno
  clear hno
  by_cases hlt : k < ps.length
  ·rcases HC.out with h | ⟨b, off, rfl, hbs, hcell⟩
   ·rw [h] at hlt; simp at hlt
   obtain ⟨_, _, c0, _, _⟩ := hcell k hlt
   have hki : (k : Int) < (ps.length : Int) := by omega
   clear hcell
   by_cases he : ps[k].shard = x
   ·have R := hid (partOf_at hlt NO.out he)
    obtain ⟨y, hy⟩ : ∃ y, y = ps[k].shard := ⟨_, rfl⟩
    rw [← hy] at c0 he
    subst he
    clear hy
    go_wp2
    go_ret
    exact ⟨ret_int R.out.symm, rfl⟩
   ·have NX := hid (show ∀ i (hi : i < ps.length), i < k + 1 → ps[i].shard ≠ x from fun i hi hik => by
     by_cases e : i = k
     ·subst e; exact he
     ·exact NO.out i hi (by omega))
    generalize ps[k].shard = y at *
    go_wp2
    go_roundw
    case rel => exact ⟨k + 1, by omega, by go_num, NX.out, trivial⟩
    case measure => simp [intOf]; omega
  ·obtain rfl : k = ps.length := by omega
   have R := hid (partOf_none (ps := ps) (k := x) fun i hi => NO.out i hi hi)
   go_wp2
   go_ret
   exact ⟨ret_int R.out.symm, rfl⟩

theorem box2 {w : World} {n : Nat} {x y u1 u2 : Value} {T : Nat} (h : w.heap[n]? = some (.cells #[x, y] T (0, 0))) :
  ((w.setCell ⟨n, 0, none⟩ u1).setCell ⟨n, 1, none⟩ u2).heap[n]? = some (.cells #[u1, u2] T (0, 0)) := by
 have := block_set (block_set h 0 u1) 1 u2
 simpa using this

theorem box2_fr {w : World} {n : Nat} {x y u1 u2 : Value} {T : Nat} (h : w.heap[n]? = some (.cells #[x, y] T (0, 0))) :
  Fr 0 [T] w ((w.setCell ⟨n, 0, none⟩ u1).setCell ⟨n, 1, none⟩ u2) :=
 ((Fr.refl 0 [T] w).setOld (p := ⟨n, 0, none⟩) h (Nat.zero_le _) (by simp [otag]) u1).setOld (p := ⟨n, 1, none⟩) (block_set h 0 u1) (Nat.zero_le _) (by simp [otag]) u2

theorem coI_dec {c : Co} (h : CoI c) {ts : List Tn} (hl : ts.length = c.txns.length) (hs : ∀ i (h1 : i < c.txns.length) (h2 : i < ts.length), ts[i].parts = c.txns[i].parts ∧ ts[i].votes.length = c.txns[i].votes.length ∧ ∀ v ∈ ts[i].votes, v ∈ c.txns[i].votes ∨ (-1000 ≤ v ∧ v ≤ 1000)) {o : List Int} (ho : o.length ≤ 1000) : CoI ⟨ts, o⟩ :=
 ⟨fun t ht => by
  obtain ⟨i, hi, rfl⟩ := List.getElem_of_mem ht
  have hi' : i < c.txns.length := by rw [← hl]; exact hi
  obtain ⟨h1, h2, h3⟩ := hs i hi' hi
  obtain ⟨g1, g2, g3, g4⟩ := h.1 _ (List.getElem_mem hi')
  refine ⟨?_, ?_, ?_, fun v hv => (h3 v hv).elim (g4 v) id⟩
  ·rw [h1]; exact g1
  ·rw [h1]; exact g2
  ·rw [h2]; exact g3, by simp only; rw [hl]; exact h.2.1, ho⟩

theorem own_row {lo : Nat} {w : World} {v : Value} {ts : List Tn} (h : TxnsOwn lo w v ts) : ∃ cs, w.ownsRow lo 74 3 v ts.length cs := by
 obtain ⟨zs, _, h2, _⟩ := h
 exact ⟨_, h2⟩

theorem txn_cell {lo g n cap : Nat} {w : World} {ts : List Tn} (h : TxnsOwn lo w (.slice (some ⟨g, 0, none⟩) n cap) ts) {k : Nat} (hk : k < ts.length) :
  w.cell? ⟨g, k * 3 + 2, none⟩ = some (.int .i64 ts[k].dec) ∧ w.frozen? ⟨g, k * 3 + 2, none⟩ = false ∧ lo ≤ g ∧ g < w.heap.size ∧ ∃ cur, w.heap[g]? = some (.cells cur 74 (0, 0)) := by
 obtain ⟨zs, rfl, h2, h3⟩ := h
 have hz : k < zs.length := by simpa using hk
 obtain ⟨hl, hs⟩ := id h2
 rcases hs with ⟨hh, _⟩ | ⟨g', cap', cur, hh, h4, h5, h6, h7, h8, h9⟩
 ·cases hh
 ·cases hh
  refine ⟨?_, free_of h5, h4, lt_of_get h5, cur, h5⟩
  have := fm_get encT 3 (fun _ => rfl) zs k 2 (by omega) hz
  have h10 : (zs.flatMap encT)[k * 3 + 2]? = some (.int .i64 zs[k].1.dec) := by simpa [encT] using this
  rw [← h9, List.getElem?_take] at h10
  split at h10
  ·refine cell_of h5 ?_
   simpa using h10
  ·cases h10

set_option maxRecDepth 20000 in
set_option maxHeartbeats 4000000 in
theorem specTimeout_own (lo : Nat) (v1 v2 : Value) (c : Co) (txn : Int) (w : World) (hv : CoR lo w v1 v2 c) (hi : CoI c) :
  Calls Tryz.prog 74 #[.agg #[v1, v2], .int .i64 txn] w fun e w' =>
   ∃ u1 u2 c' ok, e = .returned (.tuple #[.agg #[u1, u2], .bool ok]) ∧ CoOwn w.heap.size w' u1 u2 c' ∧ CoI c' ∧ (ok = true → 0 ≤ txn ∧ txn < c'.txns.length) ∧ Fr w.heap.size [] w w' := by
 obtain ⟨ta, tcap, rfl, _, hcell⟩ := hv.1.shape
 obtain ⟨oa, ocap, rfl, _, _⟩ := hv.2.shape
 have HV := hid hv
 have HC := hid hcell
 have CI := hid hi
 have htl := hi.2.1
 have hol := hi.2.2
 have A0 := hid (heap_up (heap_alloc_new w (.cells #[.slice ta c.txns.length tcap, .slice oa c.order.length ocap] 26)) (.cells #[.slice none 0 0, .slice none 0 0] 26))
 have A1 := hid (show ((w.alloc (.cells #[.slice ta c.txns.length tcap, .slice oa c.order.length ocap] 26)).alloc (.cells #[.slice none 0 0, .slice none 0 0] 26)).heap[w.heap.size + 1]? = some (.cells #[.slice none 0 0, .slice none 0 0] 26 (0, 0)) by
  have := heap_alloc_new (w.alloc (.cells #[.slice ta c.txns.length tcap, .slice oa c.order.length ocap] 26)) (.cells #[.slice none 0 0, .slice none 0 0] 26); simpa using this)
 have FA := hid (((Fr.refl w.heap.size [] w).alloc (.cells #[.slice ta c.txns.length tcap, .slice oa c.order.length ocap] 26)).alloc (.cells #[.slice none 0 0, .slice none 0 0] 26))
 have iw : IntKind.i64.wrap ((c.txns.length : Int) - 1) = (c.txns.length : Int) - 1 := by rw [IntKind.wrap_i64]; omega
 clear hv hi hcell
 go_enter Tryz.func74, Tryz.ntmps74
 rcases g1 : coOk c with _ | _
 ·have G1 := hid g1
  clear g1
  go_wp2_with (go_at_call 18; go_must (refine (specCoValid_any lo _ _ c _ (HV.out.grow FA.out) CI.out.b).mono ?_; rintro e w1 ⟨rfl, fr1⟩; rw [G1.out]; have F1 := hid (FA.out.trans fr1.nil); have C1 := hid (fr1.keep _ _ A1.out (.inr (by simp))); have p0 := cell_of (o := 0) C1.out rfl; have p1 := cell_of (o := 1) C1.out rfl; have p2 := fun o => free_of (o := o) C1.out))
  have g2 := cell_of (o := 0) (box2 (u1 := .slice none 0 0) (u2 := .slice none 0 0) C1.out) rfl
  have g3 := cell_of (o := 1) (box2 (u1 := .slice none 0 0) (u2 := .slice none 0 0) C1.out) rfl
  exact bodyPost_ret (v := .tuple #[.agg #[.slice none 0 0, .slice none 0 0], .bool false]) (by simp [results, Tryz.results74, go_sem, g2, g3]) rfl ⟨_, _, ⟨[], []⟩, false, rfl, CoOwn.nil _ _, CoI.nil, fun h => (by cases h), (F1.out.setNew (by dsimp only; omega) _).setNew (by dsimp only; omega) _⟩
 ·have G1 := hid g1
  clear g1
  rcases g2 : inR txn 0 ((c.txns.length : Int) - 1) with _ | _
  ·have G2 := hid g2
   clear g2
   go_wp2_with (first
    | (go_at_call 18; go_must (refine (specCoValid_any lo _ _ c _ (HV.out.grow FA.out) CI.out.b).mono ?_; rintro e w1 ⟨rfl, fr1⟩; rw [G1.out]; have F1 := hid (FA.out.trans fr1.nil); have C0 := hid (fr1.keep _ _ A0.out (.inr (by simp))); have C1 := hid (fr1.keep _ _ A1.out (.inr (by simp))); have p0 := cell_of (o := 0) C0.out rfl; have p1 := cell_of (o := 1) C0.out rfl))
    | (go_at_call 67; go_must (refine (l22Copy_any lo _ _ c _ (HV.out.grow F1.out) CI.out).mono ?_; rintro e w3 ⟨u1, u2, m3, rfl, own3, or3, hm3, hob3, fr3⟩; have CO3 := hid (CoOwn.ofM own3 or3 hob3 hm3); replace own3 := own3.own hm3; obtain ⟨ua, ucap, rfl, _, _⟩ := own3.reads.shape; obtain ⟨oa2, ocap2, rfl, _, _⟩ := or3.reads.shape; have OW3 := hid own3; have OR3 := hid or3.reads; have F3 := hid (F1.out.trans fr3.nil); have E0 := hid (fr3.keep _ _ C0.out (.inr (by simp))); have E1 := hid (fr3.keep _ _ C1.out (.inr (by simp))); have hs2 := F1.out.size; have hl1 := lt_of_get E1.out; have HB3 := hid (heap_alloc_new w3 (.cells #[.slice ua c.txns.length ucap, .slice oa2 c.order.length ocap2] 26)); have r0 := cell_of (o := 0) HB3.out rfl; have r1 := cell_of (o := 1) HB3.out rfl; have r2 := cell_of (o := 0) E1.out rfl; have r3 := cell_of (o := 1) E1.out rfl; have r4 := fun o => free_of (o := o) E1.out; have r5 := cell_of (o := 0) (heap_up E0.out (.cells #[.slice ua c.txns.length ucap, .slice oa2 c.order.length ocap2] 26)) rfl; clear own3 or3 fr3))
    | (go_at_call 22; go_must (refine (l6In_any _ _ _ _).mono ?_; rintro e w4 ⟨rfl, hw4⟩; rw [G2.out]; subst hw4)))
   have h3 := heap_up (box2 (u1 := .slice ua c.txns.length ucap) (u2 := .slice oa2 c.order.length ocap2) E1.out) (.cells #[.slice ua c.txns.length ucap, .slice oa2 c.order.length ocap2] 26)
   have g2 := cell_of (o := 0) h3 rfl
   have g3 := cell_of (o := 1) h3 rfl
   have FT := (box2_fr (u1 := .slice ua c.txns.length ucap) (u2 := .slice oa2 c.order.length ocap2) E1.out).alloc (.cells #[.slice ua c.txns.length ucap, .slice oa2 c.order.length ocap2] 26)
   exact bodyPost_ret (v := .tuple #[.agg #[.slice ua c.txns.length ucap, .slice oa2 c.order.length ocap2], .bool false]) (by simp [results, Tryz.results74, go_sem, g2, g3]) rfl ⟨_, _, c, false, rfl, (CO3.out.lower hs2).tk FT (by simp) (by simp) (by simp) (by simp), CI.out, fun h => (by cases h), ((F3.out.setNew (p := ⟨w.heap.size + 1, 0, none⟩) (by dsimp only; omega) _).setNew (by dsimp only; omega) _).alloc _⟩
  ·have G2 := hid g2
   have hin := inR_iff.1 g2
   obtain ⟨k, rfl⟩ := Int.eq_ofNat_of_zero_le hin.1
   have hkl : k < c.txns.length := by have := hin.2; omega
   have hki : (k : Int) < (c.txns.length : Int) := by omega
   clear g2 hin
   rcases HC.out with h | ⟨b, off, rfl, hbs, hcell⟩
   ·rw [h] at hkl; simp at hkl
   obtain ⟨_, _, _, _, _, _, x2, _, _⟩ := hcell k hkl
   clear hcell
   by_cases hd : c.txns[k].dec = 0
   ·rw [hd] at x2
    go_wp2_with (first
     | (go_at_call 18; go_must (refine (specCoValid_any lo _ _ c _ (HV.out.grow FA.out) CI.out.b).mono ?_; rintro e w1 ⟨rfl, fr1⟩; rw [G1.out]; have F1 := hid (FA.out.trans fr1.nil); have C0 := hid (fr1.keep _ _ A0.out (.inr (by simp))); have C1 := hid (fr1.keep _ _ A1.out (.inr (by simp))); have p0 := cell_of (o := 0) C0.out rfl; have p1 := cell_of (o := 1) C0.out rfl))
     | (go_at_call 67; go_must (refine (l22Copy_any lo _ _ c _ (HV.out.grow F1.out) CI.out).mono ?_; rintro e w3 ⟨u1, u2, m3, rfl, own3, or3, hm3, hob3, fr3⟩; have CO3 := hid (CoOwn.ofM own3 or3 hob3 hm3); replace own3 := own3.own hm3; obtain ⟨csr, hcsr⟩ := own_row own3; obtain ⟨g, gcap, rfl, _, _, _⟩ := own_shape hcsr (by omega); clear hcsr; obtain ⟨oa2, ocap2, rfl, _, _⟩ := or3.reads.shape; have OW3 := hid own3; obtain ⟨q0, q1, q2, q3, q4⟩ := txn_cell own3 hkl; have OR3 := hid or3.reads; have F3 := hid (F1.out.trans fr3.nil); have E0 := hid (fr3.keep _ _ C0.out (.inr (by simp))); have E1 := hid (fr3.keep _ _ C1.out (.inr (by simp))); have hs2 := F1.out.size; have FX3 := hid (F3.out.alloc (.cells #[.slice (some ⟨g, 0, none⟩) c.txns.length gcap, .slice oa2 c.order.length ocap2] 26)); have hl1 := lt_of_get E1.out; have HB3 := hid (heap_alloc_new w3 (.cells #[.slice (some ⟨g, 0, none⟩) c.txns.length gcap, .slice oa2 c.order.length ocap2] 26)); have r0 := cell_of (o := 0) HB3.out rfl; have r1 := cell_of (o := 1) HB3.out rfl; have r2 := cell_of (o := 0) E1.out rfl; have r3 := cell_of (o := 1) E1.out rfl; have r4 := fun o => free_of (o := o) E1.out; have d2 := FX3.out.cell hbs x2; have r5 := cell_of (o := 0) (heap_up E0.out (.cells #[.slice (some ⟨g, 0, none⟩) c.txns.length gcap, .slice oa2 c.order.length ocap2] 26)) rfl; clear own3 or3 fr3))
     | (go_at_call 22; go_must (refine (l6In_any _ _ _ _).mono ?_; rintro e w4 ⟨rfl, hw4⟩; rw [G2.out]; subst hw4)))
    have hlC := lt_of_get C1.out
    have hgn : w.heap.size + 1 ≠ g := by omega
    obtain ⟨sd1, cur, fr, sd2, _⟩ := (OW3.out.reads).storeD hkl 3
    rw [Nat.zero_add] at sd1
    have G1' := block_setne (p := ⟨g, k * 3 + 2, none⟩) (u := .int .i64 3) E1.out hgn
    have h3 := heap_up (box2 (u1 := .slice (some ⟨g, 0, none⟩) c.txns.length gcap) (u2 := .slice oa2 c.order.length ocap2) G1') (.cells #[.slice (some ⟨g, 0, none⟩) c.txns.length gcap, .slice oa2 c.order.length ocap2] 26)
    have g2 := cell_of (o := 0) h3 rfl
    have g3 := cell_of (o := 1) h3 rfl
    have FT := (box2_fr (u1 := .slice (some ⟨g, 0, none⟩) c.txns.length gcap) (u2 := .slice oa2 c.order.length ocap2) G1').alloc (.cells #[.slice (some ⟨g, 0, none⟩) c.txns.length gcap, .slice oa2 c.order.length ocap2] 26)
    have FD := (Fr.refl 0 [74] w3).setOld (p := ⟨g, k * 3 + 2, none⟩) sd2 (Nat.zero_le _) (by simp [otag]) (.int .i64 3)
    refine bodyPost_ret (v := .tuple #[.agg #[.slice (some ⟨g, 0, none⟩) c.txns.length gcap, .slice oa2 c.order.length ocap2], .bool true]) (by simp [results, Tryz.results74, go_sem, g2, g3]) rfl ⟨_, _, ⟨c.txns.set k { c.txns[k] with dec := 3 }, c.order⟩, true, rfl, ((show CoOwn w1.heap.size _ _ _ ⟨c.txns.set k { c.txns[k] with dec := 3 }, c.order⟩ from by simpa using CO3.out.storeD hkl 3).lower hs2).tk FT (by simp) (by simp) (by simp) (by simp), coI_dec CI.out (by simp) (fun i h1 h2 => ?_) hol, fun _ => ⟨by omega, by simp; omega⟩, ((((F3.out.setNew (p := ⟨g, k * 3 + 2, none⟩) (by dsimp only; omega) _).setNew (p := ⟨w.heap.size + 1, 0, none⟩) (by dsimp only; omega) _).setNew (by dsimp only; omega) _).alloc _)⟩
    rw [List.getElem_set]
    split
    ·rename_i e; subst e; exact ⟨rfl, rfl, fun v hv => .inl hv⟩
    ·exact ⟨rfl, rfl, fun v hv => .inl hv⟩
   ·generalize c.txns[k].dec = d at *
    go_wp2_with (first
     | (go_at_call 18; go_must (refine (specCoValid_any lo _ _ c _ (HV.out.grow FA.out) CI.out.b).mono ?_; rintro e w1 ⟨rfl, fr1⟩; rw [G1.out]; have F1 := hid (FA.out.trans fr1.nil); have C0 := hid (fr1.keep _ _ A0.out (.inr (by simp))); have C1 := hid (fr1.keep _ _ A1.out (.inr (by simp))); have p0 := cell_of (o := 0) C0.out rfl; have p1 := cell_of (o := 1) C0.out rfl))
     | (go_at_call 67; go_must (refine (l22Copy_any lo _ _ c _ (HV.out.grow F1.out) CI.out).mono ?_; rintro e w3 ⟨u1, u2, m3, rfl, own3, or3, hm3, hob3, fr3⟩; have CO3 := hid (CoOwn.ofM own3 or3 hob3 hm3); replace own3 := own3.own hm3; obtain ⟨ua, ucap, rfl, _, _⟩ := own3.reads.shape; obtain ⟨oa2, ocap2, rfl, _, _⟩ := or3.reads.shape; have OW3 := hid own3; have OR3 := hid or3.reads; have F3 := hid (F1.out.trans fr3.nil); have E0 := hid (fr3.keep _ _ C0.out (.inr (by simp))); have E1 := hid (fr3.keep _ _ C1.out (.inr (by simp))); have hs2 := F1.out.size; have FX3 := hid (F3.out.alloc (.cells #[.slice ua c.txns.length ucap, .slice oa2 c.order.length ocap2] 26)); have hl1 := lt_of_get E1.out; have HB3 := hid (heap_alloc_new w3 (.cells #[.slice ua c.txns.length ucap, .slice oa2 c.order.length ocap2] 26)); have r0 := cell_of (o := 0) HB3.out rfl; have r1 := cell_of (o := 1) HB3.out rfl; have r2 := cell_of (o := 0) E1.out rfl; have r3 := cell_of (o := 1) E1.out rfl; have r4 := fun o => free_of (o := o) E1.out; have d2 := FX3.out.cell hbs x2; have r5 := cell_of (o := 0) (heap_up E0.out (.cells #[.slice ua c.txns.length ucap, .slice oa2 c.order.length ocap2] 26)) rfl; clear own3 or3 fr3))
     | (go_at_call 22; go_must (refine (l6In_any _ _ _ _).mono ?_; rintro e w4 ⟨rfl, hw4⟩; rw [G2.out]; subst hw4)))
    have h3 := heap_up (box2 (u1 := .slice ua c.txns.length ucap) (u2 := .slice oa2 c.order.length ocap2) E1.out) (.cells #[.slice ua c.txns.length ucap, .slice oa2 c.order.length ocap2] 26)
    have g2 := cell_of (o := 0) h3 rfl
    have g3 := cell_of (o := 1) h3 rfl
    have FT := (box2_fr (u1 := .slice ua c.txns.length ucap) (u2 := .slice oa2 c.order.length ocap2) E1.out).alloc (.cells #[.slice ua c.txns.length ucap, .slice oa2 c.order.length ocap2] 26)
    exact bodyPost_ret (v := .tuple #[.agg #[.slice ua c.txns.length ucap, .slice oa2 c.order.length ocap2], .bool false]) (by simp [results, Tryz.results74, go_sem, g2, g3]) rfl ⟨_, _, c, false, rfl, (CO3.out.lower hs2).tk FT (by simp) (by simp) (by simp) (by simp), CI.out, fun h => (by cases h), ((F3.out.setNew (p := ⟨w.heap.size + 1, 0, none⟩) (by dsimp only; omega) _).setNew (by dsimp only; omega) _).alloc _⟩

theorem specTimeout_any (lo : Nat) (v1 v2 : Value) (c : Co) (txn : Int) (w : World) (hv : CoR lo w v1 v2 c) (hi : CoI c) :
  Calls Tryz.prog 74 #[.agg #[v1, v2], .int .i64 txn] w fun e w' =>
   ∃ u1 u2 c' ok, e = .returned (.tuple #[.agg #[u1, u2], .bool ok]) ∧ CoR w.heap.size w' u1 u2 c' ∧ CoI c' ∧ (ok = true → 0 ≤ txn ∧ txn < c'.txns.length) ∧ Fr w.heap.size [] w w' :=
 (specTimeout_own lo v1 v2 c txn w hv hi).mono fun _ _ ⟨u1, u2, c', ok, h1, h2, h3, h4, h5⟩ => ⟨u1, u2, c', ok, h1, h2.reads, h3, h4, h5⟩

end Go.Proofs.YtknoanpgadecbaaGreatDoor
