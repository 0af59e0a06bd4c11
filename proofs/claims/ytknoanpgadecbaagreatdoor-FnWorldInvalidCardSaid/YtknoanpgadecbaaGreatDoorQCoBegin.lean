/- The reference's CoordinatorBegin. -/
import Derived.Test.YtknoanpgadecbaaGreatDoorQM6
import Derived.Deep.OwnRows
set_option linter.unusedVariables false
set_option linter.unusedSimpArgs false
namespace Go.Proofs.YtknoanpgadecbaaGreatDoor
open Go.RowKit
set_option linter.unusedVariables false

theorem made_zeros (n : Nat) : (madeCells #[Value.int .i64 0] n).toList = (List.replicate n (0 : Int)).map (Value.int .i64) := by
 apply List.ext_getElem
 ·simp [madeCells]
 ·intro i h1 h2
  simp [madeCells, Nat.mod_one]

theorem votes_made {lo : Nat} (w : World) (n : Nat) (hn : n ≤ 1000000000) (hlo : lo ≤ w.heap.size) : OwnV lo (w.alloc (.cells (madeCells #[.int .i64 0] n) 3)) (.slice (some ⟨w.heap.size, 0, none⟩) n n) (List.replicate n 0) := by
 have h := World.ownsRow_lit (base := lo) (e := 3) (size := 1) w (madeCells #[.int .i64 0] n) n hlo (by unfold maxLen; omega) (by simp [madeCells])
 rw [made_zeros] at h
 unfold OwnV
 rw [List.length_replicate]
 exact h

def CoOutO (w : World) (e : Ending) (w' : World) : Prop :=
 ∃ u1 u2 c' ok, e = .returned (.tuple #[.agg #[u1, u2], .bool ok]) ∧ CoOwn w.heap.size w' u1 u2 c' ∧ CoI c' ∧ Fr w.heap.size [] w w'
def CoOut (w : World) (e : Ending) (w' : World) : Prop :=
 ∃ u1 u2 c' ok, e = .returned (.tuple #[.agg #[u1, u2], .bool ok]) ∧ CoR w.heap.size w' u1 u2 c' ∧ CoI c' ∧ Fr w.heap.size [] w w'

theorem CoR.nil (lo : Nat) (w : World) : CoR lo w (.slice none 0 0) (.slice none 0 0) ⟨[], []⟩ := ⟨⟨[], rfl, SlR.nil _ _ _ _, fun z hz => by cases hz⟩, SlR.nil _ _ _ _⟩
theorem CoI.nil : CoI ⟨[], []⟩ := ⟨fun t ht => (by cases ht), by simp, by simp⟩

theorem coI_snoc {c : Co} {ps : List Pt} (h : CoI c) (hl : c.txns.length < 12) (hp : ∀ p ∈ ps, PtI p) (hpl : ps.length ≤ 1000) : CoI ⟨c.txns ++ [⟨ps, List.replicate ps.length 0, 0⟩], c.order⟩ :=
 ⟨fun t ht => by
  rcases List.mem_append.1 ht with ht | ht
  ·exact h.1 t ht
  ·obtain rfl := List.mem_singleton.1 ht
   exact ⟨hp, hpl, by simpa using hpl, fun v hv => by have := List.eq_of_mem_replicate hv; omega⟩, by simp; omega, h.2.2⟩

theorem partsOk_I {ps : List Pt} (h : partsOk ps = true) (hu : ∀ p ∈ ps, p.ups.length ≤ 8) : ∀ p ∈ ps, PtI p := fun p hp => by
 obtain ⟨k, hk, rfl⟩ := List.getElem_of_mem hp
 have := partsOk_at h hk
 exact ⟨this.1, this.2.1, hu _ hp⟩

set_option maxRecDepth 20000 in
set_option maxHeartbeats 8000000 in
theorem specBegin_own (lo : Nat) (v1 v2 vp : Value) (c : Co) (ps : List Pt) (w : World) (hv : CoR lo w v1 v2 c) (hi : CoI c) (hp : PartsR lo w vp ps) (hpl : ps.length ≤ 1000) (hu : ∀ p ∈ ps, p.ups.length ≤ 8) :
  Calls Tryz.prog 72 #[.agg #[v1, v2], vp] w (CoOutO w) := by
 obtain ⟨ta, tcap, rfl, _, _⟩ := hv.1.shape
 obtain ⟨oa, ocap, rfl, _, _⟩ := hv.2.shape
 obtain ⟨pa, pcap, rfl, _, _⟩ := hp.shape
 obtain ⟨it, hti, htz0, htz1, htz2⟩ := info_parts infoT
 have hmk : ∀ w : World, (Instr.makeSlice 24 (.int .i64 (ps.length : Int)) (.int .i64 (ps.length : Int))).run Tryz.prog w = .ok (.slice (some ⟨w.heap.size, 0, none⟩) ps.length ps.length) (w.alloc (.cells (madeCells #[.int .i64 0] ps.length) 3)) := fun w => run_make_row' 24 3 _ 8 Tryz.underlying24 infoI rfl .i64 .i64 ps.length (by omega) (by omega) w
 have HV := hid hv
 have HP := hid hp
 have CI := hid hi
 have htl := hi.2.1
 have hol := hi.2.2
 have UL := hid (show ∀ p ∈ ps, p.ups.length ≤ 1000000000 from fun p hp => by have := hu p hp; omega)
 have U8 := hid hu
 have A0 := hid (heap_up (heap_alloc_new w (.cells #[.slice ta c.txns.length tcap, .slice oa c.order.length ocap] 26)) (.cells #[.slice none 0 0, .slice none 0 0] 26))
 have A1 := hid (show ((w.alloc (.cells #[.slice ta c.txns.length tcap, .slice oa c.order.length ocap] 26)).alloc (.cells #[.slice none 0 0, .slice none 0 0] 26)).heap[w.heap.size + 1]? = some (.cells #[.slice none 0 0, .slice none 0 0] 26 (0, 0)) by
  have := heap_alloc_new (w.alloc (.cells #[.slice ta c.txns.length tcap, .slice oa c.order.length ocap] 26)) (.cells #[.slice none 0 0, .slice none 0 0] 26); simpa using this)
 have FA := hid (((Fr.refl w.heap.size [] w).alloc (.cells #[.slice ta c.txns.length tcap, .slice oa c.order.length ocap] 26)).alloc (.cells #[.slice none 0 0, .slice none 0 0] 26))
 clear hv hp hi hu
 go_enter Tryz.func72, Tryz.ntmps72
 rcases g1 : coOk c with _ | _
 ·have G1 := hid g1
  clear g1
  go_wp2_with (go_at_call 18; go_must (refine (specCoValid_any lo _ _ c _ (HV.out.grow FA.out) CI.out.b).mono ?_; rintro e w1 ⟨rfl, fr1⟩; rw [G1.out]; have F1 := hid (FA.out.trans fr1.nil); have C1 := hid (fr1.keep _ _ A1.out (.inr (by simp))); have p0 := cell_of (o := 0) C1.out rfl; have p1 := cell_of (o := 1) C1.out rfl; have p2 := fun o => free_of (o := o) C1.out))
  have h1 := block_set C1.out 0 (.slice none 0 0)
  have h2 := block_set h1 1 (.slice none 0 0)
  have g2 := cell_of (o := 0) h2 rfl
  have g3 := cell_of (o := 1) h2 rfl
  exact bodyPost_ret (v := .tuple #[.agg #[.slice none 0 0, .slice none 0 0], .bool false]) (by simp [results, Tryz.results72, go_sem, g2, g3]) rfl ⟨_, _, ⟨[], []⟩, false, rfl, CoOwn.nil _ _, CoI.nil, (F1.out.setNew (by dsimp only; omega) _).setNew (by dsimp only; omega) _⟩
 ·have G1 := hid g1
  clear g1
  rcases g2 : partsOk ps with _ | _
  ·have G2 := hid g2
   clear g2
   go_wp2_with (first
    | (go_at_call 18; go_must (refine (specCoValid_any lo _ _ c _ (HV.out.grow FA.out) CI.out.b).mono ?_; rintro e w1 ⟨rfl, fr1⟩; rw [G1.out]; have F1 := hid (FA.out.trans fr1.nil); have C1 := hid (fr1.keep _ _ A1.out (.inr (by simp)))))
    | (go_at_call 86; go_must (refine (l22Parts_any lo _ ps _ (HP.out.grow F1.out) (by omega) UL.out).mono ?_; rintro e w2 ⟨rfl, fr2⟩; rw [G2.out]; have F2 := hid (F1.out.trans fr2.nil); have C2 := hid (fr2.keep _ _ C1.out (.inr (by simp))); have p0 := cell_of (o := 0) C2.out rfl; have p1 := cell_of (o := 1) C2.out rfl; have p2 := fun o => free_of (o := o) C2.out)))
   have h1 := block_set C2.out 0 (.slice none 0 0)
   have h2 := block_set h1 1 (.slice none 0 0)
   have g2 := cell_of (o := 0) h2 rfl
   have g3 := cell_of (o := 1) h2 rfl
   exact bodyPost_ret (v := .tuple #[.agg #[.slice none 0 0, .slice none 0 0], .bool false]) (by simp [results, Tryz.results72, go_sem, g2, g3]) rfl ⟨_, _, ⟨[], []⟩, false, rfl, CoOwn.nil _ _, CoI.nil, (F2.out.setNew (by dsimp only; omega) _).setNew (by dsimp only; omega) _⟩
  ·have G2 := hid g2
   have PI := hid (partsOk_I g2 U8.out)
   clear g2
   by_cases hl12 : 12 ≤ c.txns.length
   ·have e12 : (12 : Int) ≤ (c.txns.length : Int) := by omega
    go_wp2_with (first
     | (go_at_call 18; go_must (refine (specCoValid_any lo _ _ c _ (HV.out.grow FA.out) CI.out.b).mono ?_; rintro e w1 ⟨rfl, fr1⟩; rw [G1.out]; have F1 := hid (FA.out.trans fr1.nil); have C0 := hid (fr1.keep _ _ A0.out (.inr (by simp))); have C1 := hid (fr1.keep _ _ A1.out (.inr (by simp)))))
     | (go_at_call 86; go_must (refine (l22Parts_any lo _ ps _ (HP.out.grow F1.out) (by omega) UL.out).mono ?_; rintro e w2 ⟨rfl, fr2⟩; rw [G2.out]; have F2 := hid (F1.out.trans fr2.nil); have D0 := hid (fr2.keep _ _ C0.out (.inr (by simp))); have D1 := hid (fr2.keep _ _ C1.out (.inr (by simp))); have p0 := cell_of (o := 0) D0.out rfl; have p1 := cell_of (o := 1) D0.out rfl))
     | (go_at_call 67; go_must (refine (l22Copy_any lo _ _ c _ (HV.out.grow F2.out) CI.out).mono ?_; rintro e w3 ⟨u1, u2, m3, rfl, own3, or3, hm3, hob3, fr3⟩; have CO3 := hid (CoOwn.ofM own3 or3 hob3 hm3); replace own3 := own3.own hm3; obtain ⟨ua, ucap, rfl, _, _⟩ := own3.reads.shape; obtain ⟨oa2, ocap2, rfl, _, _⟩ := or3.reads.shape; have OW3 := hid own3; have OR3 := hid or3.reads; have F3 := hid (F2.out.trans fr3.nil); have E0 := hid (fr3.keep _ _ D0.out (.inr (by simp))); have E1 := hid (fr3.keep _ _ D1.out (.inr (by simp))); have hs2 := F2.out.size; have p2 := cell_of (o := 0) E0.out rfl; have hl3 := lt_of_get E1.out; have HB3 := hid (heap_alloc_new w3 (.cells #[.slice ua c.txns.length ucap, .slice oa2 c.order.length ocap2] 26)); have E1' := hid (heap_up E1.out (.cells #[.slice ua c.txns.length ucap, .slice oa2 c.order.length ocap2] 26)); have r0 := cell_of (o := 0) HB3.out rfl; have r1 := cell_of (o := 1) HB3.out rfl; have r2 := cell_of (o := 0) E1.out rfl; have r3 := cell_of (o := 1) E1.out rfl; have r4 := fun o => free_of (o := o) E1.out; have r5 := cell_of (o := 0) (heap_up E0.out (.cells #[.slice ua c.txns.length ucap, .slice oa2 c.order.length ocap2] 26)) rfl; clear own3 or3 fr3)))
    have h1 := block_set E1.out 0 (.slice ua c.txns.length ucap)
    have h2 := block_set h1 1 (.slice oa2 c.order.length ocap2)
    have h3 := heap_up h2 (.cells #[.slice ua c.txns.length ucap, .slice oa2 c.order.length ocap2] 26)
    have g2 := cell_of (o := 0) h3 rfl
    have g3 := cell_of (o := 1) h3 rfl
    have FT := (((Fr.refl 0 [26] w3).setOld (p := ⟨w.heap.size + 1, 0, none⟩) E1.out (Nat.zero_le _) (by simp [otag]) (.slice ua c.txns.length ucap)).setOld (p := ⟨w.heap.size + 1, 1, none⟩) h1 (Nat.zero_le _) (by simp [otag]) (.slice oa2 c.order.length ocap2)).alloc (.cells #[.slice ua c.txns.length ucap, .slice oa2 c.order.length ocap2] 26)
    exact bodyPost_ret (v := .tuple #[.agg #[.slice ua c.txns.length ucap, .slice oa2 c.order.length ocap2], .bool false]) (by simp [results, Tryz.results72, go_sem, g2, g3]) rfl ⟨_, _, c, false, rfl, (CO3.out.lower hs2).tk FT (by simp) (by simp) (by simp) (by simp), CI.out, ((F3.out.setNew (p := ⟨w.heap.size + 1, 0, none⟩) (by dsimp only; omega) _).setNew (by dsimp only; omega) _).alloc _⟩
   ·have e12 : ¬ (12 : Int) ≤ (c.txns.length : Int) := by omega
    go_wp2_with (first
     | (go_at_call 18; go_must (refine (specCoValid_any lo _ _ c _ (HV.out.grow FA.out) CI.out.b).mono ?_; rintro e w1 ⟨rfl, fr1⟩; rw [G1.out]; have F1 := hid (FA.out.trans fr1.nil); have C0 := hid (fr1.keep _ _ A0.out (.inr (by simp))); have C1 := hid (fr1.keep _ _ A1.out (.inr (by simp)))))
     | (go_at_call 86; go_must (refine (l22Parts_any lo _ ps _ (HP.out.grow F1.out) (by omega) UL.out).mono ?_; rintro e w2 ⟨rfl, fr2⟩; rw [G2.out]; have F2 := hid (F1.out.trans fr2.nil); have D0 := hid (fr2.keep _ _ C0.out (.inr (by simp))); have D1 := hid (fr2.keep _ _ C1.out (.inr (by simp))); have p0 := cell_of (o := 0) D0.out rfl; have p1 := cell_of (o := 1) D0.out rfl))
     | (go_at_call 67; go_must (refine (l22Copy_any lo _ _ c _ (HV.out.grow F2.out) CI.out).mono ?_; rintro e w3 ⟨u1, u2, m3, rfl, own3, or3, hm3, hob3, fr3⟩; have CO3 := hid (CoOwn.ofM own3 or3 hob3 hm3); replace own3 := own3.own hm3; obtain ⟨ua, ucap, rfl, _, _⟩ := own3.reads.shape; obtain ⟨oa2, ocap2, rfl, _, _⟩ := or3.reads.shape; have OW3 := hid own3; have OR3 := hid or3.reads; have F3 := hid (F2.out.trans fr3.nil); have E0 := hid (fr3.keep _ _ D0.out (.inr (by simp))); have E1 := hid (fr3.keep _ _ D1.out (.inr (by simp))); have hs2 := F2.out.size; have r5 := cell_of (o := 0) (heap_up E0.out (.cells #[.slice ua c.txns.length ucap, .slice oa2 c.order.length ocap2] 26)) rfl; clear own3 or3 fr3)))
    have B3' := hid (heap_alloc_new w3 (.cells #[.slice ua c.txns.length ucap, .slice oa2 c.order.length ocap2] 26))
    have FX := hid ((Fr.refl w3.heap.size [] w3).alloc (.cells #[.slice ua c.txns.length ucap, .slice oa2 c.order.length ocap2] 26))
    obtain ⟨W5, hW5⟩ : ∃ W : World, W = w3.alloc (.cells #[.slice ua c.txns.length ucap, .slice oa2 c.order.length ocap2] 26) := ⟨_, rfl⟩
    rw [← hW5] at B3' FX ⊢
    have B3 := hid B3'.out
    have B1 := hid (FX.out.keep _ _ E1.out (.inr (by simp)))
    have hl3W := lt_of_get B3.out
    have hl1W := lt_of_get B1.out
    have hl1w := lt_of_get E1.out
    obtain ⟨zs, z1, z2, zo, z3⟩ := CO3.out
    have Z1 := hid z1
    have Z2 := hid (ownsRow_grow (ownsRow_lo z2 hs2) FX.out)
    have Z3 := hid (fun z hz => (⟨((z3 z hz).1.lower hs2).grow FX.out, ((z3 z hz).2.1.lower hs2).grow FX.out, (z3 z hz).2.2⟩ : PartsR w.heap.size W5 z.2.1 z.1.parts ∧ OwnV w.heap.size W5 z.2.2 z.1.votes ∧ ∀ b, z.2.2.ownBlock = some b → (Value.slice oa2 c.order.length ocap2).ownBlock ≠ some b))
    have OR := hid ((zo.lower hs2).grow FX.out)
    have OB := hid (fun b hb => (ownsRow_lt OR.out b hb).2)
    have HP5 := hid ((HP.out.grow F3.out).grow FX.out)
    have FW0 := hid (F3.out.trans FX.out.nil)
    have hsW : w.heap.size ≤ W5.heap.size := FW0.out.size
    have FW := hid (show Fr W5.heap.size [] W5 W5.drew from (Fr.refl _ _ _).drew)
    have KP := hid (fun (x : World) (f : Fr W5.heap.size [] W5 x) => (f.cell hl3W (cell_of (o := 0) B3.out rfl) : x.cell? ⟨w3.heap.size, 0, none⟩ = some (.slice ua c.txns.length ucap)))
    clear hW5 z1 z2 z3 zo r5 E0 E1 D0 D1 C0 C1 p0 p1 FX B3'
    refine wp_region_L 11 (S := (fun x => x.cell? ⟨w3.heap.size, 0, none⟩ = some (.slice ua c.txns.length ucap))) (by kernel_rfl) ?_ (fun hHeld => ?_)
    ·exact KP.out _ (Fr.refl W5.heap.size [] W5).drew
    refine wpAnyL_take (i := 0) (v := ?_) rfl (by kernel_rfl) (by kernel_rfl) (by kernel_rfl) (by kernel_rfl) (fun _ _ _ h => h) (Or.inl ⟨by rfl, ?_⟩) (by assumption) ?_
    rotate_left
    ·intro w hSw; (try dsimp only at hSw); go_simp; try with_reducible rfl
    (try simp only [Act.put, List.getElem_toArray, List.getElem_cons_succ, List.getElem_cons_zero, List.getElem?_toArray, List.getElem?_cons_succ, List.getElem?_cons_zero, List.setIfInBounds_toArray, List.set_cons_zero, List.set_cons_succ])
    refine wpAnyL_take (i := 2) (v := ?_) rfl (by kernel_rfl) (by kernel_rfl) (by kernel_rfl) (by kernel_rfl) (fun _ _ _ h => h) (Or.inl ⟨by rfl, ?_⟩) (by assumption) ?_
    rotate_left
    ·intro w hSw; (try dsimp only at hSw); go_simp; try with_reducible rfl
    (try simp only [Act.put, List.getElem_toArray, List.getElem_cons_succ, List.getElem_cons_zero, List.getElem?_toArray, List.getElem?_cons_succ, List.getElem?_cons_zero, List.setIfInBounds_toArray, List.set_cons_zero, List.set_cons_succ])
    refine wpAnyL_take (i := 4) (v := ?_) rfl (by kernel_rfl) (by kernel_rfl) (by kernel_rfl) (by kernel_rfl) (fun _ _ _ h => h) (Or.inl ⟨by rfl, ?_⟩) (by assumption) ?_
    rotate_left
    ·intro w hSw; (try dsimp only at hSw); go_simp; try with_reducible rfl
    (try simp only [Act.put, List.getElem_toArray, List.getElem_cons_succ, List.getElem_cons_zero, List.getElem?_toArray, List.getElem?_cons_succ, List.getElem?_cons_zero, List.setIfInBounds_toArray, List.set_cons_zero, List.set_cons_succ])
    refine wpAnyL_take (i := 1) (v := ?_) rfl (by kernel_rfl) (by kernel_rfl) (by kernel_rfl) (by kernel_rfl) (fun _ _ _ h => h) (Or.inl ⟨by rfl, ?_⟩) (by assumption) ?_
    rotate_left
    ·intro w hSw; (try dsimp only at hSw); go_simp; try with_reducible rfl
    (try simp only [Act.put, List.getElem_toArray, List.getElem_cons_succ, List.getElem_cons_zero, List.getElem?_toArray, List.getElem?_cons_succ, List.getElem?_cons_zero, List.setIfInBounds_toArray, List.set_cons_zero, List.set_cons_succ])
    refine wpAnyL_take (i := 5) (v := ?_) rfl (by kernel_rfl) (by kernel_rfl) (by kernel_rfl) (by kernel_rfl) (fun _ _ _ h => h) (Or.inl ⟨by rfl, ?_⟩) (by assumption) ?_
    rotate_left
    ·intro w hSw; (try dsimp only at hSw); go_simp; try with_reducible rfl
    (try simp only [Act.put, List.getElem_toArray, List.getElem_cons_succ, List.getElem_cons_zero, List.getElem?_toArray, List.getElem?_cons_succ, List.getElem?_cons_zero, List.setIfInBounds_toArray, List.set_cons_zero, List.set_cons_succ])
    refine wpAnyL_ready (rs := [3, 6]) (by kernel_rfl) (by simp) ?_
    refine AllReadyL.cons rfl (fun K hK => ?_) (AllReadyL.cons rfl (fun K hK => ?_) AllReadyL.nil)
    ·go_simp
     go_at_call 106
     refine (l22Parts2_any lo _ ps _ (HP5.out.grow FW.out) (by omega) UL.out).mono ?_
     rintro e w6 ⟨v6, rfl, own6, fr6⟩
     obtain ⟨a6, c6, rfl, _, _⟩ := own6.reads.shape
     have PO := hid (own6.reads.lower (lo' := w.heap.size) (Nat.le_trans hsW FW.out.size))
     have FW := hid (FW.out.trans fr6.nil)
     clear own6 fr6
     refine hK.out _ _ (Or.inr ?_) (fun hHeld => ?_)
     ·exact KP.out _ FW.out
     replace hHeld := hHeld.resolve_right (by decide)
     clear hK K
     (try simp only [Act.put, List.getElem_toArray, List.getElem_cons_succ, List.getElem_cons_zero, List.getElem?_toArray, List.getElem?_cons_succ, List.getElem?_cons_zero, List.setIfInBounds_toArray, List.set_cons_zero, List.set_cons_succ])
     refine wpAnyL_ready (rs := [6]) (by kernel_rfl) (by simp) ?_
     refine AllReadyL.cons rfl (fun K hK => ?_) AllReadyL.nil
     go_simp
     have VO := hid (votes_made (lo := w.heap.size) w6 ps.length (by omega) (Nat.le_trans hsW FW.out.size))
     have VS := hid (own_new (n := ps.length) (c := ps.length) OB.out FW.out.size)
     have PO := hid (PO.out.grow ((Fr.refl 0 [] w6).alloc (.cells (madeCells #[.int .i64 0] ps.length) 3)))
     have FW := hid (FW.out.alloc (.cells (madeCells #[.int .i64 0] ps.length) 3))
     refine hK.out _ _ (Or.inr ?_) (fun hHeld => ?_)
     ·exact KP.out _ FW.out
     replace hHeld := hHeld.resolve_right (by decide)
     clear hK K
     (try simp only [Act.put, List.getElem_toArray, List.getElem_cons_succ, List.getElem_cons_zero, List.getElem?_toArray, List.getElem?_cons_succ, List.getElem?_cons_zero, List.setIfInBounds_toArray, List.set_cons_zero, List.set_cons_succ])
     refine wpAnyL_take (i := 7) (v := ?_) rfl (by kernel_rfl) (by kernel_rfl) (by kernel_rfl) (by kernel_rfl) (fun _ _ _ h => h) (Or.inl ⟨by rfl, ?_⟩) (by assumption) ?_
     rotate_left
     ·intro w hSw; (try dsimp only at hSw); go_simp; try with_reducible rfl
     (try simp only [Act.put, List.getElem_toArray, List.getElem_cons_succ, List.getElem_cons_zero, List.getElem?_toArray, List.getElem?_cons_succ, List.getElem?_cons_zero, List.setIfInBounds_toArray, List.set_cons_zero, List.set_cons_succ])
     refine wpAnyL_ready (rs := [8]) (by kernel_rfl) (by simp) ?_
     refine AllReadyL.cons rfl (fun K hK => ?_) AllReadyL.nil
     go_simp
     have FY := hid ((Fr.refl 0 [] (w6.alloc (.cells (madeCells #[.int .i64 0] ps.length) 3))).alloc (.cells #[.slice a6 ps.length c6, .slice (some ⟨w6.heap.size, 0, none⟩) ps.length ps.length, .int .i64 0] 74))
     have PO := hid (PO.out.grow FY.out)
     have VO := hid (VO.out.grow FY.out)
     have FW8 := hid FW.out
     have FW := hid (FW.out.alloc (.cells #[.slice a6 ps.length c6, .slice (some ⟨w6.heap.size, 0, none⟩) ps.length ps.length, .int .i64 0] 74))
     refine hK.out _ _ (Or.inr ?_) (fun hHeld => ?_)
     ·exact KP.out _ FW.out
     replace hHeld := hHeld.resolve_right (by decide)
     clear hK K
     (try simp only [Act.put, List.getElem_toArray, List.getElem_cons_succ, List.getElem_cons_zero, List.getElem?_toArray, List.getElem?_cons_succ, List.getElem?_cons_zero, List.setIfInBounds_toArray, List.set_cons_zero, List.set_cons_succ])
     refine wpAnyL_ready (rs := [9]) (by kernel_rfl) (by simp) ?_
     refine AllReadyL.cons rfl (fun K hK => ?_) AllReadyL.nil
     refine step_ap rfl (.tmp 24) (.tmp 31) 23 rfl w.heap.size 74 it (.agg #[.slice none 0 0, .slice none 0 0, .int .i64 0]) 3 56 Tryz.underlying23 hti htz0 htz1 htz2 rfl (by decide) (.slice ua c.txns.length ucap) c.txns.length (zs.flatMap encT) (by rfl) (ownsRow_grow Z2.out FW.out) (new (w6.heap.size + 1)) 74 (.slice (some ⟨w6.heap.size + 1, 0, none⟩) 1 1) 1 [.slice a6 ps.length c6, .slice (some ⟨w6.heap.size, 0, none⟩) ps.length ps.length, .int .i64 0] (by rfl) (by have := SlR.lit (w := (w6.alloc (.cells (madeCells #[.int .i64 0] ps.length) 3))) (e := 74) (sz := 3) (cs := [.slice a6 ps.length c6, .slice (some ⟨w6.heap.size, 0, none⟩) ps.length ps.length, .int .i64 0]) rfl; simpa using this) (oneT _ _ _ _ _ _ _) (by unfold maxLen; omega) (by omega) (Nat.le_trans hsW FW.out.size) ?_
     intro v13 w13 own13 fr13
     obtain ⟨a13, c13, rfl⟩ := own_any own13
     have OWN13 := hid own13
     have FG := hid fr13
     have F13 := hid ((FW.out.nil (B' := w.heap.size) (T := [74])).trans FG.out)
     have e3 := cell_of (o := 0) (F13.out.keep _ _ B3.out (.inr (by simp [otag]))) rfl
     have e3b := cell_of (o := 1) (F13.out.keep _ _ B3.out (.inr (by simp [otag]))) rfl
     have e4 := free_of (o := 0) (F13.out.keep _ _ B3.out (.inr (by simp [otag])))
     have e5 := cell_of (o := 0) (F13.out.keep _ _ B1.out (.inr (by simp [otag]))) rfl
     have e6 := cell_of (o := 1) (F13.out.keep _ _ B1.out (.inr (by simp [otag]))) rfl
     have e7 := fun o => free_of (o := o) (F13.out.keep _ _ B1.out (.inr (by simp [otag])))
     clear own13 fr13
     refine hK.out _ _ (Or.inr ?_) (fun hHeld => ?_)
     ·exact e3
     replace hHeld := hHeld.resolve_right (by decide)
     clear hK K
     (try simp only [Act.put, List.getElem_toArray, List.getElem_cons_succ, List.getElem_cons_zero, List.getElem?_toArray, List.getElem?_cons_succ, List.getElem?_cons_zero, List.setIfInBounds_toArray, List.set_cons_zero, List.set_cons_succ])
     refine wpAnyL_take (i := 10) (v := ?_) rfl (by kernel_rfl) (by kernel_rfl) (by kernel_rfl) (by kernel_rfl) (fun _ _ _ h => h) (Or.inl ⟨by rfl, ?_⟩) (by assumption) ?_
     rotate_left
     ·intro w hSw; (try dsimp only at hSw); go_simp; try with_reducible rfl
     (try simp only [Act.put, List.getElem_toArray, List.getElem_cons_succ, List.getElem_cons_zero, List.getElem?_toArray, List.getElem?_cons_succ, List.getElem?_cons_zero, List.setIfInBounds_toArray, List.set_cons_zero, List.set_cons_succ])
     refine wpAnyL_one (i := 11) (by kernel_rfl) rfl (fun K hK => ?_)
     go_simp
     refine hK.out _ _ (Or.inl rfl) (fun hHeld => ?_)
     clear hK K hHeld
     (try simp only [Act.put, List.getElem_toArray, List.getElem_cons_succ, List.getElem_cons_zero, List.getElem?_toArray, List.getElem?_cons_succ, List.getElem?_cons_zero, List.setIfInBounds_toArray, List.set_cons_zero, List.set_cons_succ])
     refine wpAnyL_done (by kernel_rfl) ?_ _
     have ED := hid (F13.out.keep _ _ B3.out (.inr (by simp [otag])))
     have E1 := hid (F13.out.keep _ _ B1.out (.inr (by simp [otag])))
     have EDS := hid (block_set ED.out 0 (.slice a13 (c.txns.length + 1) c13))
     have f0 := cell_of (o := 0) EDS.out rfl
     have f1 := cell_of (o := 1) EDS.out rfl
     have E1S := hid (block_setne (p := ⟨w3.heap.size, 0, none⟩) (u := .slice a13 (c.txns.length + 1) c13) E1.out (by dsimp only; omega))
     have f2 := cell_of (o := 0) E1S.out rfl
     have f3 := cell_of (o := 1) E1S.out rfl
     have f4 := fun o => free_of (o := o) E1S.out
     go_wp2
     have h1 := block_set E1S.out 0 (.slice a13 (c.txns.length + 1) c13)
     have h2 := block_set h1 1 (.slice oa2 c.order.length ocap2)
     have g2 := cell_of (o := 0) h2 rfl
     have g3 := cell_of (o := 1) h2 rfl
     have FT := (((Fr.refl 0 [26] w13).setOld (p := ⟨w3.heap.size, 0, none⟩) ED.out (Nat.zero_le _) (by simp [otag]) (.slice a13 (c.txns.length + 1) c13)).setOld (p := ⟨w.heap.size + 1, 0, none⟩) E1S.out (Nat.zero_le _) (by simp [otag]) (.slice a13 (c.txns.length + 1) c13)).setOld (p := ⟨w.heap.size + 1, 1, none⟩) h1 (Nat.zero_le _) (by simp [otag]) (.slice oa2 c.order.length ocap2)
     have EN := CoOwn.snoc (lo := w.heap.size) (c := c) (t := ⟨ps, List.replicate ps.length 0, 0⟩) Z1.out (fun z hz => ⟨((Z3.out z hz).1.grow FW.out).tk FG.out (by simp) (by simp), ((Z3.out z hz).2.1.grow FW.out).tk FG.out (by simp), (Z3.out z hz).2.2⟩) (PO.out.tk FG.out (by simp) (by simp)) (VO.out.tk FG.out (by simp)) VS.out ((OR.out.grow FW.out).tk FG.out (by simp)) rfl (by simpa using OWN13.out)
     have CR := EN.tk FT (by simp) (by simp) (by simp) (by simp)
     refine bodyPost_ret (v := .tuple #[.agg #[.slice a13 (c.txns.length + 1) c13, .slice oa2 c.order.length ocap2], .bool true]) (by simp [results, Tryz.results72, go_sem, g2, g3]) rfl ⟨_, _, ⟨c.txns ++ [⟨ps, List.replicate ps.length 0, 0⟩], c.order⟩, true, rfl, CR, ?_, ?_⟩
     ·exact coI_snoc CI.out (by omega) PI.out (by omega)
     ·exact ((((FW0.out.trans FW.out.nil).after (FG.out.mono (Nat.le_refl _) (fun _ h => h))).setNew (by dsimp only; omega) _).setNew (by dsimp only; omega) _).setNew (by dsimp only; omega) _
    ·go_simp
     have VO := hid (votes_made (lo := w.heap.size) W5.drew ps.length (by omega) (Nat.le_trans hsW FW.out.size))
     have VS := hid (own_new (n := ps.length) (c := ps.length) OB.out FW.out.size)
     have FW := hid (FW.out.alloc (.cells (madeCells #[.int .i64 0] ps.length) 3))
     refine hK.out _ _ (Or.inr ?_) (fun hHeld => ?_)
     ·exact KP.out _ FW.out
     replace hHeld := hHeld.resolve_right (by decide)
     clear hK K
     (try simp only [Act.put, List.getElem_toArray, List.getElem_cons_succ, List.getElem_cons_zero, List.getElem?_toArray, List.getElem?_cons_succ, List.getElem?_cons_zero, List.setIfInBounds_toArray, List.set_cons_zero, List.set_cons_succ])
     refine wpAnyL_ready (rs := [3]) (by kernel_rfl) (by simp) ?_
     refine AllReadyL.cons rfl (fun K hK => ?_) AllReadyL.nil
     go_simp
     go_at_call 106
     refine (l22Parts2_any lo _ ps _ (HP5.out.grow FW.out) (by omega) UL.out).mono ?_
     rintro e w6 ⟨v6, rfl, own6, fr6⟩
     obtain ⟨a6, c6, rfl, _, _⟩ := own6.reads.shape
     have PO := hid (own6.reads.lower (lo' := w.heap.size) (Nat.le_trans hsW FW.out.size))
     have VO := hid (VO.out.grow fr6)
     have FW := hid (FW.out.trans fr6.nil)
     clear own6 fr6
     refine hK.out _ _ (Or.inr ?_) (fun hHeld => ?_)
     ·exact KP.out _ FW.out
     replace hHeld := hHeld.resolve_right (by decide)
     clear hK K
     (try simp only [Act.put, List.getElem_toArray, List.getElem_cons_succ, List.getElem_cons_zero, List.getElem?_toArray, List.getElem?_cons_succ, List.getElem?_cons_zero, List.setIfInBounds_toArray, List.set_cons_zero, List.set_cons_succ])
     refine wpAnyL_take (i := 7) (v := ?_) rfl (by kernel_rfl) (by kernel_rfl) (by kernel_rfl) (by kernel_rfl) (fun _ _ _ h => h) (Or.inl ⟨by rfl, ?_⟩) (by assumption) ?_
     rotate_left
     ·intro w hSw; (try dsimp only at hSw); go_simp; try with_reducible rfl
     (try simp only [Act.put, List.getElem_toArray, List.getElem_cons_succ, List.getElem_cons_zero, List.getElem?_toArray, List.getElem?_cons_succ, List.getElem?_cons_zero, List.setIfInBounds_toArray, List.set_cons_zero, List.set_cons_succ])
     refine wpAnyL_ready (rs := [8]) (by kernel_rfl) (by simp) ?_
     refine AllReadyL.cons rfl (fun K hK => ?_) AllReadyL.nil
     go_simp
     have FY := hid ((Fr.refl 0 [] w6).alloc (.cells #[.slice a6 ps.length c6, .slice (some ⟨W5.heap.size, 0, none⟩) ps.length ps.length, .int .i64 0] 74))
     have PO := hid (PO.out.grow FY.out)
     have VO := hid (VO.out.grow FY.out)
     have FW8 := hid FW.out
     have FW := hid (FW.out.alloc (.cells #[.slice a6 ps.length c6, .slice (some ⟨W5.heap.size, 0, none⟩) ps.length ps.length, .int .i64 0] 74))
     refine hK.out _ _ (Or.inr ?_) (fun hHeld => ?_)
     ·exact KP.out _ FW.out
     replace hHeld := hHeld.resolve_right (by decide)
     clear hK K
     (try simp only [Act.put, List.getElem_toArray, List.getElem_cons_succ, List.getElem_cons_zero, List.getElem?_toArray, List.getElem?_cons_succ, List.getElem?_cons_zero, List.setIfInBounds_toArray, List.set_cons_zero, List.set_cons_succ])
     refine wpAnyL_ready (rs := [9]) (by kernel_rfl) (by simp) ?_
     refine AllReadyL.cons rfl (fun K hK => ?_) AllReadyL.nil
     refine step_ap rfl (.tmp 24) (.tmp 31) 23 rfl w.heap.size 74 it (.agg #[.slice none 0 0, .slice none 0 0, .int .i64 0]) 3 56 Tryz.underlying23 hti htz0 htz1 htz2 rfl (by decide) (.slice ua c.txns.length ucap) c.txns.length (zs.flatMap encT) (by rfl) (ownsRow_grow Z2.out FW.out) (new (w6.heap.size)) 74 (.slice (some ⟨w6.heap.size, 0, none⟩) 1 1) 1 [.slice a6 ps.length c6, .slice (some ⟨W5.heap.size, 0, none⟩) ps.length ps.length, .int .i64 0] (by rfl) (SlR.lit rfl) (oneT _ _ _ _ _ _ _) (by unfold maxLen; omega) (by omega) (Nat.le_trans hsW FW.out.size) ?_
     intro v13 w13 own13 fr13
     obtain ⟨a13, c13, rfl⟩ := own_any own13
     have OWN13 := hid own13
     have FG := hid fr13
     have F13 := hid ((FW.out.nil (B' := w.heap.size) (T := [74])).trans FG.out)
     have e3 := cell_of (o := 0) (F13.out.keep _ _ B3.out (.inr (by simp [otag]))) rfl
     have e3b := cell_of (o := 1) (F13.out.keep _ _ B3.out (.inr (by simp [otag]))) rfl
     have e4 := free_of (o := 0) (F13.out.keep _ _ B3.out (.inr (by simp [otag])))
     have e5 := cell_of (o := 0) (F13.out.keep _ _ B1.out (.inr (by simp [otag]))) rfl
     have e6 := cell_of (o := 1) (F13.out.keep _ _ B1.out (.inr (by simp [otag]))) rfl
     have e7 := fun o => free_of (o := o) (F13.out.keep _ _ B1.out (.inr (by simp [otag])))
     clear own13 fr13
     refine hK.out _ _ (Or.inr ?_) (fun hHeld => ?_)
     ·exact e3
     replace hHeld := hHeld.resolve_right (by decide)
     clear hK K
     (try simp only [Act.put, List.getElem_toArray, List.getElem_cons_succ, List.getElem_cons_zero, List.getElem?_toArray, List.getElem?_cons_succ, List.getElem?_cons_zero, List.setIfInBounds_toArray, List.set_cons_zero, List.set_cons_succ])
     refine wpAnyL_take (i := 10) (v := ?_) rfl (by kernel_rfl) (by kernel_rfl) (by kernel_rfl) (by kernel_rfl) (fun _ _ _ h => h) (Or.inl ⟨by rfl, ?_⟩) (by assumption) ?_
     rotate_left
     ·intro w hSw; (try dsimp only at hSw); go_simp; try with_reducible rfl
     (try simp only [Act.put, List.getElem_toArray, List.getElem_cons_succ, List.getElem_cons_zero, List.getElem?_toArray, List.getElem?_cons_succ, List.getElem?_cons_zero, List.setIfInBounds_toArray, List.set_cons_zero, List.set_cons_succ])
     refine wpAnyL_one (i := 11) (by kernel_rfl) rfl (fun K hK => ?_)
     go_simp
     refine hK.out _ _ (Or.inl rfl) (fun hHeld => ?_)
     clear hK K hHeld
     (try simp only [Act.put, List.getElem_toArray, List.getElem_cons_succ, List.getElem_cons_zero, List.getElem?_toArray, List.getElem?_cons_succ, List.getElem?_cons_zero, List.setIfInBounds_toArray, List.set_cons_zero, List.set_cons_succ])
     refine wpAnyL_done (by kernel_rfl) ?_ _
     have ED := hid (F13.out.keep _ _ B3.out (.inr (by simp [otag])))
     have E1 := hid (F13.out.keep _ _ B1.out (.inr (by simp [otag])))
     have EDS := hid (block_set ED.out 0 (.slice a13 (c.txns.length + 1) c13))
     have f0 := cell_of (o := 0) EDS.out rfl
     have f1 := cell_of (o := 1) EDS.out rfl
     have E1S := hid (block_setne (p := ⟨w3.heap.size, 0, none⟩) (u := .slice a13 (c.txns.length + 1) c13) E1.out (by dsimp only; omega))
     have f2 := cell_of (o := 0) E1S.out rfl
     have f3 := cell_of (o := 1) E1S.out rfl
     have f4 := fun o => free_of (o := o) E1S.out
     go_wp2
     have h1 := block_set E1S.out 0 (.slice a13 (c.txns.length + 1) c13)
     have h2 := block_set h1 1 (.slice oa2 c.order.length ocap2)
     have g2 := cell_of (o := 0) h2 rfl
     have g3 := cell_of (o := 1) h2 rfl
     have FT := (((Fr.refl 0 [26] w13).setOld (p := ⟨w3.heap.size, 0, none⟩) ED.out (Nat.zero_le _) (by simp [otag]) (.slice a13 (c.txns.length + 1) c13)).setOld (p := ⟨w.heap.size + 1, 0, none⟩) E1S.out (Nat.zero_le _) (by simp [otag]) (.slice a13 (c.txns.length + 1) c13)).setOld (p := ⟨w.heap.size + 1, 1, none⟩) h1 (Nat.zero_le _) (by simp [otag]) (.slice oa2 c.order.length ocap2)
     have EN := CoOwn.snoc (lo := w.heap.size) (c := c) (t := ⟨ps, List.replicate ps.length 0, 0⟩) Z1.out (fun z hz => ⟨((Z3.out z hz).1.grow FW.out).tk FG.out (by simp) (by simp), ((Z3.out z hz).2.1.grow FW.out).tk FG.out (by simp), (Z3.out z hz).2.2⟩) (PO.out.tk FG.out (by simp) (by simp)) (VO.out.tk FG.out (by simp)) VS.out ((OR.out.grow FW.out).tk FG.out (by simp)) rfl (by simpa using OWN13.out)
     have CR := EN.tk FT (by simp) (by simp) (by simp) (by simp)
     refine bodyPost_ret (v := .tuple #[.agg #[.slice a13 (c.txns.length + 1) c13, .slice oa2 c.order.length ocap2], .bool true]) (by simp [results, Tryz.results72, go_sem, g2, g3]) rfl ⟨_, _, ⟨c.txns ++ [⟨ps, List.replicate ps.length 0, 0⟩], c.order⟩, true, rfl, CR, ?_, ?_⟩
     ·exact coI_snoc CI.out (by omega) PI.out (by omega)
     ·exact ((((FW0.out.trans FW.out.nil).after (FG.out.mono (Nat.le_refl _) (fun _ h => h))).setNew (by dsimp only; omega) _).setNew (by dsimp only; omega) _).setNew (by dsimp only; omega) _

theorem specBegin_any (lo : Nat) (v1 v2 vp : Value) (c : Co) (ps : List Pt) (w : World) (hv : CoR lo w v1 v2 c) (hi : CoI c) (hp : PartsR lo w vp ps) (hpl : ps.length ≤ 1000) (hu : ∀ p ∈ ps, p.ups.length ≤ 8) :
  Calls Tryz.prog 72 #[.agg #[v1, v2], vp] w (CoOut w) :=
 (specBegin_own lo v1 v2 vp c ps w hv hi hp hpl hu).mono fun _ _ ⟨u1, u2, c', ok, h1, h2, h3, h4⟩ => ⟨u1, u2, c', ok, h1, h2.reads, h3, h4⟩

end Go.Proofs.YtknoanpgadecbaaGreatDoor
