/- The reference's copy of a coordinator. -/
import Derived.Test.YtknoanpgadecbaaGreatDoorQM4
import Derived.Test.YtknoanpgadecbaaGreatDoorQM2
set_option linter.unusedVariables false
set_option linter.unusedSimpArgs false
namespace Go.Proofs.YtknoanpgadecbaaGreatDoor
open Go.RowKit
set_option linter.unusedVariables false

def OwnV (lo : Nat) (w : World) (v : Value) (l : List Int) : Prop := w.ownsRow lo 3 1 v l.length (l.map (Value.int .i64))
theorem OwnV.reads {lo : Nat} {w : World} {v : Value} {l : List Int} (h : OwnV lo w v l) : IntsR (new lo) w v l := IntsR.ofOwn h rfl (Nat.le_refl _)
theorem OwnV.grow {lo B : Nat} {w w' : World} {v : Value} {l : List Int} (h : OwnV lo w v l) (hf : Fr B [] w w') : OwnV lo w' v l := ownsRow_grow h hf
theorem OwnV.tk {lo B : Nat} {T : List Nat} {w w' : World} {v : Value} {l : List Int} (h : OwnV lo w v l) (hf : Fr B T w w') (hT : 3 ∉ T) : OwnV lo w' v l := ownsRow_keep h hf hT
theorem OwnV.lower {lo lo' : Nat} {w : World} {v : Value} {l : List Int} (h : OwnV lo w v l) (hl : lo' ≤ lo) : OwnV lo' w v l := ownsRow_lo h hl

def TxnsOwnM (lo m : Nat) (w : World) (v : Value) (ts : List Tn) : Prop :=
 ∃ zs : List (Tn × (Value × Value)), zs.map (·.1) = ts ∧ w.ownsRow lo 74 3 v ts.length (zs.flatMap encT) ∧ ∀ z ∈ zs, PartsR lo w z.2.1 z.1.parts ∧ OwnV m w z.2.2 z.1.votes

abbrev TxnsOwn (lo : Nat) (w : World) (v : Value) (ts : List Tn) : Prop := TxnsOwnM lo lo w v ts

theorem TxnsOwnM.own {lo m : Nat} {w : World} {v : Value} {ts : List Tn} (h : TxnsOwnM lo m w v ts) (hm : lo ≤ m) : TxnsOwn lo w v ts := by
 obtain ⟨zs, h1, h2, h3⟩ := h
 exact ⟨zs, h1, h2, fun z hz => ⟨(h3 z hz).1, (h3 z hz).2.lower hm⟩⟩

theorem TxnsOwnM.reads {lo m : Nat} {w : World} {v : Value} {ts : List Tn} (h : TxnsOwnM lo m w v ts) (hm : lo ≤ m) : TxnsR lo w v ts := by
 obtain ⟨zs, h1, h2, h3⟩ := h
 exact ⟨zs, h1, SlR.ofOwns h2, fun z hz => ⟨(h3 z hz).1, (h3 z hz).2.reads.weak (new_low hm)⟩⟩

theorem TxnsOwn.reads {lo : Nat} {w : World} {v : Value} {ts : List Tn} (h : TxnsOwn lo w v ts) : TxnsR lo w v ts := TxnsOwnM.reads h (Nat.le_refl _)

theorem TxnsOwnM.keep {lo m B : Nat} {T : List Nat} {w w' : World} {v : Value} {ts : List Tn} (h : TxnsOwnM lo m w v ts) (hf : Fr B T w w') (h0 : 74 ∉ T) (h1 : 76 ∉ T) (h2 : 97 ∉ T) (h3 : 3 ∉ T) : TxnsOwnM lo m w' v ts := by
 obtain ⟨zs, g1, g2, g3⟩ := h
 exact ⟨zs, g1, ownsRow_keep g2 hf h0, fun z hz => ⟨(g3 z hz).1.tk hf h1 h2, (g3 z hz).2.tk hf h3⟩⟩

theorem TxnsOwn.keep {lo B : Nat} {T : List Nat} {w w' : World} {v : Value} {ts : List Tn} (h : TxnsOwn lo w v ts) (hf : Fr B T w w') (h0 : 74 ∉ T) (h1 : 76 ∉ T) (h2 : 97 ∉ T) (h3 : 3 ∉ T) : TxnsOwn lo w' v ts := TxnsOwnM.keep h hf h0 h1 h2 h3

theorem TxnsOwnM.snoc {lo m n : Nat} {w' : World} {v' : Value} {ts : List Tn} {t : Tn} {u1 u2 : Value} {zs : List (Tn × (Value × Value))} (g1 : zs.map (·.1) = ts) (g3 : ∀ z ∈ zs, PartsR lo w' z.2.1 z.1.parts ∧ OwnV m w' z.2.2 z.1.votes)
  (hu1 : PartsR lo w' u1 t.parts) (hu2 : OwnV m w' u2 t.votes) (hn : n = ts.length) (hown : w'.ownsRow lo 74 3 v' (n + 1) (zs.flatMap encT ++ [u1, u2, .int .i64 t.dec])) : TxnsOwnM lo m w' v' (ts ++ [t]) := by
 subst hn
 refine ⟨zs ++ [(t, (u1, u2))], by simp [g1], ?_, fun z hz => ?_⟩
 ·rw [List.flatMap_append, List.length_append]
  simpa [encT] using hown
 ·rcases List.mem_append.1 hz with hz | hz
  ·exact g3 z hz
  ·simp at hz
   subst hz
   exact ⟨hu1, hu2⟩

theorem TxnsOwn.snoc {lo n : Nat} {w' : World} {v' : Value} {ts : List Tn} {t : Tn} {u1 u2 : Value} {zs : List (Tn × (Value × Value))} (g1 : zs.map (·.1) = ts) (g3 : ∀ z ∈ zs, PartsR lo w' z.2.1 z.1.parts ∧ OwnV lo w' z.2.2 z.1.votes)
  (hu1 : PartsR lo w' u1 t.parts) (hu2 : OwnV lo w' u2 t.votes) (hn : n = ts.length) (hown : w'.ownsRow lo 74 3 v' (n + 1) (zs.flatMap encT ++ [u1, u2, .int .i64 t.dec])) : TxnsOwn lo w' v' (ts ++ [t]) := TxnsOwnM.snoc g1 g3 hu1 hu2 hn hown

theorem oneT (a c : Option Addr) (n p m q : Nat) (x : Int) : ∀ u ∈ [Value.slice a n p, .slice c m q, .int .i64 x], u.oneCell' = true := by
 intro u hu
 simp at hu
 rcases hu with rfl | rfl | rfl <;> rfl

theorem ownsRow_lt {lo E sz n : Nat} {w : World} {v : Value} {cs : List Value} (h : w.ownsRow lo E sz v n cs) : ∀ k, v.ownBlock = some k → lo ≤ k ∧ k < w.heap.size := by
 rcases h.2 with ⟨rfl, _⟩ | ⟨g, cap, cur, rfl, h1, h2, _⟩
 ·intro k hk; simp [Value.ownBlock] at hk
 ·intro k hk
  simp [Value.ownBlock] at hk
  subst hk
  exact ⟨h1, lt_of_get h2⟩

theorem own_tag' {lo E sz n : Nat} {w : World} {v : Value} {cs : List Value} (h : w.ownsRow lo E sz v n cs) {k : Nat} (hk : v.ownBlock = some k) : ∃ cur, w.heap[k]? = some (.cells cur E (0, 0)) := by
 rcases h.2 with ⟨rfl, _⟩ | ⟨g, cap, cur, rfl, h1, h2, _⟩
 ·simp [Value.ownBlock] at hk
 ·simp [Value.ownBlock] at hk
  subst hk
  exact ⟨cur, h2⟩

theorem cell_grown {w w' : World} {row : Option Nat} {b o : Nat} {u : Value} (hg : w.grownBy w' row) (hr : row ≠ some b) (h : w.cell? ⟨b, o, none⟩ = some u) : w'.cell? ⟨b, o, none⟩ = some u := by
 have hl := World.block_lt_of_cell? _ _ h
 rw [World.cell?_of_block (w := w) (hg.block b hl (fun e => hr e.symm))]
 exact h

set_option maxRecDepth 20000 in
set_option maxHeartbeats 8000000 in
theorem l22Copy_any (lo : Nat) (v1 v2 : Value) (c : Co) (w : World) (hv : CoR lo w v1 v2 c) (hi : CoI c) :
  Calls Tryz.prog 67 #[.agg #[v1, v2]] w fun e w' => ∃ u1 u2 m, e = .returned (.agg #[u1, u2]) ∧ TxnsOwnM w.heap.size m w' u1 c.txns ∧ OwnV w.heap.size w' u2 c.order ∧ w.heap.size ≤ m ∧ (∀ b, u2.ownBlock = some b → b < m) ∧ Fr w.heap.size [] w w' := by
 obtain ⟨ta, tcap, rfl, _, hcell⟩ := hv.1.shape
 obtain ⟨oa, ocap, rfl, _, _⟩ := hv.2.shape
 obtain ⟨i0, hi', hz0, hz1, hz2⟩ := info_parts infoI
 obtain ⟨it, hti, htz0, htz1, htz2⟩ := info_parts infoT
 have HO := hid hv.2
 have HC := hid hcell
 have CI := hid hi
 have hcl := hi.2.2
 have htl := hi.2.1
 clear hi
 have hi := hi'
 clear hi' hv hcell
 have A0 := hid (heap_up (heap_up (heap_alloc_new w (.cells #[.slice ta c.txns.length tcap, .slice oa c.order.length ocap] 26)) (.cells #[.slice none 0 0, .slice none 0 0] 26)) (.cells #[] 74))
 have A1 := hid (heap_up (heap_alloc_new (w.alloc (.cells #[.slice ta c.txns.length tcap, .slice oa c.order.length ocap] 26)) (.cells #[.slice none 0 0, .slice none 0 0] 26)) (.cells #[] 74))
 have FA := hid ((((Fr.refl w.heap.size [] w).alloc (.cells #[.slice ta c.txns.length tcap, .slice oa c.order.length ocap] 26)).alloc (.cells #[.slice none 0 0, .slice none 0 0] 26)).alloc (.cells #[] 74))
 have TL := hid (World.ownsRow_lit (e := 74) (size := 3) ((w.alloc (.cells #[.slice ta c.txns.length tcap, .slice oa c.order.length ocap] 26)).alloc (.cells #[.slice none 0 0, .slice none 0 0] 26)) #[] 0 (Nat.le_refl _) (by decide) rfl)
 go_enter Tryz.func67, Tryz.ntmps67
 go_wp2_with ((at_builtin; refine wpList_clone rfl _ _ 24 rfl 3 i0 (.int .i64 0) 1 8 Tryz.underlying24 hi hz0 hz1 hz2 rfl (by decide) _ (by rfl) (by simp [World.setCell]) (new lo) 3 _ _ _ (by rfl) (HO.out.grow FA.out) (oneI c.order) (by unfold maxLen; omega) (by omega) ?_; intro v2 w2 own2 fr2); go_must (obtain ⟨oa2, ocap2, rfl⟩ := own_any own2; have OWN2 := hid own2; have FR2 := hid fr2; clear own2 fr2))
 have hs2 : w.heap.size + 3 ≤ w2.heap.size := by have := FR2.out.size; simpa using this
 have b0 := heap_up (FR2.out.keep _ _ A0.out (.inr (by simp))) (.cells #[.slice (some ⟨w.heap.size + 1 + 1, 0, none⟩) 0 0, .slice oa2 c.order.length ocap2] 26)
 have b1 : (w2.alloc (.cells #[.slice (some ⟨w.heap.size + 1 + 1, 0, none⟩) 0 0, .slice oa2 c.order.length ocap2] 26)).heap[w.heap.size + 1]? = some (.cells #[.slice none 0 0, .slice none 0 0] 26 (0, 0)) := by
  have := heap_up (FR2.out.keep _ _ A1.out (.inr (by simp))) (.cells #[.slice (some ⟨w.heap.size + 1 + 1, 0, none⟩) 0 0, .slice oa2 c.order.length ocap2] 26)
  simpa using this
 have b3 := heap_alloc_new w2 (.cells #[.slice (some ⟨w.heap.size + 1 + 1, 0, none⟩) 0 0, .slice oa2 c.order.length ocap2] 26)
 have FB := hid ((FA.out.trans FR2.out.nil).alloc (.cells #[.slice (some ⟨w.heap.size + 1 + 1, 0, none⟩) 0 0, .slice oa2 c.order.length ocap2] 26))
 have TO := hid (show TxnsOwnM w.heap.size w2.heap.size (w2.alloc (.cells #[.slice (some ⟨w.heap.size + 1 + 1, 0, none⟩) 0 0, .slice oa2 c.order.length ocap2] 26)) (.slice (some ⟨w.heap.size + 1 + 1, 0, none⟩) 0 0) [] from
  ⟨[], rfl, by have := ownsRow_grow (ownsRow_grow (ownsRow_lo (lo' := w.heap.size) TL.out (by simp; omega)) FR2.out) ((Fr.refl 0 [] w2).alloc (.cells #[.slice (some ⟨w.heap.size + 1 + 1, 0, none⟩) 0 0, .slice oa2 c.order.length ocap2] 26)); simpa using this, fun z hz => by cases hz⟩)
 have OLT := hid (fun b (e : (Value.slice oa2 c.order.length ocap2).ownBlock = some b) => (ownsRow_lt OWN2.out b e).2)
 have OR := hid (show OwnV w.heap.size (w2.alloc (.cells #[.slice (some ⟨w.heap.size + 1 + 1, 0, none⟩) 0 0, .slice oa2 c.order.length ocap2] 26)) (.slice oa2 c.order.length ocap2) c.order from
  ownsRow_grow (ownsRow_lo OWN2.out (by simp; omega)) ((Fr.refl 0 [] w2).alloc _))
 have BB0 := hid b0
 have BB1 := hid b1
 have BB3 := hid b3
 clear b0 b1 b3 A0 A1 FA TL OWN2 FR2
 go_loopw [4, 5] (fun i _ wr => ∃ (k : Nat) (u : Value), k ≤ c.txns.length ∧ i = .int .i64 k ∧ wr.heap[w.heap.size]? = some (.cells #[.slice ta c.txns.length tcap, .slice oa c.order.length ocap] 26 (0, 0)) ∧ wr.heap[w.heap.size + 1]? = some (.cells #[.slice none 0 0, .slice none 0 0] 26 (0, 0)) ∧ wr.heap[w2.heap.size]? = some (.cells #[u, .slice oa2 c.order.length ocap2] 26 (0, 0)) ∧
   TxnsOwnM w.heap.size w2.heap.size wr u (c.txns.take k) ∧ OwnV w.heap.size wr (.slice oa2 c.order.length ocap2) c.order ∧ Fr w.heap.size [] w wr) (fun i _ _ => c.txns.length - (intOf i).toNat)
 case atStart => exact ⟨0, _, Nat.zero_le _, rfl, BB0.out, BB1.out, BB3.out, TO.out, OR.out, FB.out⟩
 case round =>
  obtain ⟨k, u, hk, rfl, hb0, hb1, hb3, how, hor, hfr⟩ := hrel
  clear BB0 BB1 BB3 TO OR FB
  have B0' := hid hb0
  have B1' := hid hb1
  have B3' := hid hb3
  have OW := hid how
  have OR' := hid hor
  have FR := hid hfr
  have hkl : (c.txns.take k).length = k := by rw [List.length_take]; omega
  have hl0 := lt_of_get hb0
  have hl1 := lt_of_get hb1
  have hl3 := lt_of_get hb3
  have hsr := hfr.size
  obtain ⟨ua, ucap, hua, _, _⟩ := (how.reads (by omega)).shape
  subst hua
  rw [hkl] at hb3 B3'
  have q0 := cell_of (o := 0) hb0 rfl
  have q1 := cell_of (o := 1) hb0 rfl
  have q2 := cell_of (o := 0) hb3 rfl
  have q3 := free_of (o := 0) hb3
  have q4 := cell_of (o := 1) hb3 rfl
  have q5 := cell_of (o := 0) hb1 rfl
  have q6 := cell_of (o := 1) hb1 rfl
  have q7 := fun o => free_of (o := o) hb1
  clear hb0 hb1 hb3 how hor hfr
  by_cases hlt : k < c.txns.length
  ·rcases HC.out with h | ⟨b, off, rfl, hbs, hcell⟩
   ·rw [h] at hlt; simp at hlt
   obtain ⟨pa, pcap, va, vcap, x0, x1, x2, hp, hvv⟩ := hcell k hlt
   have d0 := FR.out.cell hbs x0
   have d1 := FR.out.cell hbs x1
   have d2 := FR.out.cell hbs x2
   have hki : (k : Int) < (c.txns.length : Int) := by omega
   have TI := hid (CI.out.1 _ (List.getElem_mem hlt))
   have TK := hid (List.take_succ_eq_append_getElem hlt)
   obtain ⟨zs, z1, z2, z3⟩ := OW.out
   rw [hkl] at z2
   have Z1 := hid z1
   have Z2' := hid z2
   have Z3' := hid z3
   have HPP := hid hp
   have HVP := hid hvv
   clear hcell x0 x1 x2 z1 z2 z3 hp hvv
   generalize c.txns[k] = t at *
   have hpl : t.parts.length ≤ 1000000 := by have := TI.out.2.1; omega
   have hvl : t.votes.length ≤ 1000 := TI.out.2.2.1
   have UL := hid (show ∀ p ∈ t.parts, p.ups.length ≤ 1000000000 from fun p hp => by have := (TI.out.1 p hp).2.2; omega)
   go_wp2
   have FX := hid ((Fr.refl wr.heap.size [] wr).alloc (.cells #[.slice pa t.parts.length pcap, .slice va t.votes.length vcap, .int .i64 t.dec] 74))
   have BX := hid (heap_alloc_new wr (.cells #[.slice pa t.parts.length pcap, .slice va t.votes.length vcap, .int .i64 t.dec] 74))
   obtain ⟨X, hX⟩ : ∃ X, X = wr.heap.size := ⟨_, rfl⟩
   have hgX : (Value.slice ua k ucap).ownBlock ≠ some X := fun e => by have := (ownsRow_lt Z2'.out X e).2; omega
   have hgB : (Value.slice ua k ucap).ownBlock ≠ some w2.heap.size := fun e => by
    obtain ⟨cur, hcur⟩ := own_tag' Z2'.out e
    rw [B3'.out] at hcur
    simp at hcur
   obtain ⟨W5, hW5⟩ : ∃ W : World, W = wr.alloc (.cells #[.slice pa t.parts.length pcap, .slice va t.votes.length vcap, .int .i64 t.dec] 74) := ⟨_, rfl⟩
   rw [← hW5] at FX BX ⊢
   rw [← hX] at BX ⊢
   have hlX := lt_of_get BX.out
   have B0 := hid (FX.out.keep _ _ B0'.out (.inr (by simp)))
   have B1 := hid (FX.out.keep _ _ B1'.out (.inr (by simp)))
   have B3 := hid (FX.out.keep _ _ B3'.out (.inr (by simp)))
   have HP := hid ((HPP.out.grow FR.out).grow FX.out)
   have HVV := hid ((HVP.out.grow FR.out).grow FX.out)
   have OR := hid (OR'.out.grow FX.out)
   have Z2 := hid (ownsRow_grow Z2'.out FX.out)
   have Z3 := hid (fun z hz => (⟨(Z3'.out z hz).1.grow FX.out, (Z3'.out z hz).2.grow FX.out⟩ : PartsR w.heap.size W5 z.2.1 z.1.parts ∧ OwnV w2.heap.size W5 z.2.2 z.1.votes))
   have FW0 := hid (FR.out.trans FX.out.nil)
   have hsW : w.heap.size ≤ W5.heap.size := FW0.out.size
   have hl0W := lt_of_get B0.out
   have hl1W := lt_of_get B1.out
   have hl3W := lt_of_get B3.out
   have FW := hid (show Fr W5.heap.size [] W5 W5.drew from (Fr.refl _ _ _).drew)
   have KP := hid (fun (x : World) (f : Fr W5.heap.size [] W5 x) => (⟨f.cell hl3W (cell_of (o := 0) B3.out rfl), f.cell hlX (cell_of (o := 0) BX.out rfl), f.cell hlX (cell_of (o := 1) BX.out rfl), f.cell hlX (cell_of (o := 2) BX.out rfl)⟩ : x.cell? ⟨w2.heap.size, 0, none⟩ = some (.slice ua k ucap) ∧ x.cell? ⟨X, 0, none⟩ = some (.slice pa t.parts.length pcap) ∧ x.cell? ⟨X, 1, none⟩ = some (.slice va t.votes.length vcap) ∧ x.cell? ⟨X, 2, none⟩ = some (.int .i64 t.dec)))
   have KP2 := hid (fun (x y : World) (f : Fr W5.heap.size [] W5 x) (g : x.grownBy y (Value.slice ua k ucap).ownBlock) => (⟨cell_grown g hgB (KP.out x f).1, cell_grown g hgX (KP.out x f).2.1, cell_grown g hgX (KP.out x f).2.2.1, cell_grown g hgX (KP.out x f).2.2.2⟩ : y.cell? ⟨w2.heap.size, 0, none⟩ = some (.slice ua k ucap) ∧ y.cell? ⟨X, 0, none⟩ = some (.slice pa t.parts.length pcap) ∧ y.cell? ⟨X, 1, none⟩ = some (.slice va t.votes.length vcap) ∧ y.cell? ⟨X, 2, none⟩ = some (.int .i64 t.dec)))
   clear hX hW5 d0 d1 d2 q0 q1 q2 q3 q4 q5 q6 q7 FX B0' B1' B3' Z2' Z3' HPP HVP OR' FR OW
   refine wp_region_L 15 (S := (fun x => x.cell? ⟨w2.heap.size, 0, none⟩ = some (.slice ua k ucap) ∧ x.cell? ⟨X, 0, none⟩ = some (.slice pa t.parts.length pcap) ∧ x.cell? ⟨X, 1, none⟩ = some (.slice va t.votes.length vcap) ∧ x.cell? ⟨X, 2, none⟩ = some (.int .i64 t.dec))) (by kernel_rfl) ?_ (fun hHeld => ?_)
   ·exact KP.out _ (Fr.refl W5.heap.size [] W5).drew
   refine wpAnyL_take (i := 0) (v := ?_) rfl (by kernel_rfl) (by kernel_rfl) (by kernel_rfl) (by kernel_rfl) (fun _ _ _ h => h) (Or.inl ⟨by rfl, ?_⟩) (by assumption) ?_
   rotate_left
   ·intro w hSw; (try dsimp only at hSw); go_simp; try with_reducible rfl
   (try simp only [Act.put, List.getElem_toArray, List.getElem_cons_succ, List.getElem_cons_zero, List.getElem?_toArray, List.getElem?_cons_succ, List.getElem?_cons_zero, List.setIfInBounds_toArray, List.set_cons_zero, List.set_cons_succ])
   refine wpAnyL_take (i := 2) (v := ?_) rfl (by kernel_rfl) (by kernel_rfl) (by kernel_rfl) (by kernel_rfl) (fun _ _ _ h => h) (Or.inl ⟨by rfl, ?_⟩) (by assumption) ?_
   rotate_left
   ·intro w hSw; (try dsimp only at hSw); go_simp; try with_reducible rfl
   (try simp only [Act.put, List.getElem_toArray, List.getElem_cons_succ, List.getElem_cons_zero, List.getElem?_toArray, List.getElem?_cons_succ, List.getElem?_cons_zero, List.setIfInBounds_toArray, List.set_cons_zero, List.set_cons_succ])
   refine wpAnyL_take (i := 6) (v := ?_) rfl (by kernel_rfl) (by kernel_rfl) (by kernel_rfl) (by kernel_rfl) (fun _ _ _ h => h) (Or.inl ⟨by rfl, ?_⟩) (by assumption) ?_
   rotate_left
   ·intro w hSw; (try dsimp only at hSw); go_simp; try with_reducible rfl
   (try simp only [Act.put, List.getElem_toArray, List.getElem_cons_succ, List.getElem_cons_zero, List.getElem?_toArray, List.getElem?_cons_succ, List.getElem?_cons_zero, List.setIfInBounds_toArray, List.set_cons_zero, List.set_cons_succ])
   refine wpAnyL_take (i := 9) (v := ?_) rfl (by kernel_rfl) (by kernel_rfl) (by kernel_rfl) (by kernel_rfl) (fun _ _ _ h => h) (Or.inl ⟨by rfl, ?_⟩) (by assumption) ?_
   rotate_left
   ·intro w hSw; (try dsimp only at hSw); go_simp; try with_reducible rfl
   (try simp only [Act.put, List.getElem_toArray, List.getElem_cons_succ, List.getElem_cons_zero, List.getElem?_toArray, List.getElem?_cons_succ, List.getElem?_cons_zero, List.setIfInBounds_toArray, List.set_cons_zero, List.set_cons_succ])
   refine wpAnyL_take (i := 1) (v := ?_) rfl (by kernel_rfl) (by kernel_rfl) (by kernel_rfl) (by kernel_rfl) (fun _ _ _ h => h) (Or.inl ⟨by rfl, ?_⟩) (by assumption) ?_
   rotate_left
   ·intro w hSw; (try dsimp only at hSw); go_simp; try with_reducible rfl
   (try simp only [Act.put, List.getElem_toArray, List.getElem_cons_succ, List.getElem_cons_zero, List.getElem?_toArray, List.getElem?_cons_succ, List.getElem?_cons_zero, List.setIfInBounds_toArray, List.set_cons_zero, List.set_cons_succ])
   refine wpAnyL_take (i := 3) (v := ?_) rfl (by kernel_rfl) (by kernel_rfl) (by kernel_rfl) (by kernel_rfl) (fun _ _ _ h => h) (Or.inl ⟨by rfl, ?_⟩) (by assumption) ?_
   rotate_left
   ·intro w hSw; (try dsimp only at hSw); go_simp; try with_reducible rfl
   (try simp only [Act.put, List.getElem_toArray, List.getElem_cons_succ, List.getElem_cons_zero, List.getElem?_toArray, List.getElem?_cons_succ, List.getElem?_cons_zero, List.setIfInBounds_toArray, List.set_cons_zero, List.set_cons_succ])
   refine wpAnyL_take (i := 7) (v := ?_) rfl (by kernel_rfl) (by kernel_rfl) (by kernel_rfl) (by kernel_rfl) (fun _ _ _ h => h) (Or.inl ⟨by rfl, ?_⟩) (by assumption) ?_
   rotate_left
   ·intro w hSw; (try dsimp only at hSw); go_simp; try with_reducible rfl
   (try simp only [Act.put, List.getElem_toArray, List.getElem_cons_succ, List.getElem_cons_zero, List.getElem?_toArray, List.getElem?_cons_succ, List.getElem?_cons_zero, List.setIfInBounds_toArray, List.set_cons_zero, List.set_cons_succ])
   refine wpAnyL_take (i := 10) (v := ?_) rfl (by kernel_rfl) (by kernel_rfl) (by kernel_rfl) (by kernel_rfl) (fun _ _ _ h => h) (Or.inl ⟨by rfl, ?_⟩) (by assumption) ?_
   rotate_left
   ·intro w hSw; (try dsimp only at hSw); go_simp; try with_reducible rfl
   (try simp only [Act.put, List.getElem_toArray, List.getElem_cons_succ, List.getElem_cons_zero, List.getElem?_toArray, List.getElem?_cons_succ, List.getElem?_cons_zero, List.setIfInBounds_toArray, List.set_cons_zero, List.set_cons_succ])
   refine wpAnyL_ready (rs := [4, 5]) (by kernel_rfl) (by simp) ?_
   refine AllReadyL.cons rfl (fun K hK => ?_) (AllReadyL.cons rfl (fun K hK => ?_) AllReadyL.nil)
   ·go_simp
    go_at_call 106
    refine (l22Parts2_any lo _ t.parts _ (HP.out.grow FW.out) hpl UL.out).mono ?_
    rintro e w6 ⟨v6, rfl, own6, fr6⟩
    obtain ⟨a6, c6, rfl, _, _⟩ := own6.reads.shape
    have PO := hid (own6.reads.lower (lo' := w.heap.size) (Nat.le_trans hsW FW.out.size))
    have FW := hid (FW.out.trans fr6.nil)
    clear own6 fr6
    refine hK.out _ _ (Or.inr ?_) (fun hHeld => ?_)
    ·exact KP.out _ FW.out
    replace hHeld := hHeld.resolve_right (by decide)
    clear hK K
    (try simp only [Act.put, List.getElem_toArray, List.getElem_cons_succ, List.getElem_cons_zero, List.getElem?_toArray, List.getElem?_cons_succ, List.getElem?_cons_zero, List.setIfInBounds_toArray, List.set_cons_zero, List.set_cons_succ])
    refine wpAnyL_ready (rs := [5]) (by kernel_rfl) (by simp) ?_
    refine AllReadyL.cons rfl (fun K hK => ?_) AllReadyL.nil
    go_simp
    have LIT := hid (World.ownsRow_made (e := 3) (size := 1) w6 #[] 0 (Nat.le_refl _) (by decide) (by simp))
    have hZW : W5.heap.size ≤ w6.heap.size := FW.out.size
    have hZ6 : w6.heap.size < (w6.alloc (.cells #[] 3)).heap.size := by simp
    have PO := hid (PO.out.grow ((Fr.refl 0 [] w6).alloc (.cells #[] 3)))
    have FW := hid (FW.out.alloc (.cells #[] 3))
    refine hK.out _ _ (Or.inr ?_) (fun hHeld => ?_)
    ·exact KP.out _ FW.out
    replace hHeld := hHeld.resolve_right (by decide)
    clear hK K
    (try simp only [Act.put, List.getElem_toArray, List.getElem_cons_succ, List.getElem_cons_zero, List.getElem?_toArray, List.getElem?_cons_succ, List.getElem?_cons_zero, List.setIfInBounds_toArray, List.set_cons_zero, List.set_cons_succ])
    refine wpAnyL_ready (rs := [8]) (by kernel_rfl) (by simp) ?_
    refine AllReadyL.cons rfl (fun K hK => ?_) AllReadyL.nil
    refine step_ap rfl (.tmp 29) (.tmp 31) 24 rfl w6.heap.size 3 i0 (.int .i64 0) 1 8 Tryz.underlying24 hi hz0 hz1 hz2 rfl (by decide) (.slice (some ⟨w6.heap.size, 0, none⟩) 0 0) 0 [] (by rfl) LIT.out (new lo) 3 _ t.votes.length (t.votes.map (Value.int .i64)) (by rfl) (HVV.out.grow FW.out) (oneI _) (by unfold maxLen; omega) (by omega) (by first | exact Nat.le_of_lt hZ6 | omega) ?_
    intro v8 w8 own8 fr8
    rw [Nat.zero_add, List.nil_append] at own8
    obtain ⟨a8, c8, rfl⟩ := own_any own8
    have VO := hid (show OwnV w2.heap.size w8 (.slice a8 t.votes.length c8) t.votes from ownsRow_lo own8 (Nat.le_trans (Nat.le_of_lt hl3W) hZW))
    have PO := hid (PO.out.tk fr8 (by simp) (by simp))
    have FW := hid (FW.out.after (fr8.mono hZW (fun _ h => h)))
    clear own8 fr8
    refine hK.out _ _ (Or.inr ?_) (fun hHeld => ?_)
    ·exact KP.out _ FW.out
    replace hHeld := hHeld.resolve_right (by decide)
    clear hK K
    (try simp only [Act.put, List.getElem_toArray, List.getElem_cons_succ, List.getElem_cons_zero, List.getElem?_toArray, List.getElem?_cons_succ, List.getElem?_cons_zero, List.setIfInBounds_toArray, List.set_cons_zero, List.set_cons_succ])
    refine wpAnyL_take (i := 11) (v := ?_) rfl (by kernel_rfl) (by kernel_rfl) (by kernel_rfl) (by kernel_rfl) (fun _ _ _ h => h) (Or.inl ⟨by rfl, ?_⟩) (by assumption) ?_
    rotate_left
    ·intro w hSw; (try dsimp only at hSw); go_simp; try with_reducible rfl
    (try simp only [Act.put, List.getElem_toArray, List.getElem_cons_succ, List.getElem_cons_zero, List.getElem?_toArray, List.getElem?_cons_succ, List.getElem?_cons_zero, List.setIfInBounds_toArray, List.set_cons_zero, List.set_cons_succ])
    refine wpAnyL_ready (rs := [12]) (by kernel_rfl) (by simp) ?_
    refine AllReadyL.cons rfl (fun K hK => ?_) AllReadyL.nil
    go_simp
    have FY := hid ((Fr.refl 0 [] w8).alloc (.cells #[.slice a6 t.parts.length c6, .slice a8 t.votes.length c8, .int .i64 t.dec] 74))
    have FW8 := hid FW.out
    have FW := hid (FW.out.alloc (.cells #[.slice a6 t.parts.length c6, .slice a8 t.votes.length c8, .int .i64 t.dec] 74))
    refine hK.out _ _ (Or.inr ?_) (fun hHeld => ?_)
    ·exact KP.out _ FW.out
    replace hHeld := hHeld.resolve_right (by decide)
    clear hK K
    (try simp only [Act.put, List.getElem_toArray, List.getElem_cons_succ, List.getElem_cons_zero, List.getElem?_toArray, List.getElem?_cons_succ, List.getElem?_cons_zero, List.setIfInBounds_toArray, List.set_cons_zero, List.set_cons_succ])
    refine wpAnyL_ready (rs := [13]) (by kernel_rfl) (by simp) ?_
    refine AllReadyL.cons rfl (fun K hK => ?_) AllReadyL.nil
    refine step_apG rfl (.tmp 25) (.tmp 36) 23 rfl w.heap.size 74 it (.agg #[.slice none 0 0, .slice none 0 0, .int .i64 0]) 3 56 Tryz.underlying23 hti htz0 htz1 htz2 rfl (by decide) (.slice ua k ucap) k (zs.flatMap encT) (by rfl) (ownsRow_grow Z2.out FW.out) (new w8.heap.size) 74 _ 1 [.slice a6 t.parts.length c6, .slice a8 t.votes.length c8, .int .i64 t.dec] (by rfl) (SlR.lit rfl) (oneT _ _ _ _ _ _ _) (by unfold maxLen; omega) (by omega) (Nat.le_trans hsW FW.out.size) ?_
    intro v13 w13 own13 gr13 _
    obtain ⟨a13, c13, rfl⟩ := own_any own13
    have OWN13 := hid own13
    have FG := hid (Fr.ofOwnGrown (B := w.heap.size) (T := [74]) (ownsRow_grow Z2.out FW.out) gr13 (Nat.le_refl _) (List.mem_singleton.2 rfl))
    have GR := hid gr13
    have F13 := hid (FW.out.nil (B' := w.heap.size) (T := [74]) |>.trans FG.out)
    have e3 := cell_of (o := 0) (F13.out.keep _ _ B3.out (.inr (by simp [otag]))) rfl
    have e4 := free_of (o := 0) (F13.out.keep _ _ B3.out (.inr (by simp [otag])))
    clear own13 gr13
    refine hK.out _ _ (Or.inr ?_) (fun hHeld => ?_)
    ·exact KP2.out _ _ FW.out GR.out
    replace hHeld := hHeld.resolve_right (by decide)
    clear hK K
    (try simp only [Act.put, List.getElem_toArray, List.getElem_cons_succ, List.getElem_cons_zero, List.getElem?_toArray, List.getElem?_cons_succ, List.getElem?_cons_zero, List.setIfInBounds_toArray, List.set_cons_zero, List.set_cons_succ])
    refine wpAnyL_take (i := 14) (v := ?_) rfl (by kernel_rfl) (by kernel_rfl) (by kernel_rfl) (by kernel_rfl) (fun _ _ _ h => h) (Or.inl ⟨by rfl, ?_⟩) (by assumption) ?_
    rotate_left
    ·intro w hSw; (try dsimp only at hSw); go_simp; try with_reducible rfl
    (try simp only [Act.put, List.getElem_toArray, List.getElem_cons_succ, List.getElem_cons_zero, List.getElem?_toArray, List.getElem?_cons_succ, List.getElem?_cons_zero, List.setIfInBounds_toArray, List.set_cons_zero, List.set_cons_succ])
    refine wpAnyL_one (i := 15) (by kernel_rfl) rfl (fun K hK => ?_)
    go_simp
    refine hK.out _ _ (Or.inl rfl) (fun hHeld => ?_)
    clear hK K hHeld
    (try simp only [Act.put, List.getElem_toArray, List.getElem_cons_succ, List.getElem_cons_zero, List.getElem?_toArray, List.getElem?_cons_succ, List.getElem?_cons_zero, List.setIfInBounds_toArray, List.set_cons_zero, List.set_cons_succ])
    refine wpAnyL_done (by kernel_rfl) ?_ _
    go_wp2
    have FYW := FY.out
    have ED := hid (F13.out.keep _ _ B3.out (.inr (by simp [otag])))
    have FT := (Fr.refl 0 [26] w13).setOld (p := ⟨w2.heap.size, 0, none⟩) ED.out (Nat.zero_le _) (by simp [otag]) (.slice a13 (k + 1) c13)
    have EN := TxnsOwnM.snoc (lo := w.heap.size) (m := w2.heap.size) (t := t) Z1.out (fun z hz => ⟨((Z3.out z hz).1.grow FW.out).tk FG.out (by simp) (by simp), ((Z3.out z hz).2.grow FW.out).tk FG.out (by simp)⟩) ((PO.out.grow FYW).tk FG.out (by simp) (by simp)) ((VO.out.grow FYW).tk FG.out (by simp)) hkl.symm OWN13.out
    go_roundw
    case rel =>
     refine ⟨k + 1, _, by omega, by go_num, block_setne (F13.out.keep _ _ B0.out (.inr (by simp [otag]))) (by dsimp only; omega), block_setne (F13.out.keep _ _ B1.out (.inr (by simp [otag]))) (by dsimp only; omega), block_set ED.out 0 _, ?_, ((OR.out.grow FW.out).tk FG.out (by simp)).tk FT (by simp), ?_⟩
     ·rw [TK.out]; exact EN.keep FT (by simp) (by simp) (by simp) (by simp)
     ·exact (FW0.out.trans FW.out.nil |>.after (FG.out.mono (Nat.le_refl _) (fun _ h => h))).setNew (by dsimp only; omega) _
    case measure => simp [intOf]; omega
   ·go_simp
    have LIT := hid (show (W5.alloc (.cells #[] 3)).drew.ownsRow W5.heap.size 3 1 (.slice (some ⟨W5.heap.size, 0, none⟩) 0 0) 0 [] from ownsRow_keep (World.ownsRow_made (e := 3) (size := 1) W5 #[] 0 (Nat.le_refl _) (by decide) (by simp)) (Fr.refl 0 [] _).drew (by simp))
    have hZW : W5.heap.size ≤ W5.heap.size := Nat.le_refl _
    have hZ : W5.heap.size < ((W5.alloc (.cells #[] 3)).drew).heap.size := by simp
    have FW := hid (FW.out.alloc (.cells #[] 3))
    refine hK.out _ _ (Or.inr ?_) (fun hHeld => ?_)
    ·exact KP.out _ FW.out
    replace hHeld := hHeld.resolve_right (by decide)
    clear hK K
    (try simp only [Act.put, List.getElem_toArray, List.getElem_cons_succ, List.getElem_cons_zero, List.getElem?_toArray, List.getElem?_cons_succ, List.getElem?_cons_zero, List.setIfInBounds_toArray, List.set_cons_zero, List.set_cons_succ])
    refine wpAnyL_ready (rs := [4]) (by kernel_rfl) (by simp) ?_
    refine AllReadyL.cons rfl (fun K hK => ?_) AllReadyL.nil
    go_simp
    go_at_call 106
    refine (l22Parts2_any lo _ t.parts _ (HP.out.grow FW.out) hpl UL.out).mono ?_
    rintro e w6 ⟨v6, rfl, own6, fr6⟩
    obtain ⟨a6, c6, rfl, _, _⟩ := own6.reads.shape
    have PO := hid (own6.reads.lower (lo' := w.heap.size) (Nat.le_trans hsW FW.out.size))
    have LIT := hid (ownsRow_grow LIT.out fr6)
    have hZ6 := Nat.lt_of_lt_of_le hZ fr6.size
    have FW := hid (FW.out.trans fr6.nil)
    clear own6 fr6
    refine hK.out _ _ (Or.inr ?_) (fun hHeld => ?_)
    ·exact KP.out _ FW.out
    replace hHeld := hHeld.resolve_right (by decide)
    clear hK K
    (try simp only [Act.put, List.getElem_toArray, List.getElem_cons_succ, List.getElem_cons_zero, List.getElem?_toArray, List.getElem?_cons_succ, List.getElem?_cons_zero, List.setIfInBounds_toArray, List.set_cons_zero, List.set_cons_succ])
    refine wpAnyL_ready (rs := [8]) (by kernel_rfl) (by simp) ?_
    refine AllReadyL.cons rfl (fun K hK => ?_) AllReadyL.nil
    refine step_ap rfl (.tmp 29) (.tmp 31) 24 rfl W5.heap.size 3 i0 (.int .i64 0) 1 8 Tryz.underlying24 hi hz0 hz1 hz2 rfl (by decide) (.slice (some ⟨W5.heap.size, 0, none⟩) 0 0) 0 [] (by rfl) LIT.out (new lo) 3 _ t.votes.length (t.votes.map (Value.int .i64)) (by rfl) (HVV.out.grow FW.out) (oneI _) (by unfold maxLen; omega) (by omega) (by first | exact Nat.le_of_lt hZ6 | omega) ?_
    intro v8 w8 own8 fr8
    rw [Nat.zero_add, List.nil_append] at own8
    obtain ⟨a8, c8, rfl⟩ := own_any own8
    have VO := hid (show OwnV w2.heap.size w8 (.slice a8 t.votes.length c8) t.votes from ownsRow_lo own8 (Nat.le_trans (Nat.le_of_lt hl3W) hZW))
    have PO := hid (PO.out.tk fr8 (by simp) (by simp))
    have FW := hid (FW.out.after (fr8.mono hZW (fun _ h => h)))
    clear own8 fr8
    refine hK.out _ _ (Or.inr ?_) (fun hHeld => ?_)
    ·exact KP.out _ FW.out
    replace hHeld := hHeld.resolve_right (by decide)
    clear hK K
    (try simp only [Act.put, List.getElem_toArray, List.getElem_cons_succ, List.getElem_cons_zero, List.getElem?_toArray, List.getElem?_cons_succ, List.getElem?_cons_zero, List.setIfInBounds_toArray, List.set_cons_zero, List.set_cons_succ])
    refine wpAnyL_take (i := 11) (v := ?_) rfl (by kernel_rfl) (by kernel_rfl) (by kernel_rfl) (by kernel_rfl) (fun _ _ _ h => h) (Or.inl ⟨by rfl, ?_⟩) (by assumption) ?_
    rotate_left
    ·intro w hSw; (try dsimp only at hSw); go_simp; try with_reducible rfl
    (try simp only [Act.put, List.getElem_toArray, List.getElem_cons_succ, List.getElem_cons_zero, List.getElem?_toArray, List.getElem?_cons_succ, List.getElem?_cons_zero, List.setIfInBounds_toArray, List.set_cons_zero, List.set_cons_succ])
    refine wpAnyL_ready (rs := [12]) (by kernel_rfl) (by simp) ?_
    refine AllReadyL.cons rfl (fun K hK => ?_) AllReadyL.nil
    go_simp
    have FY := hid ((Fr.refl 0 [] w8).alloc (.cells #[.slice a6 t.parts.length c6, .slice a8 t.votes.length c8, .int .i64 t.dec] 74))
    have FW8 := hid FW.out
    have FW := hid (FW.out.alloc (.cells #[.slice a6 t.parts.length c6, .slice a8 t.votes.length c8, .int .i64 t.dec] 74))
    refine hK.out _ _ (Or.inr ?_) (fun hHeld => ?_)
    ·exact KP.out _ FW.out
    replace hHeld := hHeld.resolve_right (by decide)
    clear hK K
    (try simp only [Act.put, List.getElem_toArray, List.getElem_cons_succ, List.getElem_cons_zero, List.getElem?_toArray, List.getElem?_cons_succ, List.getElem?_cons_zero, List.setIfInBounds_toArray, List.set_cons_zero, List.set_cons_succ])
    refine wpAnyL_ready (rs := [13]) (by kernel_rfl) (by simp) ?_
    refine AllReadyL.cons rfl (fun K hK => ?_) AllReadyL.nil
    refine step_apG rfl (.tmp 25) (.tmp 36) 23 rfl w.heap.size 74 it (.agg #[.slice none 0 0, .slice none 0 0, .int .i64 0]) 3 56 Tryz.underlying23 hti htz0 htz1 htz2 rfl (by decide) (.slice ua k ucap) k (zs.flatMap encT) (by rfl) (ownsRow_grow Z2.out FW.out) (new w8.heap.size) 74 _ 1 [.slice a6 t.parts.length c6, .slice a8 t.votes.length c8, .int .i64 t.dec] (by rfl) (SlR.lit rfl) (oneT _ _ _ _ _ _ _) (by unfold maxLen; omega) (by omega) (Nat.le_trans hsW FW.out.size) ?_
    intro v13 w13 own13 gr13 _
    obtain ⟨a13, c13, rfl⟩ := own_any own13
    have OWN13 := hid own13
    have FG := hid (Fr.ofOwnGrown (B := w.heap.size) (T := [74]) (ownsRow_grow Z2.out FW.out) gr13 (Nat.le_refl _) (List.mem_singleton.2 rfl))
    have GR := hid gr13
    have F13 := hid (FW.out.nil (B' := w.heap.size) (T := [74]) |>.trans FG.out)
    have e3 := cell_of (o := 0) (F13.out.keep _ _ B3.out (.inr (by simp [otag]))) rfl
    have e4 := free_of (o := 0) (F13.out.keep _ _ B3.out (.inr (by simp [otag])))
    clear own13 gr13
    refine hK.out _ _ (Or.inr ?_) (fun hHeld => ?_)
    ·exact KP2.out _ _ FW.out GR.out
    replace hHeld := hHeld.resolve_right (by decide)
    clear hK K
    (try simp only [Act.put, List.getElem_toArray, List.getElem_cons_succ, List.getElem_cons_zero, List.getElem?_toArray, List.getElem?_cons_succ, List.getElem?_cons_zero, List.setIfInBounds_toArray, List.set_cons_zero, List.set_cons_succ])
    refine wpAnyL_take (i := 14) (v := ?_) rfl (by kernel_rfl) (by kernel_rfl) (by kernel_rfl) (by kernel_rfl) (fun _ _ _ h => h) (Or.inl ⟨by rfl, ?_⟩) (by assumption) ?_
    rotate_left
    ·intro w hSw; (try dsimp only at hSw); go_simp; try with_reducible rfl
    (try simp only [Act.put, List.getElem_toArray, List.getElem_cons_succ, List.getElem_cons_zero, List.getElem?_toArray, List.getElem?_cons_succ, List.getElem?_cons_zero, List.setIfInBounds_toArray, List.set_cons_zero, List.set_cons_succ])
    refine wpAnyL_one (i := 15) (by kernel_rfl) rfl (fun K hK => ?_)
    go_simp
    refine hK.out _ _ (Or.inl rfl) (fun hHeld => ?_)
    clear hK K hHeld
    (try simp only [Act.put, List.getElem_toArray, List.getElem_cons_succ, List.getElem_cons_zero, List.getElem?_toArray, List.getElem?_cons_succ, List.getElem?_cons_zero, List.setIfInBounds_toArray, List.set_cons_zero, List.set_cons_succ])
    refine wpAnyL_done (by kernel_rfl) ?_ _
    go_wp2
    have FYW := FY.out
    have ED := hid (F13.out.keep _ _ B3.out (.inr (by simp [otag])))
    have FT := (Fr.refl 0 [26] w13).setOld (p := ⟨w2.heap.size, 0, none⟩) ED.out (Nat.zero_le _) (by simp [otag]) (.slice a13 (k + 1) c13)
    have EN := TxnsOwnM.snoc (lo := w.heap.size) (m := w2.heap.size) (t := t) Z1.out (fun z hz => ⟨((Z3.out z hz).1.grow FW.out).tk FG.out (by simp) (by simp), ((Z3.out z hz).2.grow FW.out).tk FG.out (by simp)⟩) ((PO.out.grow FYW).tk FG.out (by simp) (by simp)) ((VO.out.grow FYW).tk FG.out (by simp)) hkl.symm OWN13.out
    go_roundw
    case rel =>
     refine ⟨k + 1, _, by omega, by go_num, block_setne (F13.out.keep _ _ B0.out (.inr (by simp [otag]))) (by dsimp only; omega), block_setne (F13.out.keep _ _ B1.out (.inr (by simp [otag]))) (by dsimp only; omega), block_set ED.out 0 _, ?_, ((OR.out.grow FW.out).tk FG.out (by simp)).tk FT (by simp), ?_⟩
     ·rw [TK.out]; exact EN.keep FT (by simp) (by simp) (by simp) (by simp)
     ·exact (FW0.out.trans FW.out.nil |>.after (FG.out.mono (Nat.le_refl _) (fun _ h => h))).setNew (by dsimp only; omega) _
    case measure => simp [intOf]; omega
  ·obtain rfl : k = c.txns.length := by omega
   rw [List.take_length] at OW
   go_wp2
   have h1 := block_set B1'.out 0 (.slice ua c.txns.length ucap)
   have h2 := block_set h1 1 (.slice oa2 c.order.length ocap2)
   have g1 := cell_of (o := 0) h1 rfl
   have g2 := cell_of (o := 0) h2 rfl
   have g3 := cell_of (o := 1) h2 rfl
   have FT := ((Fr.refl 0 [26] wr).setOld (p := ⟨w.heap.size + 1, 0, none⟩) B1'.out (Nat.zero_le _) (by simp [otag]) (.slice ua c.txns.length ucap)).setOld (p := ⟨w.heap.size + 1, 1, none⟩) h1 (Nat.zero_le _) (by simp [otag]) (.slice oa2 c.order.length ocap2)
   exact bodyPost_ret (v := .agg #[.slice ua c.txns.length ucap, .slice oa2 c.order.length ocap2]) (by simp [results, Tryz.results67, go_sem, g2, g3]) rfl ⟨_, _, w2.heap.size, rfl, OW.out.keep FT (by simp) (by simp) (by simp) (by simp), OR'.out.tk FT (by simp), by omega, OLT.out, (FR.out.setNew (by dsimp only; omega) _).setNew (by dsimp only; omega) _⟩

end Go.Proofs.YtknoanpgadecbaaGreatDoor
