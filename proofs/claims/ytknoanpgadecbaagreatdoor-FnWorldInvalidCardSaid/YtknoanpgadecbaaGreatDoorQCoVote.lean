/- The reference's l22Vote and CoordinatorVote. -/
import Derived.Test.YtknoanpgadecbaaGreatDoorQCoShard
import Derived.Deep.DeepCutAuto
import Derived.Deep.DeepMust
set_option linter.unusedVariables false
set_option linter.unusedSimpArgs false
namespace Go.Proofs.YtknoanpgadecbaaGreatDoor
open Go.RowKit
set_option linter.unusedVariables false

theorem vote_cell {lo m g n cap : Nat} {w : World} {ts : List Tn} (h : TxnsOwnM lo m w (.slice (some ⟨g, 0, none⟩) n cap) ts) {k : Nat} (hk : k < ts.length) (h0 : 0 < ts[k].votes.length) :
  ∃ vg vcap, w.cell? ⟨g, k * 3 + 1, none⟩ = some (.slice (some ⟨vg, 0, none⟩) ts[k].votes.length vcap) ∧ OwnV m w (.slice (some ⟨vg, 0, none⟩) ts[k].votes.length vcap) ts[k].votes := by
 obtain ⟨zs, rfl, h2, h3⟩ := h
 have hz : k < zs.length := by simpa using hk
 have hz3 := (h3 _ (List.getElem_mem hz)).2
 simp only [List.getElem_map] at h0 ⊢
 obtain ⟨vg, vcap, hv, _, _, _⟩ := own_shape hz3 (by omega)
 refine ⟨vg, vcap, ?_, by rw [← hv]; exact hz3⟩
 rw [← hv]
 obtain ⟨hl, hs⟩ := id h2
 rcases hs with ⟨hh, _⟩ | ⟨g', cap', cur, hh, h4, h5, h6, h7, h8, h9⟩
 ·cases hh
 ·cases hh
  have := fm_get encT 3 (fun _ => rfl) zs k 1 (by omega) hz
  have h10 : (zs.flatMap encT)[k * 3 + 1]? = some zs[k].2.2 := by simpa [encT] using this
  rw [← h9, List.getElem?_take] at h10
  split at h10
  ·refine cell_of h5 ?_
   simpa using h10
  ·cases h10

theorem OwnV.cell {lo vg n cap : Nat} {w : World} {l : List Int} (h : OwnV lo w (.slice (some ⟨vg, 0, none⟩) n cap) l) {j : Nat} (hj : j < l.length) :
  w.cell? ⟨vg, j, none⟩ = some (.int .i64 l[j]) ∧ w.frozen? ⟨vg, j, none⟩ = false ∧ lo ≤ vg ∧ vg < w.heap.size ∧ ∃ cur, w.heap[vg]? = some (.cells cur 3 (0, 0)) := by
 obtain ⟨hl, hs⟩ := id h
 rcases hs with ⟨hh, _⟩ | ⟨g', cap', cur, hh, h4, h5, h6, h7, h8, h9⟩
 ·cases hh
 ·cases hh
  refine ⟨?_, free_of h5, h4, lt_of_get h5, cur, h5⟩
  have := World.ownsRow.cellAt h j (by omega)
  rw [this, List.getElem?_map, List.getElem?_eq_getElem hj]
  rfl

theorem OwnV.storeI {lo : Nat} {w : World} {v : Value} {l : List Int} (h : OwnV lo w v l) (g j : Nat) (n : Int) {cur : Array Value} (hg : w.heap[g]? = some (.cells cur 3 (0, 0))) :
  ∃ l', l'.length = l.length ∧ (∀ x ∈ l', x ∈ l ∨ x = n) ∧ OwnV lo (w.setCell ⟨g, j, none⟩ (.int .i64 n)) v l' := by
 obtain ⟨hl, hs⟩ := id h
 rcases hs with ⟨rfl, h0⟩ | ⟨b, cap, cu, rfl, h1, h2, h3, h4, h5, h6⟩
 ·refine ⟨l, rfl, fun x hx => .inl hx, hl, .inl ⟨rfl, h0⟩⟩
 ·by_cases e : b = g
  ·subst e
   refine ⟨l.set j n, by simp, fun x hx => List.mem_or_eq_of_mem_set hx, ?_⟩
   have := (World.ownsRow.stored h j (.int .i64 n)).1
   unfold OwnV
   rw [List.length_set, List.map_set]
   exact this
  ·exact ⟨l, rfl, fun x hx => .inl hx, hl, .inr ⟨b, cap, cu, rfl, h1, block_setne h2 (by simpa using e), h3, h4, h5, h6⟩⟩

theorem OwnV.other {lo : Nat} {w : World} {v : Value} {l : List Int} (h : OwnV lo w v l) {g j : Nat} (u : Value) (hg : v.ownBlock ≠ some g) : OwnV lo (w.setCell ⟨g, j, none⟩ u) v l := by
 obtain ⟨hl, hs⟩ := id h
 rcases hs with ⟨rfl, h0⟩ | ⟨b, cap, cu, rfl, h1, h2, h3⟩
 ·exact ⟨hl, .inl ⟨rfl, h0⟩⟩
 ·exact ⟨hl, .inr ⟨b, cap, cu, rfl, h1, block_setne h2 (fun e => hg (by simp [Value.ownBlock] at e ⊢; exact e)), h3⟩⟩

theorem OwnV.grown {lo : Nat} {w w' : World} {v : Value} {l : List Int} {row : Option Nat} (h : OwnV lo w v l) (hg : w.grownBy w' row) (hr : ∀ b, v.ownBlock = some b → row ≠ some b) : OwnV lo w' v l := by
 obtain ⟨hl, hs⟩ := id h
 rcases hs with ⟨rfl, h0⟩ | ⟨b, cap, cu, rfl, h1, h2, h3⟩
 ·exact ⟨hl, .inl ⟨rfl, h0⟩⟩
 ·refine ⟨hl, .inr ⟨b, cap, cu, rfl, h1, ?_, h3⟩⟩
  rw [hg.block b (lt_of_get h2) (fun e => hr b rfl e.symm)]
  exact h2

theorem txnsM_storeI {lo m : Nat} {w : World} {g j : Nat} {n : Int} {cur : Array Value} (hn : -1000 ≤ n ∧ n ≤ 1000) (hg : w.heap[g]? = some (.cells cur 3 (0, 0))) (zs : List (Tn × (Value × Value))) (hz : ∀ z ∈ zs, PartsR lo w z.2.1 z.1.parts ∧ OwnV m w z.2.2 z.1.votes) :
  ∃ zs' : List (Tn × (Value × Value)), zs'.length = zs.length ∧ zs'.flatMap encT = zs.flatMap encT ∧ (∀ i (h : i < zs.length) (h' : i < zs'.length), Like zs[i].1 zs'[i].1) ∧ ∀ z ∈ zs', PartsR lo (w.setCell ⟨g, j, none⟩ (.int .i64 n)) z.2.1 z.1.parts ∧ OwnV m (w.setCell ⟨g, j, none⟩ (.int .i64 n)) z.2.2 z.1.votes := by
 induction zs with
 | nil => exact ⟨[], rfl, rfl, fun i h => by simp at h, fun z hz => by cases hz⟩
 | cons z zs ih =>
  obtain ⟨zs', h1, h2, h3, h4⟩ := ih fun z hz' => hz z (List.mem_cons_of_mem _ hz')
  obtain ⟨g1, g2⟩ := hz z (List.mem_cons_self ..)
  obtain ⟨l', e1, e3, e2⟩ := g2.storeI g j n hg
  have hf : Fr 0 [3] w (w.setCell ⟨g, j, none⟩ (.int .i64 n)) := (Fr.refl 0 _ w).setOld (p := ⟨g, j, none⟩) hg (Nat.zero_le _) (by simp [otag]) _
  refine ⟨({ z.1 with votes := l' }, z.2) :: zs', by simp [h1], by simp [encT, h2], fun i h h' => ?_, fun y hy => ?_⟩
  ·cases i with
   | zero => exact ⟨rfl, e1, rfl, fun v hv => (e3 v hv).imp id fun h => by omega⟩
   | succ i => exact h3 i (by simpa using h) (by simpa using h')
  ·rcases List.mem_cons.1 hy with rfl | hy
   ·exact ⟨g1.tk hf (by simp) (by simp), e2⟩
   ·exact h4 y hy

theorem TxnsOwnM.storeI {lo m : Nat} {w : World} {v : Value} {ts : List Tn} (h : TxnsOwnM lo m w v ts) {g j : Nat} {n : Int} {cur : Array Value} (hn : -1000 ≤ n ∧ n ≤ 1000) (hg : w.heap[g]? = some (.cells cur 3 (0, 0))) :
  ∃ ts' : List Tn, ts'.length = ts.length ∧ (∀ i (h : i < ts.length) (h' : i < ts'.length), Like ts[i] ts'[i]) ∧ TxnsOwnM lo m (w.setCell ⟨g, j, none⟩ (.int .i64 n)) v ts' := by
 obtain ⟨zs, rfl, h2, h3⟩ := h
 obtain ⟨zs', g1, g2, g3, g4⟩ := txnsM_storeI (j := j) (n := n) hn hg zs h3
 have hf : Fr 0 [3] w (w.setCell ⟨g, j, none⟩ (.int .i64 n)) := (Fr.refl 0 _ w).setOld (p := ⟨g, j, none⟩) hg (Nat.zero_le _) (by simp [otag]) _
 refine ⟨zs'.map (·.1), by simp [g1], fun i h h' => ?_, zs', rfl, ?_, g4⟩
 ·have := g3 i (by simpa using h) (by simpa using h')
  simpa using this
 ·rw [g2, List.length_map, g1]
  rw [List.length_map] at h2
  exact ownsRow_keep h2 hf (by simp)

theorem TxnsOwnM.storeD {lo m g n cap : Nat} {w : World} {ts : List Tn} (h : TxnsOwnM lo m w (.slice (some ⟨g, 0, none⟩) n cap) ts) {i : Nat} (hi : i < ts.length) (d : Int) :
  TxnsOwnM lo m (w.setCell ⟨g, i * 3 + 2, none⟩ (.int .i64 d)) (.slice (some ⟨g, 0, none⟩) n cap) (ts.set i { ts[i] with dec := d }) := by
 obtain ⟨zs, rfl, h2, h3⟩ := h
 have hz : i < zs.length := by simpa using hi
 obtain ⟨cur, hcur⟩ := own_tag' h2 (k := g) rfl
 have hf : Fr 0 [74] w (w.setCell ⟨g, i * 3 + 2, none⟩ (.int .i64 d)) := (Fr.refl 0 _ w).setOld (p := ⟨g, i * 3 + 2, none⟩) hcur (Nat.zero_le _) (by simp [otag]) _
 refine ⟨zs.set i ({ zs[i].1 with dec := d }, zs[i].2), ?_, ?_, ?_⟩
 ·rw [List.map_set]; simp
 ·have hn : n = zs.length := by
   rcases h2.2 with ⟨hh, _⟩ | ⟨_, _, _, hh, _⟩
   ·cases hh
   ·cases hh; simp
  subst hn
  rw [List.length_map] at h2
  have := (World.ownsRow.stored h2 (i * 3 + 2) (.int .i64 d)).1
  rw [encT_set zs hz d] at this
  simpa using this
 ·intro z hz'
  have hz0 : ∀ y ∈ zs, PartsR lo (w.setCell ⟨g, i * 3 + 2, none⟩ (.int .i64 d)) y.2.1 y.1.parts ∧ OwnV m (w.setCell ⟨g, i * 3 + 2, none⟩ (.int .i64 d)) y.2.2 y.1.votes := fun y hy =>
   ⟨(h3 y hy).1.tk hf (by simp) (by simp), (h3 y hy).2.tk hf (by simp)⟩
  rcases List.mem_or_eq_of_mem_set hz' with h | rfl
  ·exact hz0 z h
  ·have := hz0 zs[i] (List.getElem_mem hz)
   exact this

theorem TxnsOwnM.grown {lo m B : Nat} {w w' : World} {v : Value} {ts : List Tn} {row : Option Nat} (h : TxnsOwnM lo m w v ts) (hg : w.grownBy w' row) (hf : Fr B [3] w w') (hr : ∀ b, row = some b → b < m) : TxnsOwnM lo m w' v ts := by
 obtain ⟨zs, g1, g2, g3⟩ := h
 refine ⟨zs, g1, ownsRow_keep g2 hf (by simp), fun z hz => ⟨(g3 z hz).1.tk hf (by simp) (by simp), (g3 z hz).2.grown hg fun b hb e => ?_⟩⟩
 have := (ownsRow_lt (g3 z hz).2 b hb).1
 have := hr b e
 omega

theorem like_set {ts ts' : List Tn} {k : Nat} (hl : ts'.length = ts.length) (h : ∀ i (h : i < ts.length) (h' : i < ts'.length), Like ts[i] ts'[i]) (hk : k < ts'.length) (d : Int) :
  ∀ i (h1 : i < ts.length) (h2 : i < (ts'.set k { ts'[k] with dec := d }).length), (ts'.set k { ts'[k] with dec := d })[i].parts = ts[i].parts ∧ (ts'.set k { ts'[k] with dec := d })[i].votes.length = ts[i].votes.length ∧ ∀ v ∈ (ts'.set k { ts'[k] with dec := d })[i].votes, v ∈ ts[i].votes ∨ (-1000 ≤ v ∧ v ≤ 1000) := fun i h1 h2 => by
 have hi : i < ts'.length := by simpa using h2
 have := h i h1 hi
 rw [List.getElem_set]
 split
 ·rename_i e; subst e; exact ⟨this.1, this.2.1, this.2.2.2⟩
 ·exact ⟨this.1, this.2.1, this.2.2.2⟩

theorem txnsM_cell {lo m g n cap : Nat} {w : World} {ts : List Tn} (h : TxnsOwnM lo m w (.slice (some ⟨g, 0, none⟩) n cap) ts) {k : Nat} (hk : k < ts.length) :
  w.cell? ⟨g, k * 3 + 2, none⟩ = some (.int .i64 ts[k].dec) ∧ w.frozen? ⟨g, k * 3 + 2, none⟩ = false ∧ lo ≤ g ∧ g < w.heap.size ∧ n = ts.length ∧ ∃ cur, w.heap[g]? = some (.cells cur 74 (0, 0)) := by
 obtain ⟨zs, rfl, h2, h3⟩ := h
 have hz : k < zs.length := by simpa using hk
 obtain ⟨hl, hs⟩ := id h2
 rcases hs with ⟨hh, _⟩ | ⟨g', cap', cur, hh, h4, h5, h6, h7, h8, h9⟩
 ·cases hh
 ·cases hh
  refine ⟨?_, free_of h5, h4, lt_of_get h5, rfl, cur, h5⟩
  have := fm_get encT 3 (fun _ => rfl) zs k 2 (by omega) hz
  have h10 : (zs.flatMap encT)[k * 3 + 2]? = some (.int .i64 zs[k].1.dec) := by simpa [encT] using this
  rw [← h9, List.getElem?_take] at h10
  split at h10
  ·refine cell_of h5 ?_
   simpa using h10
  ·cases h10

theorem vote_cell0 {lo m g n cap : Nat} {w : World} {ts : List Tn} (h : TxnsOwnM lo m w (.slice (some ⟨g, 0, none⟩) n cap) ts) {k : Nat} (hk : k < ts.length) :
  ∃ va vcap, w.cell? ⟨g, k * 3 + 1, none⟩ = some (.slice va ts[k].votes.length vcap) ∧ OwnV m w (.slice va ts[k].votes.length vcap) ts[k].votes := by
 obtain ⟨zs, rfl, h2, h3⟩ := h
 have hz : k < zs.length := by simpa using hk
 have hz3 := (h3 _ (List.getElem_mem hz)).2
 obtain ⟨va, vcap, hv, _, _⟩ := hz3.reads.shape
 rw [hv] at hz3
 simp only [List.getElem_map]
 refine ⟨va, vcap, ?_, hz3⟩
 rw [← hv]
 have := fm_get encT 3 (fun _ => rfl) zs k 1 (by omega) hz
 have h10 : (zs.flatMap encT)[k * 3 + 1]? = some zs[k].2.2 := by simpa [encT] using this
 rcases h2.2 with ⟨hh, _⟩ | ⟨g', cap', cur, hh, h4, h5, h6, h7, h8, h9⟩
 ·cases hh
 ·cases hh
  rw [← h9, List.getElem?_take] at h10
  split at h10
  ·refine cell_of h5 ?_
   simpa using h10
  ·cases h10

theorem ne_tag {w : World} {a b S T : Nat} {x y : Array Value} (ha : w.heap[a]? = some (.cells x S (0, 0))) (hb : w.heap[b]? = some (.cells y T (0, 0))) (h : S ≠ T) : a ≠ b := fun e => by
 subst e
 rw [ha] at hb
 simp at hb
 exact h hb.2

theorem TxnsOwnM.lower {lo lo' m : Nat} {w : World} {v : Value} {ts : List Tn} (h : TxnsOwnM lo m w v ts) (hl : lo' ≤ lo) : TxnsOwnM lo' m w v ts := by
 obtain ⟨zs, g1, g2, g3⟩ := h
 exact ⟨zs, g1, ownsRow_lo g2 hl, fun z hz => ⟨(g3 z hz).1.lower hl, (g3 z hz).2⟩⟩

theorem CoOwn.grownM {lo m B : Nat} {w w' : World} {v1 v2 v2' : Value} {c : Co} (h : TxnsOwnM lo m w v1 c.txns) (hg : w.grownBy w' v2.ownBlock) (hf : Fr B [3] w w') (hr : ∀ b, v2.ownBlock = some b → b < m) (ho : OwnV lo w' v2' c.order)
  (hn : v2'.ownBlock = v2.ownBlock ∨ ∀ k, v2'.ownBlock = some k → w.heap.size ≤ k) (hm : lo ≤ m) : CoOwn lo w' v1 v2' c := by
 obtain ⟨zs, g1, g2, g3⟩ := h
 refine ⟨zs, g1, ownsRow_keep g2 hf (by simp), ho, fun z hz => ⟨(g3 z hz).1.tk hf (by simp) (by simp), ((g3 z hz).2.grown hg fun b hb e => ?_).lower hm, fun b hb e => ?_⟩⟩
 ·have := (ownsRow_lt (g3 z hz).2 b hb).1
  have := hr b e
  omega
 ·obtain ⟨q1, q2⟩ := ownsRow_lt (g3 z hz).2 b hb
  rcases hn with hn | hn
  ·rw [hn] at e
   have := hr b e
   omega
  ·have := hn b e
   omega

set_option maxRecDepth 20000 in
set_option maxHeartbeats 4000000 in
theorem l22Vote_own (lo : Nat) (v1 v2 : Value) (c : Co) (k j : Nat) (yes : Bool) (w : World) (hv : CoR lo w v1 v2 c) (hi : CoI c) (hk : k < c.txns.length) (hj : j < (c.txns[k]).votes.length) (ho : c.order.length < 1000) :
  Calls Tryz.prog 110 #[.agg #[v1, v2], .int .i64 k, .int .i64 j, .bool yes] w fun e w' =>
   ∃ u1 u2 c', e = .returned (.agg #[u1, u2]) ∧ CoOwn w.heap.size w' u1 u2 c' ∧ CoI c' ∧ c'.txns.length = c.txns.length ∧ Fr w.heap.size [] w w' := by
 obtain ⟨ta, tcap, rfl, _, _⟩ := hv.1.shape
 obtain ⟨oa, ocap, rfl, _, _⟩ := hv.2.shape
 obtain ⟨i0, hi', hz0, hz1, hz2⟩ := info_parts infoI
 have HV := hid hv
 have CI := hid hi
 have htl := hi.2.1
 have hol := hi.2.2
 have hvl := (hi.1 _ (List.getElem_mem hk)).2.2.1
 have A1 := hid (show ((w.alloc (.cells #[.slice ta c.txns.length tcap, .slice oa c.order.length ocap] 26)).alloc (.cells #[.slice none 0 0, .slice none 0 0] 26)).heap[w.heap.size + 1]? = some (.cells #[.slice none 0 0, .slice none 0 0] 26 (0, 0)) by
  have := heap_alloc_new (w.alloc (.cells #[.slice ta c.txns.length tcap, .slice oa c.order.length ocap] 26)) (.cells #[.slice none 0 0, .slice none 0 0] 26); simpa using this)
 have FA := hid (((Fr.refl w.heap.size [] w).alloc (.cells #[.slice ta c.txns.length tcap, .slice oa c.order.length ocap] 26)).alloc (.cells #[.slice none 0 0, .slice none 0 0] 26))
 clear hv hi
 have hi := hi'
 clear hi'
 go_enter Tryz.func110, Tryz.ntmps110
 go_upto_if 14 with (go_at_call 67; go_must (refine (l22Copy_any lo _ _ c _ (HV.out.grow FA.out) CI.out).mono ?_; rintro e w3 ⟨u1, u2, m, rfl, own3, or3, hm3, hob, fr3⟩; obtain ⟨csr, hcsr⟩ := own_row (own3.own hm3); obtain ⟨g, gcap, rfl, _, _, _⟩ := own_shape hcsr (by omega); clear hcsr; obtain ⟨oa2, ocap2, rfl, _, _⟩ := or3.reads.shape; have OW3 := hid own3; have OR3 := hid or3; have HOB := hid hob; have HM3 := hid hm3; have FR3 := hid fr3; have F3 := hid (FA.out.trans fr3.nil); have E1 := hid (fr3.keep _ _ A1.out (.inr (by simp))); clear own3 or3 fr3 hob hm3))
 have hs3 := FR3.out.size
 have hm3 := HM3.out
 have hl1 := lt_of_get E1.out
 have hsA : ((w.alloc (.cells #[.slice ta c.txns.length tcap, .slice oa c.order.length ocap] 26)).alloc (.cells #[.slice none 0 0, .slice none 0 0] 26)).heap.size = w.heap.size + 2 := by simp
 rw [hsA] at hs3 hm3
 have FX := hid ((Fr.refl w3.heap.size [] w3).alloc (.cells #[.slice (some ⟨g, 0, none⟩) c.txns.length gcap, .slice oa2 c.order.length ocap2] 26))
 have B3 := hid (heap_alloc_new w3 (.cells #[.slice (some ⟨g, 0, none⟩) c.txns.length gcap, .slice oa2 c.order.length ocap2] 26))
 have B1 := hid (FX.out.keep _ _ E1.out (.inr (by simp)))
 have OW := hid (OW3.out.keep FX.out (by simp) (by simp) (by simp) (by simp))
 rw [hsA] at OW
 have OV := hid ((OR3.out.lower (lo' := w.heap.size) (by rw [hsA]; omega)).grow FX.out)
 have FW := hid (F3.out.trans FX.out.nil)
 obtain ⟨W, hW⟩ : ∃ W : World, W = w3.alloc (.cells #[.slice (some ⟨g, 0, none⟩) c.txns.length gcap, .slice oa2 c.order.length ocap2] 26) := ⟨_, rfl⟩
 obtain ⟨M, hM⟩ : ∃ M, M = w3.heap.size := ⟨_, rfl⟩
 rw [← hW] at B3 B1 OW OV FW ⊢
 rw [← hM] at B3 ⊢
 obtain ⟨q0, q1, q2, q3, _, cg, q4⟩ := txnsM_cell OW.out hk
 obtain ⟨vg, vcap, p0, p1⟩ := vote_cell OW.out hk (by omega)
 have PV := hid p1
 obtain ⟨r0, r1, r2, r3, cv, r4⟩ := p1.cell hj
 have QG := hid q4
 have QV := hid r4
 have ne1 := ne_tag q4 r4 (by decide)
 have ne2 := ne_tag q4 B3.out (by decide)
 have ne3 := ne_tag r4 B3.out (by decide)
 have ne4 := ne_tag q4 B1.out (by decide)
 have ne5 := ne_tag r4 B1.out (by decide)
 have ne6 : M ≠ w.heap.size + 1 := by omega
 have hMw : w.heap.size ≤ M := by omega
 have hlM := lt_of_get B3.out
 have hl1W := lt_of_get B1.out
 have hmM : m ≤ vg := r2
 have s0 := cell_of (o := 0) B3.out rfl
 have s1 := cell_of (o := 1) B3.out rfl
 have s2 := cell_of (o := 0) B1.out rfl
 have s3 := cell_of (o := 1) B1.out rfl
 have s4 := fun o => free_of (o := o) B1.out
 have hki : (k : Int) < (c.txns.length : Int) := by omega
 have hji : (j : Int) < (c.txns[k].votes.length : Int) := by omega
 clear hW hM q4 r4 p1 FX E1 OW3 OR3 FR3 F3
 rcases yes with _ | _
 ·go_wp2
  obtain ⟨ts', l1, l2, own1⟩ := OW.out.storeI (j := j) (n := -1) (by omega) QV.out
  have own2 := own1.storeD (i := k) (by omega) 3
  have b1 := block_setne (p := ⟨g, k * 3 + 2, none⟩) (u := .int .i64 3) (block_setne (p := ⟨vg, j, none⟩) (u := .int .i64 (-1)) B1.out (fun e => ne5 e.symm)) (fun e => ne4 e.symm)
  have h3 := box2 (u1 := .slice (some ⟨g, 0, none⟩) c.txns.length gcap) (u2 := .slice oa2 c.order.length ocap2) b1
  have g2 := cell_of (o := 0) h3 rfl
  have g3 := cell_of (o := 1) h3 rfl
  have FT := box2_fr (u1 := .slice (some ⟨g, 0, none⟩) c.txns.length gcap) (u2 := .slice oa2 c.order.length ocap2) b1
  have FD := (Fr.refl 0 [74] (W.setCell ⟨vg, j, none⟩ (.int .i64 (-1)))).setOld (p := ⟨g, k * 3 + 2, none⟩) (block_setne (p := ⟨vg, j, none⟩) (u := .int .i64 (-1)) QG.out ne1) (Nat.zero_le _) (by simp [otag]) (.int .i64 3)
  have ov := OV.out.other (g := vg) (j := j) (.int .i64 (-1)) (fun e => by have := HOB.out _ e; omega)
  refine bodyPost_ret (v := .agg #[.slice (some ⟨g, 0, none⟩) c.txns.length gcap, .slice oa2 c.order.length ocap2]) (by simp [results, Tryz.results110, go_sem, g2, g3]) rfl ⟨_, _, rfl, ⟨ts'.set k { ts'[k] with dec := 3 }, c.order⟩, ?_, coI_dec CI.out (by simp [l1]) (like_set l1 l2 (by omega) 3) hol, by simp [l1], (((FW.out.setNew (p := ⟨vg, j, none⟩) (by dsimp only; omega) _).setNew (p := ⟨g, k * 3 + 2, none⟩) (by dsimp only; omega) _).setNew (p := ⟨w.heap.size + 1, 0, none⟩) (by dsimp only; omega) _).setNew (by dsimp only; omega) _⟩
  exact (CoOwn.ofM (c := ⟨ts'.set k { ts'[k] with dec := 3 }, c.order⟩) (own2.lower (lo' := w.heap.size) (by omega)) (ov.tk FD (by simp)) (fun b hb => HOB.out b hb) (by omega)).tk FT (by simp) (by simp) (by simp) (by simp)
 ·go_wp2
  obtain ⟨ts, l1, l2, own1⟩ := OW.out.storeI (j := j) (n := 1) (by omega) QV.out
  have b1 := block_setne (p := ⟨vg, j, none⟩) (u := .int .i64 1) B1.out (fun e => ne5 e.symm)
  have b3 := block_setne (p := ⟨vg, j, none⟩) (u := .int .i64 1) B3.out (fun e => ne3 e.symm)
  have bg := block_setne (p := ⟨vg, j, none⟩) (u := .int .i64 1) QG.out ne1
  have ov := OV.out.other (g := vg) (j := j) (.int .i64 1) (fun e => by have := HOB.out _ e; omega)
  have fw := FW.out.setNew (p := ⟨vg, j, none⟩) (by dsimp only; omega) (.int .i64 1)
  clear OW B1 B3 QG QV OV FW q0 q1 q3 p0 PV r0 r1 r2 r3 s0 s1 s2 s3 s4 ne1 ne3 ne5 hlM hl1W hmM hji
  generalize W.setCell ⟨vg, j, none⟩ (.int .i64 1) = X at *
  have hkt : k < ts.length := by omega
  have B1 := hid b1
  have B3 := hid b3
  have QG := hid bg
  have OW := hid own1
  have OV := hid ov
  have FW := hid fw
  have L2 := hid l2
  have hlM := lt_of_get b3
  have hl1X := lt_of_get b1
  have hvk : ts[k].votes.length ≤ 1000 := by rw [(l2 k hk hkt).2.1]; exact hvl
  obtain ⟨q0, q1, -, q3, -, -⟩ := txnsM_cell own1 hkt
  have s0 := cell_of (o := 0) b3 rfl
  have s1 := cell_of (o := 1) b3 rfl
  have s5 := fun o => free_of (o := o) b3
  have s2 := cell_of (o := 0) b1 rfl
  have s3 := cell_of (o := 1) b1 rfl
  have s4 := fun o => free_of (o := o) b1
  obtain ⟨va, vcap, p0, p1⟩ := vote_cell0 own1 hkt
  have L1 := hid l1
  have PV := hid p1
  have RV := hid p1.reads
  clear b1 b3 bg own1 ov fw l2 p1 l1 hsA hs3 hl1
  go_loopw [10] (fun vi wx => ∃ i : Nat, i ≤ ts[k].votes.length ∧ vi = .int .i64 i ∧ wx = X) (fun vi _ => ts[k].votes.length - (intOf vi).toNat)
  case atStart => exact ⟨0, Nat.zero_le _, rfl, rfl⟩
  case round =>
   obtain ⟨i, hik, rfl, rfl⟩ := hrel
   by_cases hlt : i < ts[k].votes.length
   ·have hii : (i : Int) < (ts[k].votes.length : Int) := by omega
    obtain ⟨vg, vcap', hvv, _⟩ := own_shape PV.out (by omega)
    cases hvv
    obtain ⟨r0, r1, r2, r3, cv, r4⟩ := PV.out.cell hlt
    generalize ts[k].votes[i] = y at *
    by_cases hy : y = 1
    ·subst hy
     go_wp2
     go_roundw
     case rel => exact ⟨i + 1, by omega, by go_num, trivial⟩
     case measure => simp [intOf]; omega
    ·go_wp2
     have h3 := box2 (u1 := .slice (some ⟨g, 0, none⟩) c.txns.length gcap) (u2 := .slice oa2 c.order.length ocap2) B1.out
     have g2 := cell_of (o := 0) h3 rfl
     have g3 := cell_of (o := 1) h3 rfl
     have FT := box2_fr (u1 := .slice (some ⟨g, 0, none⟩) c.txns.length gcap) (u2 := .slice oa2 c.order.length ocap2) B1.out
     have l1 := L1.out
     refine bodyPost_ret (v := .agg #[.slice (some ⟨g, 0, none⟩) c.txns.length gcap, .slice oa2 c.order.length ocap2]) (by simp [results, Tryz.results110, go_sem, g2, g3]) rfl ⟨_, _, ⟨ts, c.order⟩, rfl, ?_, coI_dec CI.out l1 (fun i h1 h2 => ⟨(L2.out i h1 h2).1, (L2.out i h1 h2).2.1, (L2.out i h1 h2).2.2.2⟩) hol, l1, (FW.out.setNew (p := ⟨w.heap.size + 1, 0, none⟩) (by dsimp only; omega) _).setNew (by dsimp only; omega) _⟩
     exact (CoOwn.ofM (c := ⟨ts, c.order⟩) (OW.out.lower (lo' := w.heap.size) (by omega)) OV.out (fun b hb => HOB.out b hb) (by omega)).tk FT (by simp) (by simp) (by simp) (by simp)
   ·obtain rfl : i = ts[k].votes.length := by omega
    have FD := hid ((Fr.refl 0 [74] wr).setOld (p := ⟨g, k * 3 + 2, none⟩) QG.out (Nat.zero_le _) (by simp [otag]) (.int .i64 2))
    have OV2 := hid (OV.out.tk FD.out (by simp))
    have C1 := hid (block_setne (p := ⟨g, k * 3 + 2, none⟩) (u := .int .i64 2) B1.out (fun e => ne4 e.symm))
    have C3 := hid (block_setne (p := ⟨g, k * 3 + 2, none⟩) (u := .int .i64 2) B3.out (fun e => ne2 e.symm))
    have FW2 := hid (FW.out.setNew (p := ⟨g, k * 3 + 2, none⟩) (by dsimp only; omega) (.int .i64 2))
    have OW2 := hid (OW.out.storeD hkt 2)
    have hol' := hol
    obtain ⟨n0, hn0⟩ : ∃ n0, n0 = c.order.length := ⟨_, rfl⟩
    go_wp2_with ((at_builtin; go_must (refine wpList_push rfl (.tmp 65) (.tmp 67) 24 rfl w.heap.size 3 i0 (.int .i64 0) 1 8 Tryz.underlying24 hi hz0 hz1 hz2 rfl (by decide) _ _ _ OV2.out rfl (oneCell_int _) (by unfold maxLen; omega) (by omega) (by simp [World.setCell]; omega) (by rfl) _ (by rfl) (by simp [World.setCell]) ?_; intro u3 w4 hown4 hfr4 hg4)); go_must (obtain ⟨g3, cap3, rfl, hg3, hgl3, _⟩ := own_shape hown4 (by omega); have HO4 := hid hown4; have HG4 := hid hg4; have HF4 := hid hfr4; have D1 := hid (hfr4.keep _ _ C1.out (.inr (by simp [otag]))); have D3 := hid (hfr4.keep _ _ C3.out (.inr (by simp [otag]))); have t0 := cell_of (o := 0) D3.out rfl; have t1 := cell_of (o := 1) D3.out rfl; have t2 := cell_of (o := 0) D1.out rfl; have t3 := cell_of (o := 1) D1.out rfl; have t4 := fun o => free_of (o := o) D1.out; have t5 := fun o => free_of (o := o) D3.out; have hlM4 := lt_of_get D3.out; have hl14 := lt_of_get D1.out; clear hown4 hfr4 hg4))
    have h3 := box2 (u1 := .slice (some ⟨g, 0, none⟩) c.txns.length gcap) (u2 := .slice (some ⟨g3, 0, none⟩) (c.order.length + 1) cap3) (block_setne (p := ⟨M, 1, none⟩) (u := .slice (some ⟨g3, 0, none⟩) (c.order.length + 1) cap3) D1.out (fun e => ne6 e.symm))
    have g2 := cell_of (o := 0) h3 rfl
    have g3' := cell_of (o := 1) h3 rfl
    have l1 := L1.out
    have FM := (Fr.refl 0 [26] w4).setOld (p := ⟨M, 1, none⟩) D3.out (Nat.zero_le _) (by simp [otag]) (.slice (some ⟨g3, 0, none⟩) (c.order.length + 1) cap3)
    have FT := box2_fr (u1 := .slice (some ⟨g, 0, none⟩) c.txns.length gcap) (u2 := .slice (some ⟨g3, 0, none⟩) (c.order.length + 1) cap3) (block_setne (p := ⟨M, 1, none⟩) (u := .slice (some ⟨g3, 0, none⟩) (c.order.length + 1) cap3) D1.out (fun e => ne6 e.symm))
    have ov4 := (show OwnV w.heap.size w4 (.slice (some ⟨g3, 0, none⟩) (c.order.length + 1) cap3) (c.order ++ [(k : Int)]) by
     unfold OwnV
     simpa using HO4.out)
    have cr := ((CoOwn.grownM (c := ⟨ts.set k { ts[k] with dec := 2 }, c.order ++ [(k : Int)]⟩) (OW2.out.lower (lo' := w.heap.size) (by omega)) HG4.out.1 HF4.out (fun b hb => HOB.out b hb) ov4 HG4.out.2 (by omega)).tk FM (by simp) (by simp) (by simp) (by simp)).tk FT (by simp) (by simp) (by simp) (by simp)
    refine bodyPost_ret (v := .agg #[.slice (some ⟨g, 0, none⟩) c.txns.length gcap, .slice (some ⟨g3, 0, none⟩) (c.order.length + 1) cap3]) (by simp [results, Tryz.results110, go_sem, g2, g3']) rfl ⟨_, _, rfl, ⟨ts.set k { ts[k] with dec := 2 }, c.order ++ [(k : Int)]⟩, cr, coI_dec CI.out (by simp [l1]) (like_set l1 L2.out hkt 2) (by simp; omega), by simp [l1], ?_⟩
    exact (((FW2.out.after (HF4.out.mono (by omega) (fun _ h => h))).setNew (p := ⟨M, 1, none⟩) (by dsimp only; omega) _).setNew (p := ⟨w.heap.size + 1, 0, none⟩) (by dsimp only; omega) _).setNew (by dsimp only; omega) _

theorem l22Vote_any (lo : Nat) (v1 v2 : Value) (c : Co) (k j : Nat) (yes : Bool) (w : World) (hv : CoR lo w v1 v2 c) (hi : CoI c) (hk : k < c.txns.length) (hj : j < (c.txns[k]).votes.length) (ho : c.order.length < 1000) :
  Calls Tryz.prog 110 #[.agg #[v1, v2], .int .i64 k, .int .i64 j, .bool yes] w fun e w' =>
   ∃ u1 u2 c', e = .returned (.agg #[u1, u2]) ∧ CoR w.heap.size w' u1 u2 c' ∧ CoI c' ∧ c'.txns.length = c.txns.length ∧ Fr w.heap.size [] w w' :=
 (l22Vote_own lo v1 v2 c k j yes w hv hi hk hj ho).mono fun _ _ ⟨u1, u2, c', h1, h2, h3, h4, h5⟩ => ⟨u1, u2, c', h1, h2.reads, h3, h4, h5⟩

end Go.Proofs.YtknoanpgadecbaaGreatDoor
