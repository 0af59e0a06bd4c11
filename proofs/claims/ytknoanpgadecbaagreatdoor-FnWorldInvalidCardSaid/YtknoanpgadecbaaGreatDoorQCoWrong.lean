/- Draws around runs: l92Of; what is kept of a run that is spoilt. -/
import Derived.Test.YtknoanpgadecbaaGreatDoorQCoWCopy
import Derived.Test.YtknoanpgadecbaaGreatDoorQDraw4
set_option linter.unusedVariables false
set_option linter.unusedSimpArgs false
namespace Go.Proofs.YtknoanpgadecbaaGreatDoor
open Go.RowKit
set_option linter.unusedVariables false

def DrawN (B r p c : Nat) (w : World) (e : Ending) (w' : World) : Prop :=
 ∃ (n : Int) (q : Nat), e = .returned (.int .i64 n) ∧ Rdr B w' r q ∧ q ≤ p + c ∧ Fr B [86] w w' ∧ -10000 ≤ n ∧ n ≤ 10000

theorem pk_le {k : Nat} {n : Int} (h : k = 0 ∨ (k : Int) < n) (h0 : n ≤ 1000) : (k : Int) < 1001 := by omega

def ShB (rs : List Rc) : Prop := Few 40 rs ∧ NC rs

theorem ShI.b {rs : List Rc} (h : ShI rs) : ShB rs := ⟨⟨by have := valid_len h.1; omega, h.2⟩, NC_of_valid h.1⟩
theorem ShB.small {rs : List Rc} (h : ShB rs) : Small rs := h.1.small (by omega)

def WdB (d : Wd) : Prop := CoI d.co ∧ d.shards.length ≤ 3 ∧ (∀ rs ∈ d.shards, ShB rs) ∧ d.net.length ≤ 100

theorem WdI.b {d : Wd} (h : WdI d) : WdB d := ⟨h.1, by have := h.2.1; omega, fun rs hrs => (h.2.2.1 rs hrs).b, by have := h.2.2.2.1; omega⟩

structure WS (B r : Nat) (w0 : World) (X m : Nat) (v1 v2 v3 v4 : Value) (d : Wd) (w : World) : Prop where
 hB : B ≤ w0.heap.size
 hr : r < w0.heap.size
 hX : w0.heap.size ≤ X
 hrX : r < X
 xb : w.heap[X]? = some (.cells #[v1, v2, v3, v4] 30 (0, 0))
 co : CoOwn w0.heap.size w v1 v2 d.co
 so : ShsOwn w0.heap.size w v3 d.shards
 no : NetOwn w0.heap.size w v4 d.net
 wi : WdI d
 rd : ∃ q, q ≤ m ∧ Rdr B w r q
 fr : Fr B [86] w0 w

structure WF (B r : Nat) (w0 : World) (X m : Nat) (v1 v2 v3 v4 : Value) (d : Wd) (w : World) : Prop where
 hB : B ≤ w0.heap.size
 hr : r < w0.heap.size
 hX : w0.heap.size ≤ X
 hrX : r < X
 xb : w.heap[X]? = some (.cells #[v1, v2, v3, v4] 30 (0, 0))
 re : WdR w0.heap.size w v1 v2 v3 v4 d
 wi : WdB d
 rd : ∃ q, q ≤ m ∧ Rdr B w r q
 fr : Fr B [86] w0 w

theorem WS.reads {B r X m : Nat} {w0 w : World} {v1 v2 v3 v4 : Value} {d : Wd} (h : WS B r w0 X m v1 v2 v3 v4 d w) : WdR w0.heap.size w v1 v2 v3 v4 d := ⟨h.co.reads, h.so.reads, h.no.reads⟩

theorem WS.wf {B r X m : Nat} {w0 w : World} {v1 v2 v3 v4 : Value} {d : Wd} (h : WS B r w0 X m v1 v2 v3 v4 d w) : WF B r w0 X m v1 v2 v3 v4 d w := ⟨h.hB, h.hr, h.hX, h.hrX, h.xb, h.reads, h.wi.b, h.rd, h.fr⟩

theorem WS.tk {B r X m m' : Nat} {w0 w w' : World} {v1 v2 v3 v4 : Value} {d : Wd} (h : WS B r w0 X m v1 v2 v3 v4 d w) (hf : Fr B [86] w w') (hR : ∃ q, q ≤ m' ∧ Rdr B w' r q) : WS B r w0 X m' v1 v2 v3 v4 d w' :=
 ⟨h.hB, h.hr, h.hX, h.hrX, hf.keep _ _ h.xb (.inr (by simp [otag])), h.co.tk hf (by simp) (by simp) (by simp) (by simp), h.so.tk hf (by simp) (by simp) (by simp), ownsRow_keep h.no hf (by simp), h.wi, hR, h.fr.trans hf⟩

theorem WS.grow {B B' r X m : Nat} {w0 w w' : World} {v1 v2 v3 v4 : Value} {d : Wd} (h : WS B r w0 X m v1 v2 v3 v4 d w) (hf : Fr B' [] w w') : WS B r w0 X m v1 v2 v3 v4 d w' := by
 obtain ⟨q, h1, h2⟩ := h.rd
 exact h.tk hf.nil ⟨q, h1, h2.keep (hf.nil (B' := B) (T := [])) (by simp)⟩

theorem WF.more {B r X m m' : Nat} {w0 w : World} {v1 v2 v3 v4 : Value} {d : Wd} (h : WF B r w0 X m v1 v2 v3 v4 d w) (hm : m ≤ m') : WF B r w0 X m' v1 v2 v3 v4 d w := by
 obtain ⟨q, h1, h2⟩ := h.rd
 exact ⟨h.hB, h.hr, h.hX, h.hrX, h.xb, h.re, h.wi, ⟨q, by omega, h2⟩, h.fr⟩

theorem WS.pick {B r X m : Nat} {w0 w : World} {v1 v2 v3 v4 : Value} {d : Wd} (n : Int) (h : WS B r w0 X m v1 v2 v3 v4 d w) (hm : m ≤ 1000000000) :
  Calls Tryz.prog 34 #[.pointer (some ⟨r, 0, none⟩), .int .i64 n] w fun e w' => ∃ k : Nat, e = .returned (.int .i64 (k : Int)) ∧ (k = 0 ∨ (k : Int) < n) ∧ WS B r w0 X (m + 1) v1 v2 v3 v4 d w' ∧ Fr B [86] w w' := by
 obtain ⟨q, h1, h2⟩ := h.rd
 refine (pick_at (n := n) h2 (by omega)).mono ?_
 rintro e w' ⟨k, rfl, hk, hR, hf⟩
 exact ⟨k, rfl, hk, h.tk hf ⟨_, by omega, hR⟩, hf⟩

theorem WS.shard {B r X m : Nat} {w0 w : World} {v1 v2 v3 v4 : Value} {d : Wd} (h : WS B r w0 X m v1 v2 v3 v4 d w) (hm : m ≤ 999990000) :
  Calls Tryz.prog 36 #[.pointer (some ⟨r, 0, none⟩)] w fun e w' => ∃ sa sn sc rs, e = .returned (.agg #[.slice sa sn sc]) ∧ RecsR (new w0.heap.size) w' (.slice sa sn sc) rs ∧ ShB rs ∧ WS B r w0 X (m + 4000) v1 v2 v3 v4 d w' ∧ Fr B [86] w w' := by
 obtain ⟨q, h1, h2⟩ := h.rd
 refine (l92Shard_any h2 (by omega)).mono ?_
 rintro e w' ⟨v, rs, q', rfl, hr, hf, hn, hR, hq, fr⟩
 obtain ⟨sa, sc, rfl, _, _⟩ := hr.shape
 exact ⟨sa, _, sc, rs, rfl, hr.weak (new_low h.fr.size), ⟨hf, hn⟩, h.tk fr ⟨q', by omega, hR⟩, fr⟩

theorem WS.coord {B r X m : Nat} {w0 w : World} {v1 v2 v3 v4 : Value} {d : Wd} (h : WS B r w0 X m v1 v2 v3 v4 d w) (hm : m ≤ 999900000) :
  Calls Tryz.prog 35 #[.pointer (some ⟨r, 0, none⟩)] w fun e w' => ∃ ua un uc ub vn vc c, e = .returned (.agg #[.slice ua un uc, .slice ub vn vc]) ∧ CoR w0.heap.size w' (.slice ua un uc) (.slice ub vn vc) c ∧ CoI c ∧ WS B r w0 X (m + 30000) v1 v2 v3 v4 d w' ∧ Fr B [86] w w' := by
 obtain ⟨q, h1, h2⟩ := h.rd
 refine (l92Coordinator_any h2 (by omega)).mono ?_
 rintro e w' ⟨u1, u2, c, q', rfl, cr, ci, hR, hq, fr⟩
 obtain ⟨ua, uc, rfl, _, _⟩ := cr.1.shape
 obtain ⟨ub, vc, rfl, _, _⟩ := cr.2.shape
 exact ⟨ua, _, uc, ub, _, vc, c, rfl, cr.lower h.fr.size, ci, h.tk fr ⟨q', by omega, hR⟩, fr⟩

theorem WS.spoilC {B r X m : Nat} {w0 w : World} {v1 v2 v3 v4 u1 u2 : Value} {d : Wd} {c : Co} (h : WS B r w0 X m v1 v2 v3 v4 d w) (hc : CoR w0.heap.size w u1 u2 c) (ci : CoI c) :
  WF B r w0 X m u1 u2 v3 v4 ⟨c, d.shards, d.net⟩ ((w.setCell ⟨X, 0, none⟩ u1).setCell ⟨X, 1, none⟩ u2) := by
 obtain ⟨q, h1, h2⟩ := h.rd
 have hr := h.hr
 have hX := h.hX
 have FT := box2p_fr (u1 := u1) (u2 := u2) h.xb
 exact ⟨h.hB, h.hr, h.hX, h.hrX, box2p h.xb, WdR.tk (d := ⟨c, d.shards, d.net⟩) ⟨hc, h.so.reads, h.no.reads⟩ FT (by simp [Apt]), ⟨ci, h.wi.b.2.1, h.wi.b.2.2.1, h.wi.b.2.2.2⟩, ⟨q, h1, (h2.setAbove (q := ⟨X, 0, none⟩) h.hrX).setAbove (q := ⟨X, 1, none⟩) h.hrX⟩, (h.fr.setNew (p := ⟨X, 0, none⟩) hX _).setNew (p := ⟨X, 1, none⟩) hX _⟩

theorem WS.spoil1 {B r X m j : Nat} {w0 w : World} {v1 v2 v3 v4 u x1 x2 x3 x4 : Value} {d d' : Wd} (h : WS B r w0 X m v1 v2 v3 v4 d w) (hj : (#[v1, v2, v3, v4] : Array Value).setIfInBounds j u = #[x1, x2, x3, x4]) (hd : WdR w0.heap.size w x1 x2 x3 x4 d') (hi : WdB d') :
  WF B r w0 X m x1 x2 x3 x4 d' (w.setCell ⟨X, j, none⟩ u) := by
 obtain ⟨q, h1, h2⟩ := h.rd
 have hX := h.hX
 have FT := (Fr.refl 0 [30] w).setOld (p := ⟨X, j, none⟩) h.xb (Nat.zero_le _) (by simp [otag]) u
 exact ⟨h.hB, h.hr, h.hX, h.hrX, by rw [← hj]; exact block_set h.xb j u, hd.tk FT (by simp [Apt]), hi, ⟨q, h1, h2.setAbove (q := ⟨X, j, none⟩) h.hrX⟩, h.fr.setNew (p := ⟨X, j, none⟩) hX _⟩

theorem ShsOwn.set {lo g n cap k : Nat} {w : World} {u : Value} {ss : List (List Rc)} {rs : List Rc} (h : ShsOwn lo w (.slice (some ⟨g, 0, none⟩) n cap) ss) (hk : k < ss.length) (hu : RecsR (new lo) w u rs) : ShsOwn lo (w.setCell ⟨g, k, none⟩ u) (.slice (some ⟨g, 0, none⟩) n cap) (ss.set k rs) := by
 obtain ⟨zs, rfl, h2, h3⟩ := h
 have hz : k < zs.length := by simpa using hk
 obtain ⟨cur, hcur⟩ := own_tag' h2 (k := g) rfl
 have hf : Fr 0 [81] w (w.setCell ⟨g, k, none⟩ u) := (Fr.refl 0 _ w).setOld (p := ⟨g, k, none⟩) hcur (Nat.zero_le _) (by simp [otag]) _
 refine ⟨zs.set k (rs, u), by rw [List.map_set], ?_, fun z hz' => ?_⟩
 ·have hn : n = zs.length := by
   rcases h2.2 with ⟨hh, _⟩ | ⟨_, _, _, hh, _⟩
   ·cases hh
   ·cases hh; simp
  subst hn
  rw [List.length_map] at h2
  have := (World.ownsRow.stored h2 k u).1
  rw [List.map_set, List.length_set, List.length_map]
  exact this
 ·rcases List.mem_or_eq_of_mem_set hz' with h | rfl
  ·exact (h3 z h).tk hf (by simp) (by simp)
  ·exact hu.tk hf (by simp) (by simp)

theorem WS.spoilS {B r X m g n cap k : Nat} {w0 w : World} {v1 v2 v4 u : Value} {d : Wd} {rs : List Rc} (h : WS B r w0 X m v1 v2 (.slice (some ⟨g, 0, none⟩) n cap) v4 d w) (hk : k < d.shards.length) (hu : RecsR (new w0.heap.size) w u rs) (hb : ShB rs) :
  WF B r w0 X m v1 v2 (.slice (some ⟨g, 0, none⟩) n cap) v4 ⟨d.co, d.shards.set k rs, d.net⟩ (w.setCell ⟨g, k, none⟩ u) := by
 obtain ⟨q, h1, h2⟩ := h.rd
 have hr := h.hr
 obtain ⟨zs, z1, z2, z3⟩ := id h.so
 obtain ⟨cur, hcur⟩ := own_tag' z2 (k := g) rfl
 have hg := (ownsRow_lt z2 g rfl).1
 have ne1 := ne_tag hcur h.xb (by decide)
 have hf : Fr 0 [81] w (w.setCell ⟨g, k, none⟩ u) := (Fr.refl 0 _ w).setOld (p := ⟨g, k, none⟩) hcur (Nat.zero_le _) (by simp [otag]) _
 refine ⟨h.hB, h.hr, h.hX, h.hrX, block_setne h.xb (fun e => ne1 e.symm), ⟨h.co.reads.tk hf (by simp) (by simp) (by simp) (by simp), (h.so.set hk hu).reads, h.no.reads.tk hf (by simp)⟩, ⟨h.wi.1, by simpa using h.wi.b.2.1, fun x hx => ?_, h.wi.b.2.2.2⟩, ⟨q, h1, h2.setAbove (by dsimp only; omega)⟩, h.fr.setNew (by dsimp only; omega) _⟩
 rcases List.mem_or_eq_of_mem_set hx with h' | rfl
 ·exact h.wi.b.2.2.1 x h'
 ·exact hb

theorem ShardsR.two {lo n cap : Nat} {w : World} {a : Option Addr} {ss : List (List Rc)} (h : ShardsR lo w (.slice a n cap) ss) (h2 : 2 ≤ ss.length) : ShardsR lo w (.slice a 2 cap) (ss.take 2) := by
 obtain ⟨zs, rfl, hs, h3⟩ := h
 have hz : 2 ≤ zs.length := by simpa using h2
 have hl : (zs.take 2).length = 2 := by rw [List.length_take]; omega
 refine ⟨zs.take 2, by rw [List.map_take], ?_, fun z hz => h3 z (List.mem_of_mem_take hz)⟩
 obtain ⟨a', cap', e, l1, l2, l3, l4⟩ := hs
 cases e
 rw [List.length_map] at l1 l2 l3 l4
 have e2 : (List.take 2 (List.map (fun x => x.1) zs)).length = 2 := by rw [List.length_take, List.length_map]; omega
 rw [e2]
 refine ⟨a, cap, rfl, by rw [List.length_map, hl], by omega, fun ha => by have := l3 ha; omega, fun _ => ?_⟩
 obtain ⟨b, off, cur, e, fr, g1, g2, g3, g4⟩ := l4 (by omega)
 refine ⟨b, off, cur, e, fr, g1, g2, g3, fun j u hu => g4 j u ?_⟩
 rw [List.map_take, List.getElem?_take] at hu
 split at hu
 ·exact hu
 ·cases hu

theorem encM_set (ms : List Msg) {j : Nat} (hj : j < ms.length) (b : Bool) : (ms.flatMap encM).set (j * 4 + 3) (.bool b) = (ms.set j { ms[j] with yes := b }).flatMap encM := by
 induction ms generalizing j with
 | nil => simp at hj
 | cons m ms ih =>
  cases j with
  | zero => simp [encM]
  | succ j =>
   have := ih (j := j) (by simpa using hj)
   have e : (j + 1) * 4 + 3 = j * 4 + 3 + 1 + 1 + 1 + 1 := by omega
   simp [List.flatMap_cons, encM, e, this]

theorem NetOwn.cell {lo g n cap j : Nat} {w : World} {ms : List Msg} (h : NetOwn lo w (.slice (some ⟨g, 0, none⟩) n cap) ms) (hj : j < ms.length) :
  w.cell? ⟨g, j * 4 + 3, none⟩ = some (.bool ms[j].yes) ∧ w.frozen? ⟨g, j * 4 + 3, none⟩ = false ∧ lo ≤ g ∧ g < w.heap.size ∧ ∃ cur, w.heap[g]? = some (.cells cur 47 (0, 0)) := by
 obtain ⟨hl, hs⟩ := id h
 rcases hs with ⟨hh, _⟩ | ⟨g', cap', cur, hh, h4, h5, h6, h7, h8, h9⟩
 ·cases hh
 ·cases hh
  refine ⟨?_, free_of h5, h4, lt_of_get h5, cur, h5⟩
  have := World.ownsRow.cellAt h (j * 4 + 3) (by omega)
  rw [this]
  have := fm_get encM 4 (fun _ => rfl) ms j 3 (by omega) hj
  simpa [encM] using this

theorem WS.spoilY {B r X m g n cap j : Nat} {w0 w : World} {v1 v2 v3 : Value} {d : Wd} (h : WS B r w0 X m v1 v2 v3 (.slice (some ⟨g, 0, none⟩) n cap) d w) (hj : j < d.net.length) :
  WF B r w0 X m v1 v2 v3 (.slice (some ⟨g, 0, none⟩) n cap) ⟨d.co, d.shards, d.net.set j { d.net[j] with yes := true }⟩ (w.setCell ⟨g, j * 4 + 3, none⟩ (.bool true)) := by
 obtain ⟨q, h1, h2⟩ := h.rd
 have hr := h.hr
 obtain ⟨c0, c1, c2, c3, cur, hcur⟩ := h.no.cell hj
 have ne1 := ne_tag hcur h.xb (by decide)
 have hf : Fr 0 [47] w (w.setCell ⟨g, j * 4 + 3, none⟩ (.bool true)) := (Fr.refl 0 _ w).setOld (p := ⟨g, j * 4 + 3, none⟩) hcur (Nat.zero_le _) (by simp [otag]) _
 refine ⟨h.hB, h.hr, h.hX, h.hrX, block_setne h.xb (fun e => ne1 e.symm), ⟨h.co.reads.tk hf (by simp) (by simp) (by simp) (by simp), h.so.reads.tk hf (by simp) (by simp) (by simp), ?_⟩, ⟨h.wi.1, h.wi.b.2.1, h.wi.b.2.2.1, by simpa using h.wi.b.2.2.2⟩, ⟨q, h1, h2.setAbove (by dsimp only; omega)⟩, h.fr.setNew (by dsimp only; omega) _⟩
 have hn : n = d.net.length := by
  rcases h.no.2 with ⟨hh, _⟩ | ⟨_, _, _, hh, _⟩
  ·cases hh
  ·cases hh; rfl
 subst hn
 refine NetOwn.reads ?_
 unfold NetOwn
 rw [List.length_set, ← encM_set d.net hj true]
 exact (World.ownsRow.stored h.no (j * 4 + 3) (.bool true)).1

theorem WS.spoilN {B r X m : Nat} {w0 w w' : World} {v1 v2 v3 v4 v4' : Value} {d : Wd} {mk mt mx : Int} {my : Bool} (h : WS B r w0 X m v1 v2 v3 v4 d w) (hown : w'.ownsRow w0.heap.size 47 4 v4' (d.net.length + 1) (d.net.flatMap encM ++ [.int .i64 mk, .int .i64 mt, .int .i64 mx, .bool my]))
  (hf : Fr w0.heap.size [47] w w') : WF B r w0 X m v1 v2 v3 v4' ⟨d.co, d.shards, d.net ++ [⟨mk, mt, mx, my⟩]⟩ (w'.setCell ⟨X, 3, none⟩ v4') := by
 obtain ⟨q, h1, h2⟩ := h.rd
 have hX := h.hX
 have hn := h.wi.2.2.2.1
 have xb := hf.keep _ _ h.xb (.inr (by simp [otag]))
 have FT := (Fr.refl 0 [30] w').setOld (p := ⟨X, 3, none⟩) xb (Nat.zero_le _) (by simp [otag]) v4'
 refine ⟨h.hB, h.hr, h.hX, h.hrX, by simpa using block_set xb 3 v4', WdR.tk (d := ⟨d.co, d.shards, d.net ++ [⟨mk, mt, mx, my⟩]⟩) ⟨h.co.reads.tk hf (by simp) (by simp) (by simp) (by simp), h.so.reads.tk hf (by simp) (by simp) (by simp), ?_⟩ FT (by simp [Apt]), ⟨h.wi.1, h.wi.b.2.1, h.wi.b.2.2.1, by simp; omega⟩, ⟨q, h1, (h2.keep (hf.mono h.hB fun _ h => h) (by simp)).setAbove (q := ⟨X, 3, none⟩) h.hrX⟩, (h.fr.after hf).setNew (p := ⟨X, 3, none⟩) hX _⟩
 refine NetOwn.reads (lo := w0.heap.size) ?_
 unfold NetOwn
 simpa [encM] using hown

theorem WS.start {B r X q m : Nat} {w0 w w2 : World} {v1 v2 v3 v4 : Value} {d : Wd} (hB : B ≤ w0.heap.size) (hr : r < w0.heap.size) (hw : Fr B [86] w0 w) (hR : Rdr B w r q) (hq : q ≤ m) (wi : WdI d) (co : CoOwn w.heap.size w2 v1 v2 d.co) (so : ShsOwn w.heap.size w2 v3 d.shards) (no : NetOwn w.heap.size w2 v4 d.net) (fr : Fr w.heap.size [] w w2) (hX : X = w2.heap.size) :
  WS B r w0 X m v1 v2 v3 v4 d (w2.alloc (.cells #[v1, v2, v3, v4] 30)) := by
 have hs := hw.size
 have hs2 := fr.size
 have fa : Fr B [] w2 (w2.alloc (.cells #[v1, v2, v3, v4] 30)) := (Fr.refl _ _ _).alloc _
 obtain ⟨zs, z1, z2, z3⟩ := so
 refine ⟨hB, hr, by omega, by omega, by rw [hX]; exact heap_alloc_new _ _, (co.lower hs).grow fa, ⟨zs, z1, ownsRow_grow (ownsRow_lo z2 hs) fa, fun z hz => ((z3 z hz).weak (new_low hs)).tk fa (by simp) (by simp)⟩, ownsRow_grow (ownsRow_lo no hs) fa, wi, ⟨q, hq, (hR.keep (fr.nil (B' := B) (T := [])) (by simp)).keep fa (by simp)⟩, (hw.trans fr.nil).trans fa.nil⟩

end Go.Proofs.YtknoanpgadecbaaGreatDoor
