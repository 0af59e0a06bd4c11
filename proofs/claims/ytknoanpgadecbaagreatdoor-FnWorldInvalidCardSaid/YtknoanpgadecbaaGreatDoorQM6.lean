/- A coordinator in memory of one's own, its votes apart from its order. -/
import Derived.Test.YtknoanpgadecbaaGreatDoorQCoCopy2
import Derived.Test.YtknoanpgadecbaaGreatDoorQM3
import Derived.Test.YtknoanpgadecbaaGreatDoorQDraw2
import Derived.Deep.DeepCutAuto
import Derived.Test.YtknoanpgadecbaaGreatDoorQDraw4
import Derived.Test.YtknoanpgadecbaaGreatDoorQIAdd
import Derived.Test.YtknoanpgadecbaaGreatDoorQM2
import Derived.Test.YtknoanpgadecbaaGreatDoorQM4
import Derived.Deep.DeepMust
set_option linter.unusedVariables false
set_option linter.unusedSimpArgs false
namespace Go.Proofs.YtknoanpgadecbaaGreatDoor
open Go.RowKit
set_option linter.unusedVariables false

def CoOwn (lo : Nat) (w : World) (v1 v2 : Value) (c : Co) : Prop :=
 ∃ zs : List (Tn × (Value × Value)), zs.map (·.1) = c.txns ∧ w.ownsRow lo 74 3 v1 c.txns.length (zs.flatMap encT) ∧ OwnV lo w v2 c.order ∧
  ∀ z ∈ zs, PartsR lo w z.2.1 z.1.parts ∧ OwnV lo w z.2.2 z.1.votes ∧ ∀ b, z.2.2.ownBlock = some b → v2.ownBlock ≠ some b

theorem CoOwn.reads {lo : Nat} {w : World} {v1 v2 : Value} {c : Co} (h : CoOwn lo w v1 v2 c) : CoR lo w v1 v2 c := by
 obtain ⟨zs, h1, h2, h3, h4⟩ := h
 exact ⟨⟨zs, h1, SlR.ofOwns h2, fun z hz => ⟨(h4 z hz).1, (h4 z hz).2.1.reads⟩⟩, h3.reads⟩

theorem CoOwn.tk {lo B : Nat} {T : List Nat} {w w' : World} {v1 v2 : Value} {c : Co} (h : CoOwn lo w v1 v2 c) (hf : Fr B T w w') (h0 : 74 ∉ T) (h1 : 76 ∉ T) (h2 : 97 ∉ T) (h3 : 3 ∉ T) : CoOwn lo w' v1 v2 c := by
 obtain ⟨zs, g1, g2, g3, g4⟩ := h
 exact ⟨zs, g1, ownsRow_keep g2 hf h0, g3.tk hf h3, fun z hz => ⟨(g4 z hz).1.tk hf h1 h2, (g4 z hz).2.1.tk hf h3, (g4 z hz).2.2⟩⟩

theorem CoOwn.grow {lo B : Nat} {w w' : World} {v1 v2 : Value} {c : Co} (h : CoOwn lo w v1 v2 c) (hf : Fr B [] w w') : CoOwn lo w' v1 v2 c := h.tk hf (by simp) (by simp) (by simp) (by simp)

theorem CoOwn.lower {lo lo' : Nat} {w : World} {v1 v2 : Value} {c : Co} (h : CoOwn lo w v1 v2 c) (hl : lo' ≤ lo) : CoOwn lo' w v1 v2 c := by
 obtain ⟨zs, g1, g2, g3, g4⟩ := h
 exact ⟨zs, g1, ownsRow_lo g2 hl, g3.lower hl, fun z hz => ⟨(g4 z hz).1.lower hl, (g4 z hz).2.1.lower hl, (g4 z hz).2.2⟩⟩

theorem CoOwn.nil (lo : Nat) (w : World) : CoOwn lo w (.slice none 0 0) (.slice none 0 0) ⟨[], []⟩ :=
 ⟨[], rfl, World.ownsRow_nil _ _ _ _, World.ownsRow_nil _ _ _ _, fun z hz => by cases hz⟩

theorem CoOwn.ofM {lo m : Nat} {w : World} {v1 v2 : Value} {c : Co} (h : TxnsOwnM lo m w v1 c.txns) (ho : OwnV lo w v2 c.order) (hb : ∀ b, v2.ownBlock = some b → b < m) (hm : lo ≤ m) : CoOwn lo w v1 v2 c := by
 obtain ⟨zs, h1, h2, h3⟩ := h
 exact ⟨zs, h1, h2, ho, fun z hz => ⟨(h3 z hz).1, (h3 z hz).2.lower hm, fun b hz' e => by
  have := (ownsRow_lt (h3 z hz).2 b hz').1
  have := hb b e
  omega⟩⟩

theorem own_new {X n c S : Nat} {v2 : Value} (h : ∀ b, v2.ownBlock = some b → b < S) (hX : S ≤ X) : ∀ b, (Value.slice (some ⟨X, 0, none⟩) n c).ownBlock = some b → v2.ownBlock ≠ some b := fun b hb e => by
 have := h b e
 simp [Value.ownBlock] at hb
 omega

theorem CoOwn.snoc {lo n : Nat} {w' : World} {v' v2 : Value} {c : Co} {t : Tn} {u1 u2 : Value} {zs : List (Tn × (Value × Value))} (g1 : zs.map (·.1) = c.txns)
  (g3 : ∀ z ∈ zs, PartsR lo w' z.2.1 z.1.parts ∧ OwnV lo w' z.2.2 z.1.votes ∧ ∀ b, z.2.2.ownBlock = some b → v2.ownBlock ≠ some b)
  (hu1 : PartsR lo w' u1 t.parts) (hu2 : OwnV lo w' u2 t.votes) (hu3 : ∀ b, u2.ownBlock = some b → v2.ownBlock ≠ some b) (ho : OwnV lo w' v2 c.order) (hn : n = c.txns.length)
  (hown : w'.ownsRow lo 74 3 v' (n + 1) (zs.flatMap encT ++ [u1, u2, .int .i64 t.dec])) : CoOwn lo w' v' v2 ⟨c.txns ++ [t], c.order⟩ := by
 subst hn
 refine ⟨zs ++ [(t, (u1, u2))], by simp [g1], ?_, ho, fun z hz => ?_⟩
 ·simp only [List.length_append]
  rw [List.flatMap_append]
  simpa [encT] using hown
 ·rcases List.mem_append.1 hz with hz | hz
  ·exact g3 z hz
  ·simp at hz
   subst hz
   exact ⟨hu1, hu2, hu3⟩

theorem CoOwn.storeD {lo g n cap : Nat} {w : World} {v2 : Value} {c : Co} (h : CoOwn lo w (.slice (some ⟨g, 0, none⟩) n cap) v2 c) {i : Nat} (hi : i < c.txns.length) (d : Int) :
  CoOwn lo (w.setCell ⟨g, i * 3 + 2, none⟩ (.int .i64 d)) (.slice (some ⟨g, 0, none⟩) n cap) v2 ⟨c.txns.set i { c.txns[i] with dec := d }, c.order⟩ := by
 obtain ⟨ts, os⟩ := c
 obtain ⟨zs, rfl, h2, ho, h3⟩ := h
 have hz : i < zs.length := by simpa using hi
 obtain ⟨cur, hcur⟩ := own_tag' h2 (k := g) rfl
 have hf : Fr 0 [74] w (w.setCell ⟨g, i * 3 + 2, none⟩ (.int .i64 d)) := (Fr.refl 0 _ w).setOld (p := ⟨g, i * 3 + 2, none⟩) hcur (Nat.zero_le _) (by simp [otag]) _
 refine ⟨zs.set i ({ zs[i].1 with dec := d }, zs[i].2), ?_, ?_, ho.tk hf (by simp), ?_⟩
 ·rw [List.map_set]; simp
 ·have hn : n = zs.length := by
   rcases h2.2 with ⟨hh, _⟩ | ⟨_, _, _, hh, _⟩
   ·cases hh
   ·cases hh; simp
  subst hn
  simp only [List.length_map] at h2
  have := (World.ownsRow.stored h2 (i * 3 + 2) (.int .i64 d)).1
  rw [encT_set zs hz d] at this
  simpa using this
 ·intro z hz'
  have hz0 : ∀ y ∈ zs, PartsR lo (w.setCell ⟨g, i * 3 + 2, none⟩ (.int .i64 d)) y.2.1 y.1.parts ∧ OwnV lo (w.setCell ⟨g, i * 3 + 2, none⟩ (.int .i64 d)) y.2.2 y.1.votes ∧ ∀ b, y.2.2.ownBlock = some b → v2.ownBlock ≠ some b := fun y hy =>
   ⟨(h3 y hy).1.tk hf (by simp) (by simp), (h3 y hy).2.1.tk hf (by simp), (h3 y hy).2.2⟩
  rcases List.mem_or_eq_of_mem_set hz' with h | rfl
  ·exact hz0 z h
  ·have := hz0 zs[i] (List.getElem_mem hz)
   exact this

theorem ints_lit4 (w : World) (a b c d : Int) : IntsR (new w.heap.size) (w.alloc (.cells #[.int .i64 a, .int .i64 b, .int .i64 c, .int .i64 d] 3)) (.slice (some ⟨w.heap.size, 0, none⟩) 4 4) [a, b, c, d] := by
 have := SlR.ofOwns (World.ownsRow_lit (base := w.heap.size) (e := 3) (size := 1) w #[.int .i64 a, .int .i64 b, .int .i64 c, .int .i64 d] 4 (Nat.le_refl _) (by decide) (by simp))
 exact this

theorem pk_lt {k : Nat} {n : Int} (h : k = 0 ∨ (k : Int) < n) (h0 : 0 < n) : (k : Int) < n := by omega

structure PrS (B r : Nat) (w0 : World) (m : Nat) (v : Value) (ps : List Pt) (w : World) : Prop where
 own : PartsOwn w0.heap.size w v ps
 len : ps.length ≤ 5
 ups : ∀ p ∈ ps, p.ups.length ≤ 8
 rd : ∃ q, q ≤ m ∧ Rdr B w r q
 fr : Fr B [86] w0 w

theorem PartsOwn.keep {lo B : Nat} {T : List Nat} {w w' : World} {v : Value} {ps : List Pt} (h : PartsOwn lo w v ps) (hf : Fr B T w w') (h1 : 76 ∉ T) (h2 : 97 ∉ T) : PartsOwn lo w' v ps := by
 obtain ⟨zs, g1, g2, g3⟩ := h
 exact ⟨zs, g1, ownsRow_keep g2 hf h1, fun z hz => (g3 z hz).tk hf h2⟩

theorem PrS.pick {B r m : Nat} {w0 w : World} {v : Value} {ps : List Pt} (n : Int) (h : PrS B r w0 m v ps w) (hm : m ≤ 1000000000) :
  Calls Tryz.prog 34 #[.pointer (some ⟨r, 0, none⟩), .int .i64 n] w fun e w' => ∃ k : Nat, e = .returned (.int .i64 (k : Int)) ∧ (k = 0 ∨ (k : Int) < n) ∧ PrS B r w0 (m + 1) v ps w' := by
 obtain ⟨q, h1, h2⟩ := h.rd
 refine (pick_at (n := n) h2 (by omega)).mono ?_
 rintro e w' ⟨k, rfl, hk, hR, hf⟩
 exact ⟨k, rfl, hk, ⟨h.own.keep hf (by simp) (by simp), h.len, h.ups, ⟨_, by omega, hR⟩, h.fr.trans hf⟩⟩

theorem PrS.more {B r m m' : Nat} {w0 w : World} {v : Value} {ps : List Pt} (h : PrS B r w0 m v ps w) (hm : m ≤ m') : PrS B r w0 m' v ps w := by
 obtain ⟨q, h1, h2⟩ := h.rd
 exact ⟨h.own, h.len, h.ups, ⟨q, by omega, h2⟩, h.fr⟩

theorem PrS.upd {B r m : Nat} {w0 w : World} {v : Value} {ps : List Pt} (h : PrS B r w0 m v ps w) (hm : m ≤ 999990000) :
  Calls Tryz.prog 78 #[.pointer (some ⟨r, 0, none⟩), .slice (some ⟨w.heap.size, 0, none⟩) 4 4] (w.alloc (.cells #[.int .i64 (-1), .int .i64 0, .int .i64 1, .int .i64 2] 3)) fun e w' =>
   ∃ ua n ucap us, e = .returned (.slice ua n ucap) ∧ n = us.length ∧ us.length ≤ 8 ∧ UpsR (new w0.heap.size) w' (.slice ua n ucap) us ∧ PrS B r w0 (m + 40) v ps w' := by
 obtain ⟨q, h1, h2⟩ := h.rd
 refine (l92Updates_any (lo := w.heap.size) (refs := [-1, 0, 1, 2]) (h2.alloc _) (by omega) (ints_lit4 w _ _ _ _) (by simp)).mono ?_
 rintro e w' ⟨u, us, q', rfl, hu, hul, hR, hq, hf⟩
 obtain ⟨ua, ucap, rfl, _, _⟩ := hu.shape
 have hsz := h.fr.size
 exact ⟨ua, _, ucap, us, rfl, rfl, hul, hu.weak (new_low (by simp; omega)), ⟨(h.own.keep ((Fr.refl B [] w).alloc _) (by simp) (by simp)).keep hf (by simp) (by simp), h.len, h.ups, ⟨_, by omega, hR⟩, (h.fr.alloc _).trans hf⟩⟩

theorem PrS.push {B r m : Nat} {w0 w w' : World} {v v' : Value} {ps : List Pt} {x : Int} {u : Value} {us : List Upd} {zs : List (Pt × Value)} (h : PrS B r w0 m v ps w) (hB : B ≤ w0.heap.size) (hu : UpsR (new w0.heap.size) w u us) (hul : us.length ≤ 8) (hl : ps.length < 5)
  (z1 : zs.map (·.1) = ps) (z3 : ∀ z ∈ zs, UpsR (new w0.heap.size) w z.2 z.1.ups) (hown : w'.ownsRow w0.heap.size 76 2 v' (ps.length + 1) (zs.flatMap encP ++ [.int .i64 x, u])) (hf : Fr w0.heap.size [76] w w') : PrS B r w0 m v' (ps ++ [⟨x, us⟩]) w' := by
 obtain ⟨q, h1, h2⟩ := h.rd
 refine ⟨PartsOwn.snoc (p := ⟨x, us⟩) z1 (fun z hz => (z3 z hz).tk hf (by simp)) (hu.tk hf (by simp)) rfl hown, by simp; omega, fun p hp => ?_, ⟨q, h1, h2.keep (hf.mono hB fun _ h => h) (by simp)⟩, h.fr.after hf⟩
 rcases List.mem_append.1 hp with hp | hp
 ·exact h.ups p hp
 ·obtain rfl := List.mem_singleton.1 hp
  exact hul

def DrawP (B r p : Nat) (w : World) (e : Ending) (w' : World) : Prop :=
 ∃ v ps, e = .returned v ∧ PrS B r w (p + 300) v ps w'

set_option maxRecDepth 20000 in
set_option maxHeartbeats 4000000 in
theorem l92Parts_any {B r p : Nat} {w : World} (hR : Rdr B w r p) (hp : p ≤ 999980000) :
  Calls Tryz.prog 73 #[.pointer (some ⟨r, 0, none⟩)] w (DrawP B r p w) := by
 obtain ⟨ip, hpi, hpz0, hpz1, hpz2⟩ := info_parts infoP
 have hB : B ≤ w.heap.size := Nat.le_trans hR.1 (Nat.le_of_lt hR.lt)
 have S0 := hid (show PrS B r w p (.slice (some ⟨w.heap.size, 0, none⟩) 0 0) [] (w.alloc (.cells #[] 76)) from ⟨PartsOwn.empty, by simp, fun p hp => (by cases hp), ⟨p, Nat.le_refl _, hR.alloc _⟩, (Fr.refl _ _ _).alloc _⟩)
 clear hR
 go_enter Tryz.func73, Tryz.ntmps73
 go_wp2
 go_loopw [3, 4] (fun v i wr => ∃ (k : Nat) (ps : List Pt), k ≤ 3 ∧ i = .int .i64 k ∧ ps.length ≤ k ∧ PrS B r w (p + 60 * k) v ps wr) (fun _ i _ => 3 - (intOf i).toNat)
 case atStart => exact ⟨0, [], by omega, rfl, by simp, S0.out.more (by omega)⟩
 case round =>
  obtain ⟨k, ps, hk, rfl, hpl, hs⟩ := hrel
  obtain ⟨oa, ocap, rfl, _, _⟩ := hs.own.reads.shape
  have S := hid hs
  have hsz := hs.fr.size
  clear hs
  by_cases hlt : k < 3
  ·have hki : (k : Int) < 3 := by omega
   go_wp2_with (first
    | (go_at_call 34; go_must (refine (S.out.pick 2 (by omega)).mono ?_; rintro e w1 ⟨k1, rfl, hk1, s1⟩; have S1 := hid s1; clear s1))
    | (go_at_call 78; go_must (refine (S1.out.upd (by omega)).mono ?_; rintro e w2 ⟨ua, n, ucap, us, rfl, hn, hul, hu, s2⟩; have S2 := hid s2; have HU := hid hu; have HN := hid hn; obtain ⟨zs, z1, z2, z3⟩ := s2.own; have Z1 := hid z1; have Z2 := hid z2; have Z3 := hid z3; have hs2 := s2.fr.size; clear s2 hu hn z1 z2 z3))
    | (at_builtin; go_must (refine wpList_push rfl (.tmp 13) (.tmp 19) 72 rfl w.heap.size 76 ip (.agg #[.int .i64 0, .slice none 0 0]) 2 32 Tryz.underlying72 hpi hpz0 hpz1 hpz2 rfl (by decide) _ _ _ Z2.out rfl (oneP _ _ _ _) (by unfold maxLen; omega) (by omega) hs2 (by rfl) _ (by rfl) (by simp [World.setCell]) ?_; intro v5 w5 own5 fr5 _)))
   ·go_roundw
    case rel => exact ⟨k + 1, ps ++ [⟨k, us⟩], by omega, by go_num, by simp; omega, (S2.out.push hB HU.out hul (by omega) Z1.out Z3.out own5 fr5).more (by omega)⟩
    case measure => simp [intOf]; omega
   ·go_roundw
    case rel => exact ⟨k + 1, ps, by omega, by go_num, by omega, S1.out.more (by omega)⟩
    case measure => simp [intOf]; omega
  ·obtain rfl : k = 3 := by omega
   go_upto_if 23 with fail
   go_cut [3] (fun v wx => ∃ ps' : List Pt, ps'.length ≤ 4 ∧ PrS B r w (p + 230) v ps' wx)
   case first =>
    go_wp2_with (first
     | (go_at_call 34; go_must (refine (S.out.pick 3 (by omega)).mono ?_; rintro e w1 ⟨k1, rfl, hk1, s1⟩; have hk1' := pk_lt hk1 (by decide); have S1 := hid s1; clear s1))
     | (go_at_call 78; go_must (refine (S1.out.upd (by omega)).mono ?_; rintro e w2 ⟨ua, n, ucap, us, rfl, hn, hul, hu, s2⟩; have S2 := hid s2; have HU := hid hu; have HN := hid hn; obtain ⟨zs, z1, z2, z3⟩ := s2.own; have Z1 := hid z1; have Z2 := hid z2; have Z3 := hid z3; have hs2 := s2.fr.size; clear s2 hu hn z1 z2 z3))
     | (at_builtin; go_must (refine wpList_push rfl (.tmp 24) (.tmp 31) 72 rfl w.heap.size 76 ip (.agg #[.int .i64 0, .slice none 0 0]) 2 32 Tryz.underlying72 hpi hpz0 hpz1 hpz2 rfl (by decide) _ _ _ Z2.out rfl (oneP _ _ _ _) (by unfold maxLen; omega) (by omega) hs2 (by rfl) _ (by rfl) (by simp [World.setCell]) ?_; intro v5 w5 own5 fr5 _)))
    all_goals go_meet
    ·exact ⟨ps ++ [⟨k1, us⟩], by simp; omega, (S2.out.push hB HU.out hul (by omega) Z1.out Z3.out own5 fr5).more (by omega)⟩
    ·exact ⟨ps, by omega, S.out.more (by omega)⟩
   case rest =>
    obtain ⟨ps', hpl', hs⟩ := hcut
    obtain ⟨oa', ocap', rfl, _, _⟩ := hs.own.reads.shape
    have S := hid hs
    clear hs
    go_wp2_with (first
     | (go_at_call 34; (with_reducible refine (S.out.pick 24 (by omega)).mono ?_); go_must (rintro e w1 ⟨k1, rfl, hk1, s1⟩; have S1 := hid s1; clear s1))
     | (go_at_call 34; go_must (refine (S1.out.pick 4 (by omega)).mono ?_; rintro e w2 ⟨k2, rfl, hk2, s2⟩; have S2 := hid s2; obtain ⟨zs, z1, z2, z3⟩ := s2.own; have Z1 := hid z1; have Z2 := hid z2; have Z3 := hid z3; have hs2 := s2.fr.size; clear s2 z1 z2 z3))
     | (at_builtin; go_must (refine wpList_push rfl (.tmp 36) (.tmp 40) 72 rfl w.heap.size 76 ip (.agg #[.int .i64 0, .slice none 0 0]) 2 32 Tryz.underlying72 hpi hpz0 hpz1 hpz2 rfl (by decide) _ _ _ Z2.out rfl (oneP _ _ _ _) (by unfold maxLen; omega) (by omega) hs2 (by rfl) _ (by rfl) (by simp [World.setCell]) ?_; intro v5 w5 own5 fr5 _)))
    ·go_ret
     exact ⟨_, ps' ++ [⟨k2, []⟩], rfl, (S2.out.push hB (us := []) (u := .slice none 0 0) (SlR.nil _ _ _ _) (by simp) (by omega) Z1.out Z3.out own5 fr5).more (by omega)⟩
    ·go_ret
     exact ⟨_, ps', rfl, S1.out.more (by omega)⟩

theorem Bytes.up {B B' : Nat} {T : List Nat} {w w' : World} {a : Option Addr} {n cap : Nat} (h : Bytes B w a n cap) (hf : Fr B T w w') (hB : B ≤ B') : Bytes B' w' a n cap := by
 refine ⟨h.1, fun hn => ?_⟩
 obtain ⟨b, off, h1, h2, h3⟩ := h.2 hn
 exact ⟨b, off, h1, Nat.lt_of_lt_of_le h2 hB, fun i hi => by
  obtain ⟨c, hc, hcc⟩ := h3 i hi
  exact ⟨c, hc, hf.cell h2 hcc⟩⟩

theorem own_four {lo g : Nat} {w : World} {cs : List Value} (h : w.ownsRow lo 3 1 (.slice (some ⟨g, 0, none⟩) 4 4) 4 cs) : w.heap[g]? = some (.cells cs.toArray 3 (0, 0)) := by
 rcases h.2 with ⟨h1, _⟩ | ⟨g', cap, cur, h1, hg, hh, hn, hm, hs, ht⟩
 ·cases h1
 ·cases h1
  have : cur = cs.toArray := by
   rw [← ht]
   have hl : cur.toList.length = 4 := by simpa using hs
   rw [List.take_of_length_le (by omega)]
  rw [← this]; exact hh

theorem HistNew.hist {lo lo' : Nat} {w : World} {h l m : Nat} (hh : HistNew lo w h l m) (hl : lo' ≤ lo) (rs : List Rc) : Hist lo' w h l m 0 St.begin (fun t => lastTo rs t 0) := by
 obtain ⟨p1, p2, p3, p4, p5, p6⟩ := hh
 exact ⟨by omega, by omega, by omega, rfl, rfl, p4, own_four p6, _, MapF.empty p5, fun t => trivial⟩

theorem lastTo_upd {rs : List Rc} {k : Nat} (h : k < rs.length) : (fun t => lastTo rs t (k + 1)) = upd (fun t => lastTo rs t k) rs[k].txn rs[k] := by
 funext t
 rw [lastTo_succ h]
 unfold upd
 by_cases e : t = rs[k].txn
 ·rw [if_pos e, if_pos e.symm]
 ·rw [if_neg e, if_neg (fun h => e h.symm)]

def ReadP (w : World) (rs : List Rc) (e : Ending) (w' : World) : Prop :=
 ∃ h : Nat, e = .returned (.tuple #[.pointer (some ⟨h, 0, none⟩), .bool (valid rs)]) ∧ (∀ s, recover rs = some s → ∃ l m, Hist w.heap.size w' h l m rs.length s (fun t => lastTo rs t rs.length)) ∧ Fr w.heap.size [] w w'

set_option maxRecDepth 20000 in
set_option maxHeartbeats 1000000 in
theorem read_any (K : Nat → Bool → Prop) (v : Value) (rs : List Rc) (w : World) (hv : RecsR K w v rs) (hs : Small rs) (hnc : NC rs) :
  Calls Tryz.prog 65 #[.agg #[v]] w (ReadP w rs) := by
 obtain ⟨a, cap, rfl, hcap, hcell⟩ := (hv.weak (K' := old w.heap.size) (fun b t hb _ => hb)).shape
 have HC := hid hcell
 have HS := hid hs
 have HN := hid hnc
 have hsl := hs.1
 clear hv hcell hs hnc
 go_enter Tryz.func65, Tryz.ntmps65
 go_wp2_with (go_at_call 105; go_must (refine (newHistory_any _).mono ?_; rintro e w1 ⟨h, l, m, rfl, hn, fr1⟩; have B1 := hid (fr1.keep _ _ (heap_alloc_new w (.cells #[.slice a rs.length cap] 81)) (.inr (by simp))); have c0 := cell_of (o := 0) B1.out rfl; have H1 := hid (hn.hist (lo' := w.heap.size) (by simp) rs); have F1 := hid ((((Fr.refl w.heap.size histT w).alloc (.cells #[.slice a rs.length cap] 81)).trans fr1.nil)); clear hn fr1))
 go_loopw [11] (fun i wr => ∃ (k : Nat) (s : St), k ≤ rs.length ∧ i = .int .i64 k ∧ recTo rs k = some s ∧ Hist w.heap.size wr h l m k s (fun t => lastTo rs t k) ∧ wr.heap[w.heap.size]? = some (.cells #[.slice a rs.length cap] 81 (0, 0)) ∧ Fr w.heap.size histT w wr) (fun i _ => rs.length - (intOf i).toNat)
 case atStart => exact ⟨0, _, Nat.zero_le _, rfl, rfl, H1.out, B1.out, F1.out⟩
 case round =>
  clear c0
  obtain ⟨k, s, hk, rfl, hrec, hh, hb, hfr⟩ := hrel
  have HR := hid hrec
  have HH := hid hh
  have B := hid hb
  have c0 := cell_of (o := 0) hb rfl
  clear hrec hh hb
  by_cases hlt : k < rs.length
  ·rcases HC.out with rfl | ⟨b, off, rfl, hbs, hcell⟩
   ·simp at hlt
   ·obtain ⟨u, h0, h1, h2, h3⟩ := hcell k hlt
    obtain ⟨ua, ucap, rfl, _, _⟩ := h3.shape
    have k0 := hfr.cell hbs h0
    have k1 := hfr.cell hbs h1
    have k2 := hfr.cell hbs h2
    have HU := hid (h3.keep hfr (Safe.old (Nat.le_refl _)))
    have HI := hid (istep_eq HR.out hk rs[k])
    have hul := HS.out.2 _ (List.getElem_mem hlt)
    have HLU := hid (lastTo_upd hlt)
    have HRS := hid (recTo_succ HR.out hlt)
    clear h0 h1 h2 h3 hcell
    have HB2 := hid (heap_up B.out (.cells #[.int .i64 rs[k].kind, .int .i64 rs[k].txn, .slice ua rs[k].ups.length ucap] 94))
    rcases hi : istepO (lastTo rs rs[k].txn k) s rs[k] with _ | s'
    ·have hz := hid (show recover rs = none from recTo_none (by rw [HRS.out, ← HI.out, hi]) _ hlt)
     have HII := hid hi
     clear hi
     go_wp2_with (go_at_call 102; go_must (refine (add_any w.heap.size h l m k s (fun t => lastTo rs t k) _ rs[k] _ (HH.out.grow ((Fr.refl 0 [] wr).alloc _)) (by omega) hul (HU.out.grow ((Fr.refl 0 [] wr).alloc _)) (HN.out k hlt s HR.out)).mono ?_; rintro e w2 ⟨x, rfl, hx, hs2, fr2⟩; rw [HII.out] at hx; subst hx; clear hs2))
     go_ret2
     exact ⟨h, by rw [valid_none hz.out]; rfl, fun s hs => (by rw [hz.out] at hs; cases hs), Fr.fresh ((hfr.alloc _).trans fr2)⟩
    ·have hz := hid (show recTo rs (k + 1) = some s' by rw [HRS.out, ← HI.out, hi])
     have HII := hid hi
     clear hi
     go_wp2_with (go_at_call 102; go_must (refine (add_any w.heap.size h l m k s (fun t => lastTo rs t k) _ rs[k] _ (HH.out.grow ((Fr.refl 0 [] wr).alloc _)) (by omega) hul (HU.out.grow ((Fr.refl 0 [] wr).alloc _)) (HN.out k hlt s HR.out)).mono ?_; rintro e w2 ⟨x, rfl, hx, hs2, fr2⟩; rw [HII.out] at hx; subst hx; have H2 := hid (hs2 s' HII.out); clear hs2))
     go_roundw
     case rel => exact ⟨k + 1, s', by omega, by go_num, hz.out, by rw [HLU.out]; exact H2.out, fr2.keep _ _ HB2.out (.inr (by simp [otag])), (hfr.alloc _).trans fr2⟩
     case measure => simp [intOf]; omega
  ·obtain rfl : k = rs.length := by omega
   have HV := hid (valid_some (s := s) HR.out)
   have hdl : decide ((rs.length : Int) ≤ 30) = decide (rs.length ≤ 30) := decide_eq_decide.2 (by omega)
   have HD := hid hdl
   clear hdl
   go_wp2
   go_quiet (fail)
   go_wp2
   go_ret2
   exact ⟨h, by rw [HV.out, ← HD.out]; rfl, fun s' hs => (by rw [show recover rs = some s from HR.out] at hs; cases hs; exact ⟨l, m, HH.out.grow ((Fr.refl 0 [] wr).drewN _)⟩), Fr.fresh (hfr.drewN _)⟩

set_option maxRecDepth 20000 in
set_option maxHeartbeats 1000000 in
theorem implShardValid_any (K : Nat → Bool → Prop) (v : Value) (rs : List Rc) (w : World) (hv : RecsR K w v rs) (hs : Small rs) (hnc : NC rs) :
  Calls Tryz.prog 43 #[.agg #[v]] w fun e w' => e = .returned (.bool (valid rs)) ∧ Fr w.heap.size [] w w' := by
 obtain ⟨a, cap, rfl, hcap, -⟩ := hv.shape
 have HV := hid hv
 have HS := hid hs
 have HN := hid hnc
 clear hv hs hnc
 have F0 := hid ((Fr.refl w.heap.size [] w).alloc (.cells #[.slice a rs.length cap] 81))
 go_enter Tryz.func43, Tryz.ntmps43
 go_wp2_with (go_at_call 65; go_must (refine (read_any K _ rs _ (HV.out.grow F0.out) HS.out HN.out).mono ?_; rintro e w1 ⟨h, he, hh, fr1⟩; subst he; have F1 := hid (F0.out.trans fr1.nil); clear hh fr1))
 go_ret
 exact ⟨rfl, F1.out⟩

set_option maxRecDepth 20000 in
set_option maxHeartbeats 1000000 in
theorem notShard_any (K : Nat → Bool → Prop) (v : Value) (rs : List Rc) (w : World) (hv : RecsR K w v rs) (hs : Small rs) (hnc : NC rs) :
  Calls Tryz.prog 42 #[.agg #[v]] w fun e w' => e = .returned (.bool (!valid rs)) ∧ Fr w.heap.size [] w w' := by
 obtain ⟨a, cap, rfl, hcap, -⟩ := hv.shape
 have HV := hid hv
 have HS := hid hs
 have HN := hid hnc
 clear hv hs hnc
 have F0 := hid ((Fr.refl w.heap.size [] w).alloc (.cells #[.slice a rs.length cap] 81))
 go_enter Tryz.func42, Tryz.ntmps42
 go_wp2_with (go_at_call 43; go_must (refine (implShardValid_any K _ rs _ (HV.out.grow F0.out) HS.out HN.out).mono ?_; rintro e w1 ⟨rfl, fr1⟩; have F1 := hid (F0.out.trans fr1.nil)))
 go_ret
 exact ⟨rfl, F1.out⟩

set_option maxRecDepth 20000 in
set_option maxHeartbeats 4000000 in
theorem indexFuncS_any (lo : Nat) (v : Value) (ss : List (List Rc)) (w : World) (hv : ShardsR lo w v ss) (hl : ss.length ≤ 1000000000) (hs : ∀ rs ∈ ss, Small rs ∧ NC rs) (f : Value) (hf : f = .func (.func 42) #[] #[]) :
  Calls Tryz.prog 83 #[v, f] w fun e w' => (∃ i : Int, e = .returned (.int .i64 i) ∧ decide (0 ≤ i) = !ss.all valid) ∧ Fr w.heap.size [] w w' := by
 subst hf
 obtain ⟨a, cap, rfl, hcap, hcell⟩ := hv.shape
 have HS := hid hs
 clear hv hs
 go_enter Tryz.func83, Tryz.ntmps83
 go_wp2
 go_loopw [8] (fun i wr => ∃ k : Nat, k ≤ ss.length ∧ i = .int .i64 k ∧ (ss.take k).all valid = true ∧ Fr w.heap.size [] w wr) (fun i _ => ss.length - (intOf i).toNat)
 case atStart => exact ⟨0, Nat.zero_le _, rfl, rfl, Fr.refl _ _ _⟩
 case round =>
  obtain ⟨k, hk, rfl, hto, hfr⟩ := hrel
  have HT := hid hto
  clear hto
  by_cases hlt : k < ss.length
  ·rcases hcell with rfl | ⟨b, off, rfl, hbs, hcell⟩
   ·simp at hlt
   ·obtain ⟨ra, rcap, h0, hu⟩ := hcell k hlt
    have c0 := hfr.cell hbs h0
    have HU := hid (hu.grow hfr)
    have hki : (k : Int) < (ss.length : Int) := by omega
    obtain ⟨hsm, hnc⟩ := HS.out _ (List.getElem_mem hlt)
    have SM := hid hsm
    have CN := hid hnc
    clear hcell h0 hu hsm hnc
    cases g : valid ss[k]
    ·have G := hid g
     have hz := hid (show ss.all valid = false by rw [List.all_eq_false]; exact ⟨ss[k], List.getElem_mem hlt, by simp [g]⟩)
     clear g
     generalize ss[k] = rs at *
     go_wp2_with (go_at_call 42; go_must (refine (notShard_any _ _ rs _ HU.out SM.out CN.out).mono ?_; rintro e w1 ⟨rfl, fr1⟩; rw [G.out]))
     go_ret
     exact ⟨⟨_, rfl, by rw [hz.out]; simp⟩, hfr.trans fr1.nil⟩
    ·have G := hid g
     have hz := hid (show (ss.take (k + 1)).all valid = true by rw [List.take_succ_eq_append_getElem hlt, List.all_append, HT.out]; simp [g])
     clear g
     generalize ss[k] = rs at *
     go_wp2_with (go_at_call 42; go_must (refine (notShard_any _ _ rs _ HU.out SM.out CN.out).mono ?_; rintro e w1 ⟨rfl, fr1⟩; rw [G.out]))
     go_roundw
     case rel => exact ⟨k + 1, by omega, by go_num, hz.out, hfr.trans fr1.nil⟩
     case measure => simp [intOf]; omega
  ·obtain rfl : k = ss.length := by omega
   have hz := hid (show ss.all valid = true by have := HT.out; rwa [List.take_length] at this)
   clear hcell
   go_wp2
   go_ret
   exact ⟨⟨_, rfl, by rw [hz.out]; rfl⟩, hfr⟩

set_option maxRecDepth 20000 in
set_option maxHeartbeats 1000000 in
theorem containsFuncS_any (lo : Nat) (v : Value) (ss : List (List Rc)) (w : World) (hv : ShardsR lo w v ss) (hl : ss.length ≤ 1000000000) (hs : ∀ rs ∈ ss, Small rs ∧ NC rs) (f : Value) (hf : f = .func (.func 42) #[] #[]) :
  Calls Tryz.prog 41 #[v, f] w fun e w' => e = .returned (.bool (!ss.all valid)) ∧ Fr w.heap.size [] w w' := by
 subst hf
 have HV := hid hv
 have HS := hid hs
 clear hv hs
 go_enter Tryz.func41, Tryz.ntmps41
 go_wp2_with (go_at_call 83; go_must (refine (indexFuncS_any lo _ ss _ HV.out hl HS.out _ rfl).mono ?_; rintro e w1 ⟨⟨i, rfl, hi⟩, fr1⟩; have HI := hid hi; clear hi))
 go_ret
 exact ⟨ret_bool HI.out, fr1⟩

set_option maxRecDepth 20000 in
set_option maxHeartbeats 1000000 in
theorem implShardsOk_any (lo : Nat) (v : Value) (ss : List (List Rc)) (w : World) (hv : ShardsR lo w v ss) (hl : ss.length ≤ 1000) (hs : ∀ rs ∈ ss, Small rs ∧ NC rs) :
  Calls Tryz.prog 14 #[v] w fun e w' => e = .returned (.bool (shsOk ss)) ∧ Fr w.heap.size [] w w' := by
 obtain ⟨a, cap, rfl, hcap, -⟩ := hv.shape
 have HV := hid hv
 have HS := hid hs
 have hl3 : ss.length ≤ 1000000000 := by omega
 by_cases h3 : ss.length = 3
 ·have EN := hid (show shsOk ss = ss.all valid by unfold shsOk; rw [decide_eq_true h3]; simp)
  have hli : ((ss.length : Int) == 3) = true := by rw [h3]; rfl
  clear hv hs hl h3
  go_enter Tryz.func14, Tryz.ntmps14
  go_wp2_with (go_at_call 41; go_must (refine (containsFuncS_any lo _ ss _ HV.out hl3 HS.out _ rfl).mono ?_; rintro e w1 ⟨rfl, fr1⟩))
  go_ret
  exact ⟨ret_bool (by rw [EN.out]), fr1⟩
 ·have EN := hid (show shsOk ss = false by unfold shsOk; rw [decide_eq_false h3]; simp)
  have hli : ((ss.length : Int) == 3) = false := by
   have : ¬ (ss.length : Int) = 3 := by omega
   simpa using this
  clear hv hs hl h3
  go_enter Tryz.func14, Tryz.ntmps14
  go_wp2
  go_ret
  exact ⟨ret_bool (by rw [EN.out]), Fr.refl _ _ _⟩

end Go.Proofs.YtknoanpgadecbaaGreatDoor
