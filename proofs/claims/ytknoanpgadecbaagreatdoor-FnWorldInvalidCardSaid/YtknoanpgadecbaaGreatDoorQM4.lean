/- Snapshots, in plain Lean. -/
import Derived.Test.YtknoanpgadecbaaGreatDoorQCoLaw
import Derived.Test.YtknoanpgadecbaaGreatDoorQHModel
import Derived.Test.YtknoanpgadecbaaGreatDoorQCoSpec2
import Derived.Deep.QuietTactic
import Derived.BigQuiet
import Derived.Test.YtknoanpgadecbaaGreatDoorQM3
import Derived.Deep.RegionHeld3
import Derived.Deep.DeepCutAuto
import Derived.Test.YtknoanpgadecbaaGreatDoorQCoIParts
import Derived.Test.YtknoanpgadecbaaGreatDoorQM2
import Derived.Test.YtknoanpgadecbaaGreatDoorQDraw2
import Derived.Test.YtknoanpgadecbaaGreatDoorQISmall
set_option linter.unusedVariables false
set_option linter.unusedSimpArgs false
namespace Go.Proofs.YtknoanpgadecbaaGreatDoor
open Go.RowKit
set_option linter.unusedVariables false

def shsOk (ss : List (List Rc)) : Bool := ss.all valid && decide (ss.length = 3)

def shAt (ss : List (List Rc)) (x : Int) : List Rc := ss.getD x.toNat []

def haveP (ss : List (List Rc)) (t : Int) (p : Pt) : Bool := ask (shAt ss p.shard) t == 2

def haveTx (c : Co) (ss : List (List Rc)) (t : Int) : Bool := match c.txns[t.toNat]? with
 | some tn => tn.parts.all (haveP ss t)
 | none => true

def readyN (c : Co) (ss : List (List Rc)) : Nat := (c.order.takeWhile (haveTx c ss)).length

def ready (c : Co) (ss : List (List Rc)) : Int := if coOk c && shsOk ss then (readyN c ss : Int) else -1

theorem tw_at {α : Type} (p : α → Bool) (l : List α) (k : Nat) (h : ∀ x ∈ l.take k, p x = true) (hk : k < l.length) (hp : p l[k] = false) : (l.takeWhile p).length = k := by
 induction l generalizing k with
 | nil => simp at hk
 | cons x l ih =>
  cases k with
  | zero =>
   have : p x = false := hp
   simp [List.takeWhile, this]
  | succ k =>
   have hx : p x = true := h x (by simp)
   rw [List.takeWhile_cons, if_pos hx, List.length_cons, ih k (fun y hy => h y (by simp [hy])) (by simpa using hk) (by simpa using hp)]

theorem tw_all {α : Type} (p : α → Bool) (l : List α) (h : ∀ x ∈ l, p x = true) : (l.takeWhile p).length = l.length := by
 induction l with
 | nil => rfl
 | cons x l ih => rw [List.takeWhile_cons, if_pos (h x (by simp)), List.length_cons, List.length_cons, ih fun y hy => h y (by simp [hy])]

theorem tw_le {α : Type} (p : α → Bool) (l : List α) : (l.takeWhile p).length ≤ l.length := by
 induction l with
 | nil => exact Nat.le_refl _
 | cons x l ih =>
  rw [List.takeWhile_cons]
  split
  ·simp; omega
  ·simp

theorem tw_yes {α : Type} (p : α → Bool) (l : List α) (k : Nat) (hk : k < (l.takeWhile p).length) : p (l[k]'(Nat.lt_of_lt_of_le hk (tw_le p l))) = true := by
 induction l generalizing k with
 | nil => simp at hk
 | cons x l ih =>
  rw [List.takeWhile_cons] at hk
  split at hk
  ·rename_i hx
   cases k with
   | zero => exact hx
   | succ k => exact ih k (by simpa using hk)
  ·simp at hk

theorem tw_no {α : Type} (p : α → Bool) (l : List α) (hk : (l.takeWhile p).length < l.length) : p (l[(l.takeWhile p).length]) = false := by
 induction l with
 | nil => simp at hk
 | cons x l ih =>
  by_cases hx : p x = true
  ·have e : (x :: l).takeWhile p = x :: l.takeWhile p := by rw [List.takeWhile_cons, if_pos hx]
   have : (l.takeWhile p).length < l.length := by rw [e] at hk; simpa using hk
   have := ih this
   simp only [e, List.length_cons, List.getElem_cons_succ]
   exact this
  ·have e : (x :: l).takeWhile p = [] := by rw [List.takeWhile_cons, if_neg hx]
   simp only [e, List.length_nil, List.getElem_cons_zero]
   simpa using hx

theorem order_at {c : Co} (h : coOk c = true) {x : Int} (hx : x ∈ c.order) : ∃ i, i < c.txns.length ∧ x = (i : Int) ∧ ∀ hi : i < c.txns.length, c.txns[i].dec = 2 := by
 have h1 := coOkI_eq c
 rw [h] at h1
 unfold coOkI at h1
 simp only [Bool.and_eq_true, decide_eq_true_eq] at h1
 have h2 : x ∈ commTo c.txns c.txns.length := by rw [← h1.2]; exact msort_mem.2 hx
 obtain ⟨i, g1, g2, g3⟩ := (commTo_mem _ _ _).1 h2
 exact ⟨i, g1, g2, fun hi => by rw [List.getElem?_eq_getElem hi] at g3; simpa using g3⟩

theorem coOk_parts {c : Co} (h : coOk c = true) {i : Nat} (hi : i < c.txns.length) : ∀ p ∈ c.txns[i].parts, 0 ≤ p.shard ∧ p.shard ≤ 2 := fun p hp => by
 obtain ⟨j, hj, rfl⟩ := List.getElem_of_mem hp
 have := partsOk_at (tnOk_len (coOk_txn h hi)).2 hj
 exact ⟨this.1, this.2.1⟩

theorem coOk_small {c : Co} (h : coOk c = true) : c.txns.length ≤ 12 := by
 simp [coOk] at h
 exact h.1.2

def CoB (c : Co) : Prop := c.txns.length ≤ 1000000000 ∧ c.order.length ≤ 1000000000 ∧ ∀ t ∈ c.txns, t.parts.length ≤ 1000000000 ∧ t.votes.length ≤ 1000000000 ∧ ∀ p ∈ t.parts, p.ups.length ≤ 1000000000

theorem CoI.b {c : Co} (h : CoI c) : CoB c := ⟨by have := h.2.1; omega, by have := h.2.2; omega, fun t ht => by
 obtain ⟨h1, h2, h3, _⟩ := h.1 t ht
 exact ⟨by omega, by omega, fun p hp => by have := (h1 p hp).2.2; omega⟩⟩

theorem coTo_succ (c : Co) {k : Nat} (h : coTo c k = true) : coTo c (k + 1) = coAt c k := by
 show (coTo c k && coAt c k) = coAt c k
 rw [h]; rfl

set_option maxRecDepth 20000 in
set_option maxHeartbeats 4000000 in
theorem specCoValid_any (lo : Nat) (v1 v2 : Value) (c : Co) (w : World) (hv : CoR lo w v1 v2 c) (hb : CoB c) :
  Calls Tryz.prog 18 #[.agg #[v1, v2]] w fun e w' => e = .returned (.bool (coOk c)) ∧ Fr w.heap.size [] w w' := by
 obtain ⟨ta, tcap, rfl, _, hcell⟩ := hv.1.shape
 obtain ⟨oa, ocap, rfl, _, _⟩ := hv.2.shape
 have HO := hid hv.2
 have HC := hid hcell
 have HB := hid hb
 have hb1 := hb.1
 have hb2 := hb.2.1
 have B0 := hid (heap_alloc_new w (.cells #[.slice ta c.txns.length tcap, .slice oa c.order.length ocap] 26))
 have F0 := hid ((Fr.refl w.heap.size [] w).alloc (.cells #[.slice ta c.txns.length tcap, .slice oa c.order.length ocap] 26))
 clear hv hcell hb
 go_enter Tryz.func18, Tryz.ntmps18
 go_wp2
 go_loopw [3, 4] (fun n i wr => ∃ k : Nat, k ≤ c.txns.length ∧ i = .int .i64 k ∧ n = .int .i64 (comm c k : Nat) ∧ coTo c k = true ∧ wr.heap[w.heap.size]? = some (.cells #[.slice ta c.txns.length tcap, .slice oa c.order.length ocap] 26 (0, 0)) ∧ Fr w.heap.size [] w wr) (fun _ i _ => c.txns.length - (intOf i).toNat)
 case atStart => exact ⟨0, Nat.zero_le _, rfl, by simp [comm], rfl, B0.out, F0.out⟩
 case round =>
  obtain ⟨k, hk, rfl, rfl, hto, hb0, hfr⟩ := hrel
  have TO := hid hto
  have BR := hid hb0
  have FR := hid hfr
  have c0 := cell_of (o := 0) hb0 rfl
  have c1 := cell_of (o := 1) hb0 rfl
  have hcl := comm_le c k
  clear hto hb0
  by_cases hlt : k < c.txns.length
  ·rcases HC.out with h | ⟨b, off, rfl, hbs, hcell⟩
   ·rw [h] at hlt; simp at hlt
   obtain ⟨pa, pcap, va, vcap, x0, x1, x2, hp, hvv⟩ := hcell k hlt
   have d0 := hfr.cell hbs x0
   have d1 := hfr.cell hbs x1
   have d2 := hfr.cell hbs x2
   have TV := hid (show TnV lo wr (.slice pa c.txns[k].parts.length pcap) (.slice va c.txns[k].votes.length vcap) c.txns[k] from ⟨hp.grow hfr, hvv.grow hfr⟩)
   have HOR := hid (HO.out.grow hfr)
   obtain ⟨b1, b2, b3⟩ := HB.out.2.2 _ (List.getElem_mem hlt)
   have UB := hid b3
   have hki : (k : Int) < (c.txns.length : Int) := by omega
   have hbr := Nat.lt_of_lt_of_le hbs hfr.size
   have NX := hid (coTo_succ c TO.out)
   have CA := hid (show coAt c k = (tnOk c.txns[k] && ((c.txns[k].dec == 2) == c.order.contains (k : Int))) by simp [coAt, List.getElem?_eq_getElem hlt])
   have NO := hid (fun h : coAt c k = false => coOk_false hlt h)
   have CS := hid (comm_succ hlt)
   clear hcell x0 x1 x2 hp hvv b3 hfr
   generalize c.txns[k] = t at *
   generalize comm c k = m at *
   have hm1 : IntKind.i64.wrap ((m : Int) + 1) = ((m + 1 : Nat) : Int) := by rw [IntKind.wrap_i64]; omega
   cases g1 : tnOk t
   ·have G1 := hid g1
    have N1 := hid (NO.out (by rw [CA.out, g1]; rfl))
    clear g1
    go_wp2_with (go_at_call 46; go_must (refine (l22Txn_any lo _ _ t _ TV.out b1 b2 UB.out).mono ?_; rintro e w1 ⟨rfl, fr1⟩; rw [G1.out]; have F1 := hid (FR.out.trans fr1.nil)))
    go_ret
    exact ⟨ret_bool N1.out.symm, F1.out⟩
   ·have G1 := hid g1
    clear g1
    by_cases e2 : t.dec = 2
    ·have E2 := hid e2
     rcases g3 : c.order.contains (k : Int) with _ | _
     ·have G3 := hid g3
      have N1 := hid (NO.out (by rw [CA.out, G1.out, g3]; simp [e2]))
      clear g3 e2
      go_wp2_with (go_at_call 46; go_must (refine (l22Txn_any lo _ _ t _ TV.out b1 b2 UB.out).mono ?_; rintro e w1 ⟨rfl, fr1⟩; rw [G1.out]; have F1 := hid (FR.out.trans fr1.nil); have B1 := hid (fr1.keep _ _ BR.out (.inr (by simp))); have p0 := cell_of (o := 0) B1.out rfl; have p1 := cell_of (o := 1) B1.out rfl; have p2 := fr1.cell hbr d2; have HO1 := hid (HOR.out.grow fr1); have e2 := E2.out; clear d2))
      first
       | go_region_held3 (fun x => x.cell? ⟨w.heap.size, 0, none⟩ = some (.slice (some ⟨b, off, none⟩) c.txns.length tcap) ∧ x.cell? ⟨w.heap.size, 1, none⟩ = some (.slice oa c.order.length ocap) ∧ x.cell? ⟨b, off + k * 3 + 2, none⟩ = some (.int .i64 t.dec))
         (exact ⟨p0, p1, p2⟩)
         (first | (go_at_call 47; go_must (refine (l1Has_any _ _ c.order _ _ (HO1.out.grow (Fr.refl 0 [] w1).drew) hb2).mono ?_; rintro e w2 ⟨rfl, hw2⟩; rw [G3.out]; subst hw2)))
       | fail
      go_wp2
      go_ret
      exact ⟨ret_bool N1.out.symm, F1.out.drew⟩
     ·have G3 := hid g3
      have C1 := hid (show coTo c (k + 1) = true by rw [NX.out, CA.out, G1.out, g3]; simp [e2])
      have CM := hid (show comm c (k + 1) = m + 1 by rw [CS.out]; simp [e2])
      clear g3 e2
      go_wp2_with (go_at_call 46; go_must (refine (l22Txn_any lo _ _ t _ TV.out b1 b2 UB.out).mono ?_; rintro e w1 ⟨rfl, fr1⟩; rw [G1.out]; have F1 := hid (FR.out.trans fr1.nil); have B1 := hid (fr1.keep _ _ BR.out (.inr (by simp))); have p0 := cell_of (o := 0) B1.out rfl; have p1 := cell_of (o := 1) B1.out rfl; have p2 := fr1.cell hbr d2; have HO1 := hid (HOR.out.grow fr1); have e2 := E2.out; clear d2))
      first
       | go_region_held3 (fun x => x.cell? ⟨w.heap.size, 0, none⟩ = some (.slice (some ⟨b, off, none⟩) c.txns.length tcap) ∧ x.cell? ⟨w.heap.size, 1, none⟩ = some (.slice oa c.order.length ocap) ∧ x.cell? ⟨b, off + k * 3 + 2, none⟩ = some (.int .i64 t.dec))
         (exact ⟨p0, p1, p2⟩)
         (first | (go_at_call 47; go_must (refine (l1Has_any _ _ c.order _ _ (HO1.out.grow (Fr.refl 0 [] w1).drew) hb2).mono ?_; rintro e w2 ⟨rfl, hw2⟩; rw [G3.out]; subst hw2)))
       | fail
      go_wp2
      go_roundw
      case rel => exact ⟨k + 1, by omega, by go_num, by rw [CM.out] <;> go_num, C1.out, B1.out, F1.out.drew⟩
      case measure => simp [intOf]; omega
    ·have E2 := hid e2
     rcases g3 : c.order.contains (k : Int) with _ | _
     ·have G3 := hid g3
      have C1 := hid (show coTo c (k + 1) = true by rw [NX.out, CA.out, G1.out, g3]; simp [e2])
      have CM := hid (show comm c (k + 1) = m by rw [CS.out]; simp [e2])
      clear g3 e2
      go_wp2_with (go_at_call 46; go_must (refine (l22Txn_any lo _ _ t _ TV.out b1 b2 UB.out).mono ?_; rintro e w1 ⟨rfl, fr1⟩; rw [G1.out]; have F1 := hid (FR.out.trans fr1.nil); have B1 := hid (fr1.keep _ _ BR.out (.inr (by simp))); have p0 := cell_of (o := 0) B1.out rfl; have p1 := cell_of (o := 1) B1.out rfl; have p2 := fr1.cell hbr d2; have HO1 := hid (HOR.out.grow fr1); have e2 := E2.out; clear d2))
      first
       | go_region_held3 (fun x => x.cell? ⟨w.heap.size, 0, none⟩ = some (.slice (some ⟨b, off, none⟩) c.txns.length tcap) ∧ x.cell? ⟨w.heap.size, 1, none⟩ = some (.slice oa c.order.length ocap) ∧ x.cell? ⟨b, off + k * 3 + 2, none⟩ = some (.int .i64 t.dec))
         (exact ⟨p0, p1, p2⟩)
         (first | (go_at_call 47; go_must (refine (l1Has_any _ _ c.order _ _ (HO1.out.grow (Fr.refl 0 [] w1).drew) hb2).mono ?_; rintro e w2 ⟨rfl, hw2⟩; rw [G3.out]; subst hw2)))
       | fail
      go_wp2
      go_roundw
      case rel => exact ⟨k + 1, by omega, by go_num, by rw [CM.out] <;> go_num, C1.out, B1.out, F1.out.drew⟩
      case measure => simp [intOf]; omega
     ·have G3 := hid g3
      have N1 := hid (NO.out (by rw [CA.out, G1.out, g3]; simp [e2]))
      clear g3 e2
      go_wp2_with (go_at_call 46; go_must (refine (l22Txn_any lo _ _ t _ TV.out b1 b2 UB.out).mono ?_; rintro e w1 ⟨rfl, fr1⟩; rw [G1.out]; have F1 := hid (FR.out.trans fr1.nil); have B1 := hid (fr1.keep _ _ BR.out (.inr (by simp))); have p0 := cell_of (o := 0) B1.out rfl; have p1 := cell_of (o := 1) B1.out rfl; have p2 := fr1.cell hbr d2; have HO1 := hid (HOR.out.grow fr1); have e2 := E2.out; clear d2))
      first
       | go_region_held3 (fun x => x.cell? ⟨w.heap.size, 0, none⟩ = some (.slice (some ⟨b, off, none⟩) c.txns.length tcap) ∧ x.cell? ⟨w.heap.size, 1, none⟩ = some (.slice oa c.order.length ocap) ∧ x.cell? ⟨b, off + k * 3 + 2, none⟩ = some (.int .i64 t.dec))
         (exact ⟨p0, p1, p2⟩)
         (first | (go_at_call 47; go_must (refine (l1Has_any _ _ c.order _ _ (HO1.out.grow (Fr.refl 0 [] w1).drew) hb2).mono ?_; rintro e w2 ⟨rfl, hw2⟩; rw [G3.out]; subst hw2)))
       | fail
      go_wp2
      go_ret
      exact ⟨ret_bool N1.out.symm, F1.out.drew⟩
  ·obtain rfl : k = c.txns.length := by omega
   have EN := hid (coOk_true TO.out)
   have ec : ((c.order.length : Int) = (comm c c.txns.length : Nat)) ↔ c.order.length = comm c c.txns.length := by omega
   have el : ((c.txns.length : Int) ≤ 12) ↔ c.txns.length ≤ 12 := by omega
   by_cases hl12 : c.txns.length ≤ 12
   ·have el2 : (c.txns.length : Int) ≤ 12 := by omega
    go_wp2
    go_ret
    exact ⟨ret_bool (by rw [EN.out]; simp [hl12]; rw [Bool.eq_iff_iff]; simp; omega), hfr⟩
   ·have el2 : ¬ (c.txns.length : Int) ≤ 12 := by omega
    go_wp2
    go_ret
    exact ⟨ret_bool (by rw [EN.out]; simp [hl12]), hfr⟩

theorem infoP : (Tryz.prog.info? 76).map (fun i => (i.zero, i.size, i.bytes)) = some (some (.agg #[.int .i64 0, .slice none 0 0]), 2, 32) := by kernel_rfl
theorem infoT : (Tryz.prog.info? 74).map (fun i => (i.zero, i.size, i.bytes)) = some (some (.agg #[.slice none 0 0, .slice none 0 0, .int .i64 0]), 3, 56) := by kernel_rfl

def PartsOwn (lo : Nat) (w : World) (v : Value) (ps : List Pt) : Prop :=
 ∃ zs : List (Pt × Value), zs.map (·.1) = ps ∧ w.ownsRow lo 76 2 v ps.length (zs.flatMap encP) ∧ ∀ z ∈ zs, UpsR (new lo) w z.2 z.1.ups

theorem PartsOwn.reads {lo : Nat} {w : World} {v : Value} {ps : List Pt} (h : PartsOwn lo w v ps) : PartsR lo w v ps := by
 obtain ⟨zs, h1, h2, h3⟩ := h
 exact ⟨zs, h1, SlR.ofOwns h2, h3⟩

theorem PartsOwn.empty {w : World} : PartsOwn w.heap.size (w.alloc (.cells #[] 76)) (.slice (some ⟨w.heap.size, 0, none⟩) 0 0) [] :=
 ⟨[], rfl, World.ownsRow_lit (e := 76) (size := 2) w #[] 0 (Nat.le_refl _) (by decide) rfl, fun z hz => by cases hz⟩

theorem PartsOwn.snoc {lo n : Nat} {w' : World} {v' : Value} {ps : List Pt} {p : Pt} {u : Value} {zs : List (Pt × Value)} (g1 : zs.map (·.1) = ps) (g3 : ∀ z ∈ zs, UpsR (new lo) w' z.2 z.1.ups)
  (hu : UpsR (new lo) w' u p.ups) (hn : n = ps.length) (hown : w'.ownsRow lo 76 2 v' (n + 1) (zs.flatMap encP ++ [.int .i64 p.shard, u])) : PartsOwn lo w' v' (ps ++ [p]) := by
 subst hn
 refine ⟨zs ++ [(p, u)], by simp [g1], ?_, fun z hz => ?_⟩
 ·rw [List.flatMap_append, List.length_append]
  simpa [encP] using hown
 ·rcases List.mem_append.1 hz with hz | hz
  ·exact g3 z hz
  ·simp at hz
   subst hz
   exact hu

theorem oneP (x : Int) (a : Option Addr) (n p : Nat) : ∀ u ∈ [Value.int .i64 x, .slice a n p], u.oneCell' = true := by
 intro u hu
 simp at hu
 rcases hu with rfl | rfl <;> rfl

set_option maxRecDepth 20000 in
set_option maxHeartbeats 4000000 in
theorem l22Parts2_any (lo : Nat) (v : Value) (ps : List Pt) (w : World) (hv : PartsR lo w v ps) (hl : ps.length ≤ 1000000) (hu : ∀ p ∈ ps, p.ups.length ≤ 1000000000) :
  Calls Tryz.prog 106 #[v] w fun e w' => ∃ v', e = .returned v' ∧ PartsOwn w.heap.size w' v' ps ∧ Fr w.heap.size [] w w' := by
 obtain ⟨a, cap, rfl, hc, hcell⟩ := hv.shape
 have HC := hid hcell
 have UL := hid hu
 obtain ⟨iu, hui, huz0, huz1, huz2⟩ := info_parts infoU
 obtain ⟨ip, hpi, hpz0, hpz1, hpz2⟩ := info_parts infoP
 have E0 := hid (PartsOwn.empty (w := w))
 clear hv hcell hu
 go_enter Tryz.func106, Tryz.ntmps106
 go_wp2
 go_loopw [3, 4] (fun vo i wr => ∃ k : Nat, k ≤ ps.length ∧ i = .int .i64 k ∧ PartsOwn w.heap.size wr vo (ps.take k) ∧ Fr w.heap.size [] w wr) (fun _ i _ => ps.length - (intOf i).toNat)
 case atStart => exact ⟨0, Nat.zero_le _, rfl, E0.out, (Fr.refl _ _ _).alloc _⟩
 case round =>
  obtain ⟨k, hk, rfl, how, hfr⟩ := hrel
  have OW := hid how
  have FR := hid hfr
  have hls := hfr.size
  obtain ⟨oa, ocap, hoa, _, _⟩ := how.reads.shape
  subst hoa
  have hkl : (ps.take k).length = k := by rw [List.length_take]; omega
  clear how
  by_cases hlt : k < ps.length
  ·rcases HC.out with h | ⟨b, off, rfl, hbs, hcell⟩
   ·rw [h] at hlt; simp at hlt
   obtain ⟨ua, ucap, x0, x1, hx⟩ := hcell k hlt
   have hul := UL.out _ (List.getElem_mem hlt)
   have hki : (k : Int) < (ps.length : Int) := by omega
   have c0 := hfr.cell hbs x0
   have c1 := hfr.cell hbs x1
   have KP := hid (fun (x : World) (f : Fr w.heap.size [] w x) => (⟨f.cell hbs x0, f.cell hbs x1, f⟩ : x.cell? ⟨b, off + k * 2, none⟩ = some (.int .i64 ps[k].shard) ∧ x.cell? ⟨b, off + k * 2 + 1, none⟩ = some (.slice ua ps[k].ups.length ucap) ∧ Fr w.heap.size [] w x))
   have HU := hid (hx.grow hfr)
   have TK := hid (List.take_succ_eq_append_getElem hlt)
   obtain ⟨zs, z1, z2, z3⟩ := OW.out
   rw [hkl] at z2
   have Z1 := hid z1
   have Z2 := hid z2
   have Z3 := hid z3
   rw [hkl]
   clear hcell x0 x1 hx z1 z2 z3 hfr
   generalize ps[k] = p at *
   go_wp2
   first
   | go_region_held3 (fun x => x.cell? ⟨b, off + k * 2, none⟩ = some (.int .i64 p.shard) ∧ x.cell? ⟨b, off + k * 2 + 1, none⟩ = some (.slice ua p.ups.length ucap) ∧ Fr w.heap.size [] w x)
    (first
     | exact KP.out _ FR.out.drew
     | exact KP.out _ (FR.out.alloc _).drew
     | exact KP.out _ (F3.out.alloc _)
     | exact KP.out _ F5.out
     | exact KP.out _ F3.out)
    (first
     | (refine step_ap rfl (.tmp 18) (.tmp 23) 52 rfl wr.heap.size 97 iu (.agg #[.int .i64 0, .int .i64 0, .int .i64 0]) 3 24 Tryz.underlying52 hui huz0 huz1 huz2 rfl (by decide) (.slice (some ⟨wr.heap.size, 0, none⟩) 0 0) 0 [] (by rfl) (ownsRow_keep (World.ownsRow_made wr #[] 0 (Nat.le_refl _) (by decide) (by simp)) (Fr.refl 0 [] _).drew (by simp)) (new lo) 97 _ p.ups.length (p.ups.flatMap encU) (by rfl) (HU.out.grow (((Fr.refl 0 [] wr).alloc (.cells #[] 97)).drew)) (oneU _) (by unfold maxLen; omega) (by omega) (by simp) ?_; intro v3 w3 own3 fr3; rw [Nat.zero_add, List.nil_append] at own3; obtain ⟨a3, cap3, rfl⟩ := own_any own3; have W3 := hid ((((Fr.refl wr.heap.size [] wr).alloc (.cells #[] 97)).drew).after fr3); have F3 := hid (FR.out.trans W3.out.nil); have OWN3 := hid own3; clear own3 fr3)
     | (refine step_ap rfl (.tmp 12) (.tmp 26) 72 rfl w.heap.size 76 ip (.agg #[.int .i64 0, .slice none 0 0]) 2 32 Tryz.underlying72 hpi hpz0 hpz1 hpz2 rfl (by decide) (.slice oa k ocap) k (zs.flatMap encP) (by rfl) (ownsRow_grow Z2.out (W3.out.alloc _)) (new w3.heap.size) 76 _ 1 [.int .i64 p.shard, .slice a3 p.ups.length cap3] (by rfl) (SlR.lit rfl) (oneP _ _ _ _) (by unfold maxLen; omega) (by omega) (by have := F3.out.size; simp; omega) ?_; intro v5 w5 own5 fr5; obtain ⟨a5, cap5, rfl⟩ := own_any own5; have F5 := hid ((F3.out.alloc (.cells #[.int .i64 p.shard, .slice a3 p.ups.length cap3] 76)).after fr5); have FR5 := hid fr5; have OWN5 := hid own5; clear own5 fr5))
   | fail
   all_goals go_wp2
   have FX := W3.out.alloc (.cells #[.int .i64 p.shard, .slice a3 p.ups.length cap3] 76)
   have FY : Fr 0 [] w3 _ := (Fr.refl 0 [] w3).alloc (.cells #[.int .i64 p.shard, .slice a3 p.ups.length cap3] 76)
   have hL : UpsR (new w.heap.size) w5 (.slice a3 p.ups.length cap3) p.ups := (((show UpsR (new wr.heap.size) w3 (.slice a3 p.ups.length cap3) p.ups from SlR.ofOwns OWN3.out).weak (fun b t _ hb => ⟨by have := hb.1; omega, hb.2⟩)).grow FY).keep FR5.out (Safe.new (by simp))
   have EN := PartsOwn.snoc (lo := w.heap.size) (p := p) Z1.out (fun z hz => ((Z3.out z hz).grow FX).keep FR5.out (Safe.new (by simp))) hL hkl.symm OWN5.out
   go_roundw
   case rel => exact ⟨k + 1, by omega, by go_num, by rw [TK.out]; exact EN, F5.out⟩
   case measure => simp [intOf]; omega
  ·obtain rfl : k = ps.length := by omega
   rw [List.take_length] at OW
   go_wp2
   go_ret
   exact ⟨_, rfl, by rw [List.take_length]; exact OW.out, hfr⟩

theorem all_false {α : Type} {p : α → Bool} {l : List α} {k : Nat} (hk : k < l.length) (h : p l[k] = false) : l.all p = false := by
 rw [List.all_eq_false]
 exact ⟨_, List.getElem_mem hk, by simp [h]⟩

theorem all_take {α : Type} {p : α → Bool} {l : List α} {k : Nat} (hk : k < l.length) (h : (l.take k).all p = true) (hp : p l[k] = true) : (l.take (k + 1)).all p = true := by
 rw [List.take_succ_eq_append_getElem hk, List.all_append, h]
 simp [hp]

set_option maxRecDepth 20000 in
set_option maxHeartbeats 2000000 in
theorem l31Shards_any (lo : Nat) (v : Value) (ss : List (List Rc)) (w : World) (hv : ShardsR lo w v ss) (hl : ss.length ≤ 1000) (hs : ∀ rs ∈ ss, Small rs) :
  Calls Tryz.prog 19 #[v] w fun e w' => e = .returned (.bool (shsOk ss)) ∧ Fr w.heap.size [] w w' := by
 obtain ⟨a, cap, rfl, hc, hcell⟩ := hv.shape
 have HC := hid hcell
 have HS := hid hs
 clear hv hcell hs
 go_enter Tryz.func19, Tryz.ntmps19
 go_wp2
 go_loopw [3] (fun i wr => ∃ k : Nat, k ≤ ss.length ∧ i = .int .i64 k ∧ (ss.take k).all valid = true ∧ Fr w.heap.size [] w wr) (fun i _ => ss.length - (intOf i).toNat)
 case atStart => exact ⟨0, Nat.zero_le _, rfl, by simp, Fr.refl _ _ _⟩
 case round =>
  obtain ⟨k, hk, rfl, hto, hfr⟩ := hrel
  have HT := hid hto
  clear hto
  by_cases hlt : k < ss.length
  ·rcases HC.out with h | ⟨b, off, rfl, hbs, hcell⟩
   ·rw [h] at hlt; simp at hlt
   obtain ⟨ra, rcap, c0, hr⟩ := hcell k hlt
   have d0 := hfr.cell hbs c0
   have HR := hid (hr.grow hfr)
   have SM := hid (HS.out _ (List.getElem_mem hlt))
   have hki : (k : Int) < (ss.length : Int) := by omega
   clear hcell c0 hr
   cases g : valid ss[k]
   ·have G := hid g
    have hz := hid (show shsOk ss = false by unfold shsOk; rw [all_false hlt g]; rfl)
    clear g
    go_wp2_with (go_at_call 48; go_must (refine (specShardValid_any (new lo) _ ss[k] _ HR.out SM.out).mono ?_; rintro e w1 ⟨rfl, fr1⟩; rw [G.out]))
    go_ret
    exact ⟨ret_bool hz.out.symm, hfr.trans fr1.nil⟩
   ·have hz := hid (all_take hlt HT.out g)
    have G := hid g
    clear g
    go_wp2_with (go_at_call 48; go_must (refine (specShardValid_any (new lo) _ ss[k] _ HR.out SM.out).mono ?_; rintro e w1 ⟨rfl, fr1⟩; rw [G.out]))
    go_roundw
    case rel => exact ⟨k + 1, by omega, by go_num, hz.out, hfr.trans fr1.nil⟩
    case measure => simp [intOf]; omega
  ·obtain rfl : k = ss.length := by omega
   rw [List.take_length] at HT
   have hz := hid (show shsOk ss = decide (ss.length = 3) by unfold shsOk; rw [HT.out]; rfl)
   go_wp2
   go_ret
   exact ⟨ret_bool (by rw [hz.out, Bool.eq_iff_iff]; simp; omega), hfr⟩

def codeR : Code → Code
 | .seq _ y => y
 | c => c

def codeL : Code → Code
 | .seq x _ => x
 | c => c

def codeX : Code → Code
 | .block _ (.loop x) => x
 | c => c

set_option maxRecDepth 20000 in
set_option maxHeartbeats 4000000 in
theorem txnTail (t : Tn) (pv : Value) (va : Option Addr) (vcap : Nat) (w wr : World) (c m : Nat) (s0 s2 s4 s5 s7 s8 s9 s10 s11 s12 s13 s14 s15 s16 s17 s18 s19 s20 s21 s22 s23 s24 s25 s26 s27 s28 s29 s30 s31 s32 s33 s34 s35 s36 s37 s38 s39 s41 s42 s43 s44 s45 s46 s47 s48 s49 s50 s51 s52 s53 s54 s55 s56 s57 s58 s59 s60 s61 s62 s63 s64 s65 s66 s67 s68 s69 s70 s71 s72 s73 s74 s75 s76 s77 s78 s79 s80 s81 s82 s83 s84 s85 s86 : Value) (hp : partsOk t.parts = true) (hle : t.votes.length = t.parts.length) (hn : t.votes.length ≤ 1000) (hf : Fr w.heap.size [] w wr)
  (hb : wr.heap[w.heap.size]? = some (.cells #[pv, .slice va t.votes.length vcap, .int .i64 t.dec] 74 (0, 0))) (hm : MapF wr m t.votes.length (cnt t.votes)) :
  (codeR (codeR (codeR (codeR (codeR (codeR (codeR (Tryz.f37.body.getD .skip)))))))).wp Tryz.prog (bodyPost Tryz.prog Tryz.f37 (fun e w' => e = .returned (.bool (tnOkI t)) ∧ Fr w.heap.size [] w w')) ⟨#[s0, .pointer (some ⟨w.heap.size, 0, none⟩), s2, .chan (some c), s4, s5, .map (some m), s7, s8, s9, s10, s11, s12, s13, s14, s15, s16, s17, s18, s19, s20, s21, s22, s23, s24, s25, s26, s27, s28, s29, s30, s31, s32, s33, s34, s35, s36, s37, s38, s39, .chan (some c), s41, s42, s43, s44, s45, s46, s47, s48, s49, s50, s51, s52, s53, s54, s55, s56, s57, s58, s59, s60, s61, s62, s63, s64, s65, s66, s67, s68, s69, s70, s71, s72, s73, s74, s75, s76, s77, s78, s79, s80, s81, s82, s83, s84, s85, s86], []⟩ wr := by
 have ec := hid (show tnOkI t = (decide (t.votes.count 1 + t.votes.count (-1) + t.votes.count 0 = t.votes.length) &&
 (if t.dec = 2 then decide (t.votes.count 1 = t.votes.length) else if t.dec = 3 then decide (t.votes.count 1 < t.votes.length) else if t.dec = 0 then decide (t.votes.count (-1) = 0) && decide (0 < t.votes.count 0) else false)) by unfold tnOkI; rw [hp, hle]; simp)
 have q1 : t.votes.count 1 ≤ 1000 := by have := List.count_le_length (a := 1) (l := t.votes); omega
 have q2 : t.votes.count (-1) ≤ 1000 := by have := List.count_le_length (a := -1) (l := t.votes); omega
 have q3 : t.votes.count 0 ≤ 1000 := by have := List.count_le_length (a := 0) (l := t.votes); omega
 have L1 := fun j => cnt_look (hm.keep ((Fr.refl 0 [] wr).drewN j) (by simp)) (x := 1) (by omega)
 have L2 := fun j => cnt_look (hm.keep ((Fr.refl 0 [] wr).drewN j) (by simp)) (x := -1) (by omega)
 have L3 := fun j => cnt_look (hm.keep ((Fr.refl 0 [] wr).drewN j) (by simp)) (x := 0) (by omega)
 have c1 := cell_of (o := 1) hb rfl
 have c2 := cell_of (o := 2) hb rfl
 have HF := hid hf
 clear hp hle hf hb hm
 generalize tnOkI t = res at *
 generalize t.votes.count 1 = p at *
 generalize t.votes.count (-1) = q at *
 generalize t.votes.count 0 = z at *
 generalize t.votes.length = n at *
 generalize t.dec = d at *
 generalize hQ : bodyPost Tryz.prog Tryz.f37 _ = Q
 simp only [codeR, Tryz.f37, Option.getD_some]
 go_wp2
 go_quiet (fail)
 all_goals go_wp2
 all_goals subst hQ
 all_goals go_ret
 all_goals refine ⟨ret_bool ?_, HF.out.drewN _⟩
 all_goals rw [ec.out]
 all_goals clear ec L1 L2 L3 c1 c2 HF
 all_goals (have dec1 : ∀ (a b : Nat), ((a : Int) == (b : Int)) = decide (a = b) := fun a b => by by_cases e : a = b <;> simp [e] <;> omega)
 all_goals (by_cases e1 : p + q + z = n <;> by_cases e2 : d = 2 <;> by_cases e3 : d = 3 <;> by_cases e4 : d = 0 <;> by_cases e5 : q = 0 <;> first | (exfalso; simp_all; done) | (exfalso; simp_all; omega) | (simp_all; done) | (simp_all; omega))

def Bytes (B : Nat) (w : World) (a : Option Addr) (n cap : Nat) : Prop :=
 n ≤ cap ∧ (0 < n → ∃ b off, a = some ⟨b, off, none⟩ ∧ b < B ∧ ∀ i, i < n → ∃ c : Nat, c < 256 ∧ w.cell? ⟨b, off + i, none⟩ = some (.int .u8 (c : Int)))

set_option maxRecDepth 20000 in
set_option maxHeartbeats 1000000 in
theorem l6Open_any {w : World} {a : Option Addr} {n cap : Nat} (hb : Bytes w.heap.size w a n cap) (hm : cap ≤ maxLen) :
  Calls Tryz.prog 12 #[.slice a n cap] w fun e w' => e = .returned (.pointer (some ⟨w.heap.size, 0, none⟩)) ∧ Rdr w.heap.size w' w.heap.size 0 ∧ Fr w.heap.size [] w w' := by
 obtain ⟨hc, hbb⟩ := hb
 have HB := hid hbb
 unfold maxLen at hm
 clear hbb
 have key : ∀ m : Nat, m ≤ n → m ≤ 2000 → Rdr w.heap.size (w.alloc (.cells #[.slice a m cap, .int .i64 0] 86)) w.heap.size 0 := fun m hm1 hm2 =>
  ⟨Nat.le_refl _, a, m, cap, heap_alloc_new w _, hm2, fun hl => by
   obtain ⟨b, off, g1, g2, g3⟩ := HB.out (by omega)
   refine ⟨b, off, g1, g2, fun i hi => ?_⟩
   obtain ⟨c, hc, hcc⟩ := g3 i (by omega)
   exact ⟨c, hc, cell_alloc hcc⟩⟩
 have KEY := hid key
 clear key
 by_cases hn : 2000 < n
 ·have hn' : (2000 : Int) < (n : Int) := by omega
  have hnc : (2000 : Int) ≤ (cap : Int) := by omega
  go_enter Tryz.func12, Tryz.ntmps12
  go_wp2
  go_ret
  exact ⟨rfl, KEY.out 2000 (by omega) (by omega), (Fr.refl _ _ _).alloc _⟩
 ·have hn' : ¬ (2000 : Int) < (n : Int) := by omega
  go_enter Tryz.func12, Tryz.ntmps12
  go_wp2
  go_ret
  exact ⟨rfl, KEY.out n (by omega) (by omega), (Fr.refl _ _ _).alloc _⟩

theorem free_at {locks : List Int} {us : List Upd} (h : isFree locks us = true) {k : Nat} (hk : k < us.length) : (at4 locks us[k].ref == -1) = true := by
 cases hx : (at4 locks us[k].ref == -1) with
 | true => rfl
 | false => rw [freeTo_false hk hx] at h; cases h

set_option maxRecDepth 20000 in
set_option maxHeartbeats 2000000 in
theorem lock_any (l : Nat) (vu : Value) (locks : List Int) (t : Int) (us : List Upd) (w : World) (hb : w.heap[l]? = some (.cells (row4 locks []) 3 (0, 0))) (h4 : locks.length = 4) (hv : UpsR (old l) w vu us) (hl : us.length ≤ 1000000000)
  (hin : ∀ k (hk : k < us.length), 0 ≤ us[k].ref ∧ us[k].ref ≤ 3) (hfree : isFree locks us = true) :
  Calls Tryz.prog 258 #[.slice (some ⟨l, 0, none⟩) 4 4, .int .i64 t, vu] w fun e w' => e = .returned .nilIface ∧ w'.heap[l]? = some (.cells (row4 (takeAll locks t us) []) 3 (0, 0)) ∧ FrB l w w' := by
 obtain ⟨a, cap, hva, h2, h3, hn, h5⟩ := id hv
 have hsh := hv.shape
 obtain ⟨a, cap, rfl, hcap, hcell⟩ := hsh
 cases hva
 have HB := hid hb
 have H4 := hid h4
 have H5 := hid h5
 have HF := hid hfree
 have HIN := hid hin
 have HC := hid hcell
 clear hb h4 hv h5 h2 hn hfree hin hcell
 go_enter Tryz.func258, Tryz.ntmps258
 go_wp2
 go_loopw [13] (fun i wr => ∃ k : Nat, k ≤ us.length ∧ i = .int .i64 k ∧ wr.heap[l]? = some (.cells (row4 locks []) 3 (0, 0)) ∧ FrB l w wr) (fun i _ => us.length - (intOf i).toNat)
 case atStart => exact ⟨0, Nat.zero_le _, rfl, HB.out, FrB.refl _ _⟩
 case round =>
  obtain ⟨k, hk, rfl, hblk, hfr⟩ := hrel
  have HBL := hid hblk
  by_cases hlt : k < us.length
  ·rcases HC.out with rfl | ⟨ub, off, rfl, hbs, hcell⟩
   ·simp at hlt
   ·have hub : ub ≠ l := by
     obtain ⟨b', off', cur, e', fr', g1, g2, g3, g4⟩ := H5.out (by omega)
     have : ub = b' := by simpa using congrArg (fun x => (x.map Addr.block).getD 0) g1
     have g2' : b' < l := g2
     omega
    obtain ⟨h0, h1, h2⟩ := hcell k hlt
    obtain ⟨hi1, hi2⟩ := HIN.out k hlt
    obtain ⟨j, hj⟩ := Int.eq_ofNat_of_zero_le hi1
    have hj3 : (j : Int) < 4 := by omega
    have c0 := hfr.cell hub h0
    have c1 := hfr.cell hub h1
    have c2 := hfr.cell hub h2
    have hfa := free_at HF.out hlt
    rw [hj] at c0 hfa
    have hjl : j < locks.length := by rw [H4.out]; omega
    rw [at4_nat hjl] at hfa
    have cg := cell_of hblk (row4_get (tl := []) hjl)
    have g2 : (locks[j] != -1) = false := by simp only [bne, hfa]; rfl
    have hgl := lt_of_get hblk
    clear h0 h1 h2 hi1 hi2 hj hcell hblk hfa
    go_wp2
    go_roundw
    case rel => exact ⟨k + 1, by omega, by go_num, heap_up HBL.out _, hfr.alloc _⟩
    case measure => simp [intOf]; omega
  ·obtain rfl : k = us.length := by omega
   clear hblk
   go_wp2
   obtain ⟨wo, rfl⟩ : ∃ wo : World, wo = wr := ⟨_, rfl⟩
   go_loopw [27] (fun i wr => ∃ k : Nat, k ≤ us.length ∧ i = .int .i64 k ∧ wr.heap[l]? = some (.cells (row4 (takeTo locks t us k) []) 3 (0, 0)) ∧ FrB l w wr) (fun i _ => us.length - (intOf i).toNat)
   case atStart => exact ⟨0, Nat.zero_le _, rfl, HBL.out, hfr⟩
   case round =>
    clear hfr HBL
    obtain ⟨k, hk, rfl, hblk, hfr⟩ := hrel
    have HBL := hid hblk
    by_cases hlt : k < us.length
    ·rcases HC.out with rfl | ⟨ub, off, rfl, hbs, hcell⟩
     ·simp at hlt
     ·have hub : ub ≠ l := by
       obtain ⟨b', off', cur, e', fr', g1, g2, g3, g4⟩ := H5.out (by omega)
       have : ub = b' := by simpa using congrArg (fun x => (x.map Addr.block).getD 0) g1
       have g2' : b' < l := g2
       omega
      obtain ⟨h0, h1, h2⟩ := hcell k hlt
      obtain ⟨hi1, hi2⟩ := HIN.out k hlt
      obtain ⟨j, hj⟩ := Int.eq_ofNat_of_zero_le hi1
      have hj3 : (j : Int) < 4 := by omega
      have c0 := hfr.cell hub h0
      have c1 := hfr.cell hub h1
      have c2 := hfr.cell hub h2
      have HS := hid (takeTo_succ (locks := locks) (t := t) hlt)
      rw [hj] at c0 HS
      have hjl : j < (takeTo locks t us k).length := by rw [takeTo_length, H4.out]; omega
      have cg := cell_of hblk (row4_get (tl := []) hjl)
      have cf := free_of (o := j) hblk
      have hgl := lt_of_get hblk
      clear h0 h1 h2 hi1 hi2 hj hcell hblk
      go_wp2
      go_roundw
      case rel => exact ⟨k + 1, by omega, by go_num, by rw [HS.out]; exact heap_up ((block_set HBL.out j _).trans (by rw [row4_set hjl]; rfl)) _, (hfr.set (p := ⟨l, j, none⟩) rfl _).alloc _⟩
      case measure => simp [intOf]; omega
    ·obtain rfl : k = us.length := by omega
     go_wp2
     go_ret
     exact ⟨rfl, HBL.out, hfr⟩

def relTo (locks : List Int) (t : Int) (k : Nat) : List Int := freed (locks.take k) t ++ locks.drop k

theorem relTo_length (locks : List Int) (t : Int) (k : Nat) : (relTo locks t k).length = locks.length := by
 simp [relTo, freed]; omega

theorem relTo_at {locks : List Int} {t : Int} {k : Nat} (h : k < locks.length) : (relTo locks t k)[k]'(by rw [relTo_length]; exact h) = locks[k] := by
 unfold relTo
 rw [List.getElem_append_right (by simp [freed]; omega)]
 simp [freed, Nat.min_eq_left (Nat.le_of_lt h)]

theorem relTo_succ {locks : List Int} {t : Int} {k : Nat} (h : k < locks.length) : relTo locks t (k + 1) = (relTo locks t k).set k (if locks[k] = t then -1 else locks[k]) := by
 unfold relTo
 rw [freed_take h, List.set_append_right _ _ (by simp [freed]; omega)]
 have e : k - (freed (locks.take k) t).length = 0 := by simp [freed]; omega
 rw [e, List.drop_eq_getElem_cons h, List.set_cons_zero]
 simp

theorem relTo_all (locks : List Int) (t : Int) : relTo locks t locks.length = freed locks t := by simp [relTo]

theorem set_self {l : List Int} {k : Nat} {x : Int} (h : k < l.length) (hx : l[k] = x) : l.set k x = l := by
 subst hx; simp

set_option maxRecDepth 20000 in
set_option maxHeartbeats 2000000 in
theorem release_any (l : Nat) (locks : List Int) (t : Int) (w : World) (hb : w.heap[l]? = some (.cells (row4 locks []) 3 (0, 0))) (h4 : locks.length = 4) :
  Calls Tryz.prog 261 #[.slice (some ⟨l, 0, none⟩) 4 4, .int .i64 t] w fun e w' => (∃ x, e = .returned (.bool x)) ∧ w'.heap[l]? = some (.cells (row4 (freed locks t) []) 3 (0, 0)) ∧ FrB l w w' := by
 have HB := hid hb
 have H4 := hid h4
 clear hb h4
 go_enter Tryz.func261, Tryz.ntmps261
 go_wp2
 go_loopw [5, 10] (fun x i wr => ∃ (k : Nat) (y : Bool), k ≤ 4 ∧ i = .int .i64 k ∧ x = .bool y ∧ wr.heap[l]? = some (.cells (row4 (relTo locks t k) []) 3 (0, 0)) ∧ FrB l w wr) (fun _ i _ => 4 - (intOf i).toNat)
 case atStart => exact ⟨0, false, Nat.zero_le _, rfl, rfl, by rw [HB.out]; rfl, FrB.refl _ _⟩
 case round =>
  obtain ⟨k, y, hk, rfl, rfl, hblk, hfr⟩ := hrel
  have HBL := hid hblk
  by_cases hlt : k < 4
  ·have hkl : k < locks.length := by rw [H4.out]; exact hlt
   have hkr : k < (relTo locks t k).length := by rw [relTo_length]; exact hkl
   have cg := cell_of hblk (row4_get (tl := []) hkr)
   rw [relTo_at hkl] at cg
   have cf := free_of (o := k) hblk
   have hgl := lt_of_get hblk
   have HS := hid (relTo_succ (t := t) hkl)
   have HA := hid (relTo_at (t := t) hkl)
   have hk4 : (k : Int) < 4 := by omega
   clear hblk
   cases g1 : locks[k] == t
   ·have hz := hid (show ¬ locks[k] = t by simpa using g1)
    go_wp2
    go_roundw
    case rel => exact ⟨k + 1, y, by omega, by go_num, rfl, by rw [HS.out, if_neg hz.out, set_self hkr HA.out]; exact HBL.out, hfr⟩
    case measure => simp [intOf]; omega
   ·have hz := hid (show locks[k] = t by simpa using g1)
    go_wp2
    go_roundw
    case rel => exact ⟨k + 1, true, by omega, by go_num, rfl, by rw [HS.out, if_pos hz.out]; exact (block_set HBL.out k _).trans (by rw [row4_set hkr]), hfr.set rfl _⟩
    case measure => simp [intOf]; omega
  ·obtain rfl : k = 4 := by omega
   have HE := hid (show relTo locks t 4 = freed locks t by rw [← H4.out]; exact relTo_all _ _)
   clear hblk
   go_wp2
   go_ret
   exact ⟨⟨_, rfl⟩, by rw [← HE.out]; exact HBL.out, hfr⟩

end Go.Proofs.YtknoanpgadecbaaGreatDoor
