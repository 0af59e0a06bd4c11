/- The program's history of a shard in memory; what a record does to it. -/
import Derived.Test.YtknoanpgadecbaaGreatDoorQM4
set_option linter.unusedVariables false
set_option linter.unusedSimpArgs false
namespace Go.Proofs.YtknoanpgadecbaaGreatDoor
open Go.RowKit
set_option linter.unusedVariables false

theorem zeroRec (w : World) : (zeroValue 94).run Tryz.prog w = .ok (.agg #[.int .i64 0, .int .i64 0, .slice none 0 0]) w := by kernel_rfl

def RecAt (lo : Nat) (w : World) : Option Value → Option Rc → Prop
 | none, none => True
 | some v, some r => ∃ u, v = .agg #[.int .i64 r.kind, .int .i64 r.txn, u] ∧ UpsR (old lo) w u r.ups ∧ r.ups.length ≤ 1000000000 ∧ (r.kind = 1 → ∀ k (hk : k < r.ups.length), 0 ≤ r.ups[k].ref ∧ r.ups[k].ref ≤ 3)
 | _, _ => False

def Hist (lo : Nat) (w : World) (h l m n : Nat) (s : St) (f : Int → Option Rc) : Prop :=
 lo ≤ h ∧ lo ≤ l ∧ lo ≤ m ∧ s.refs.length = 4 ∧ s.locks.length = 4 ∧
 w.heap[h]? = some (.cells (row4 s.refs [.slice (some ⟨l, 0, none⟩) 4 4, .map (some m)]) 126 (0, 0)) ∧
 w.heap[l]? = some (.cells (row4 s.locks []) 3 (0, 0)) ∧
 ∃ g, MapF w m n g ∧ ∀ t, RecAt lo w (g t) (f t)

theorem RecAt.keep {lo B : Nat} {T : List Nat} {w w' : World} {v : Option Value} {r : Option Rc} (h : RecAt lo w v r) (hf : Fr B T w w') (hB : lo ≤ B) : RecAt lo w' v r := by
 match v, r, h with
 | none, none, _ => trivial
 | some v, some r, ⟨u, h1, h2, h3⟩ => exact ⟨u, h1, h2.keep hf (Safe.old hB), h3⟩

theorem Hist.keep {lo B : Nat} {T : List Nat} {w w' : World} {h l m n : Nat} {s : St} {f : Int → Option Rc} (hh : Hist lo w h l m n s f) (hf : Fr B T w w') (hB : lo ≤ B) (h1 : 126 ∉ T) (h2 : 3 ∉ T) (h3 : 1000000 ∉ T) : Hist lo w' h l m n s f := by
 obtain ⟨p1, p2, p3, p4, p5, p6, p7, g, p8, p9⟩ := hh
 exact ⟨p1, p2, p3, p4, p5, hf.keep _ _ p6 (.inr h1), hf.keep _ _ p7 (.inr h2), g, p8.keep hf h3, fun t => (p9 t).keep hf hB⟩

theorem Hist.grow {lo B : Nat} {w w' : World} {h l m n : Nat} {s : St} {f : Int → Option Rc} (hh : Hist lo w h l m n s f) (hf : Fr B [] w w') : Hist lo w' h l m n s f :=
 hh.keep (B := lo) (hf.nil (T := [])) (Nat.le_refl _) (by simp) (by simp) (by simp)

abbrev histT : List Nat := [126, 3, 1000000]

theorem cell_drew {w : World} {a : Addr} {u : Value} (h : w.cell? a = some u) : w.drew.cell? a = some u := h
theorem blk_drew {w : World} {b : Nat} {o : Obj} (h : w.heap[b]? = some o) : w.drew.heap[b]? = some o := h

theorem hist_load {w : World} {h : Nat} {a b c d : Int} {tl : List Value} {T : TypeId} (hb : w.heap[h]? = some (.cells (row4 [a, b, c, d] tl) T (0, 0))) :
  w.cell? ⟨h, 0, none⟩ = some (.int .i64 a) ∧ w.cell? ⟨h, 1, none⟩ = some (.int .i64 b) ∧ w.cell? ⟨h, 2, none⟩ = some (.int .i64 c) ∧ w.cell? ⟨h, 3, none⟩ = some (.int .i64 d) :=
 ⟨cell_of hb rfl, cell_of hb rfl, cell_of hb rfl, cell_of hb rfl⟩

theorem hist_more {w : World} {h : Nat} {l : List Int} {x y : Value} {T : TypeId} (hb : w.heap[h]? = some (.cells (row4 l [x, y]) T (0, 0))) (h4 : l.length = 4) :
  w.cell? ⟨h, 4, none⟩ = some x ∧ w.cell? ⟨h, 5, none⟩ = some y := by
 match l, h4 with
 | [a, b, c, d], _ => exact ⟨cell_of hb rfl, cell_of hb rfl⟩

theorem Hist.newLocks {lo : Nat} {w w' : World} {h l m n : Nat} {s : St} {f : Int → Option Rc} (hh : Hist lo w h l m n s f) (fb : FrB l w w') {L : List Int} (hL : L.length = 4) (hb : w'.heap[l]? = some (.cells (row4 L []) 3 (0, 0))) :
  Hist lo w' h l m n ⟨s.refs, L⟩ f := by
 obtain ⟨p1, p2, p3, p4, p5, p6, p7, g, p8, p9⟩ := hh
 have fr := fb.toFr (B := lo) (T := [3]) p7 p2 (by simp [otag])
 exact ⟨p1, p2, p3, p4, hL, fr.keep _ _ p6 (.inr (by simp [otag])), hb, g, p8.keep fr (by simp), fun t => (p9 t).keep fr (Nat.le_refl _)⟩

theorem Hist.newRefs {lo : Nat} {w w' : World} {h l m n : Nat} {s : St} {f : Int → Option Rc} (hh : Hist lo w h l m n s f) (fb : FrB h w w') {L : List Int} (hL : L.length = 4) (hb : w'.heap[h]? = some (.cells (row4 L [.slice (some ⟨l, 0, none⟩) 4 4, .map (some m)]) 126 (0, 0))) :
  Hist lo w' h l m n ⟨L, s.locks⟩ f := by
 obtain ⟨p1, p2, p3, p4, p5, p6, p7, g, p8, p9⟩ := hh
 have fr := fb.toFr (B := lo) (T := [126]) p6 p1 (by simp [otag])
 exact ⟨p1, p2, p3, hL, p5, hb, fr.keep _ _ p7 (.inr (by simp [otag])), g, p8.keep fr (by simp), fun t => (p9 t).keep fr (Nat.le_refl _)⟩

theorem Hist.frL {lo : Nat} {w w' : World} {h l m n : Nat} {s : St} {f : Int → Option Rc} (hh : Hist lo w h l m n s f) (fb : FrB l w w') : Fr lo histT w w' := by
 obtain ⟨p1, p2, p3, p4, p5, p6, p7, g, p8, p9⟩ := hh
 exact fb.toFr p7 p2 (by simp [otag])

theorem Hist.frH {lo : Nat} {w w' : World} {h l m n : Nat} {s : St} {f : Int → Option Rc} (hh : Hist lo w h l m n s f) (fb : FrB h w w') : Fr lo histT w w' := by
 obtain ⟨p1, p2, p3, p4, p5, p6, p7, g, p8, p9⟩ := hh
 exact fb.toFr p6 p1 (by simp [otag])

theorem Hist.locksAt {lo : Nat} {w : World} {h l m n : Nat} {s : St} {f : Int → Option Rc} (hh : Hist lo w h l m n s f) : w.heap[l]? = some (.cells (row4 s.locks []) 3 (0, 0)) ∧ s.locks.length = 4 := by
 obtain ⟨p1, p2, p3, p4, p5, p6, p7, g, p8, p9⟩ := hh
 exact ⟨p7, p5⟩

theorem Hist.refsAt {lo : Nat} {w : World} {h l m n : Nat} {s : St} {f : Int → Option Rc} (hh : Hist lo w h l m n s f) : w.heap[h]? = some (.cells (row4 s.refs [.slice (some ⟨l, 0, none⟩) 4 4, .map (some m)]) 126 (0, 0)) ∧ s.refs.length = 4 ∧ lo ≤ h ∧ lo ≤ l := by
 obtain ⟨p1, p2, p3, p4, p5, p6, p7, g, p8, p9⟩ := hh
 exact ⟨p6, p4, p1, p2⟩

theorem Hist.look {lo : Nat} {w : World} {h l m n : Nat} {s : St} {f : Int → Option Rc} (hh : Hist lo w h l m n s f) {t : Int} (ht : inR t 0 11 = true) :
  ∃ v : Value, (Instr.lookup 124 (.map (some m)) (.int .i64 t) true).run Tryz.prog w = .ok (.tuple #[v, .bool (f t).isSome]) w ∧ (Instr.lookup 124 (.map (some m)) (.int .i64 t) false).run Tryz.prog w = .ok v w ∧
   (f t = none → v = .agg #[.int .i64 0, .int .i64 0, .slice none 0 0]) ∧ (∀ x, f t = some x → RecAt lo w (some v) (some x)) := by
 obtain ⟨p1, p2, p3, p4, p5, p6, p7, g, p8, p9⟩ := hh
 have hb := inR_iff.1 ht
 have h1 := p8.look 124 94 _ Tryz.underlying124 (zeroRec _) t (wf64 (by omega))
 have h2 := p8.look1 124 94 _ Tryz.underlying124 (zeroRec _) t (wf64 (by omega))
 have h3 := p9 t
 cases hg : g t with
 | none =>
  rw [hg] at h1 h2 h3
  cases hf : f t with
  | none => exact ⟨_, h1, h2, fun _ => rfl, fun x hx => (by cases hx)⟩
  | some x => rw [hf] at h3; exact h3.elim
 | some v =>
  rw [hg] at h1 h2 h3
  cases hf : f t with
  | none => rw [hf] at h3; exact h3.elim
  | some x => rw [hf] at h3; exact ⟨v, h1, h2, fun hx => (by cases hx), fun y hy => (by cases hy; exact h3)⟩

theorem freed_len4 {l : List Int} {t : Int} (h : l.length = 4) : (freed l t).length = 4 := by simp [freed, h]

set_option maxRecDepth 20000 in
set_option maxHeartbeats 4000000 in
theorem aborts_any (lo : Nat) (h l m n : Nat) (s : St) (f : Int → Option Rc) (t : Int) (w : World) (hh : Hist lo w h l m n s f) (ht : inR t 0 11 = true) :
  Calls Tryz.prog 262 #[.agg #[], .pointer (some ⟨h, 0, none⟩), .int .i64 t] w fun e w' =>
   (∃ x : Bool, e = .returned (.bool x) ∧ (x = true ↔ ∀ y, f t = some y → y.kind = 1) ∧ (x = true → Hist lo w' h l m n ⟨s.refs, freed s.locks t⟩ f)) ∧ Fr lo histT w w' := by
 have hh1 := hh.grow ((Fr.refl 0 [] w).alloc (.cells #[] 239))
 obtain ⟨v, hk, -, hv0, hv1⟩ := hh1.look ht
 obtain ⟨P6, p4, q1, q2⟩ := hh.refsAt
 obtain ⟨c4, c5⟩ := hist_more P6 p4
 have hlh := lt_of_get P6
 have HH := hid hh
 have V1 := hid hv1
 clear P6 p4 hh hh1 hv1
 cases hf : f t with
 | none =>
  obtain rfl := hv0 hf
  rw [hf] at hk
  simp only [Option.isSome_none] at hk
  have HF := hid hf
  clear hf hv0
  go_enter Tryz.func262, Tryz.ntmps262
  go_wp2_with (go_at_call 261; go_must (refine (release_any l s.locks t _ (heap_up (heap_up HH.out.locksAt.1 _) _) HH.out.locksAt.2).mono ?_; rintro e w1 ⟨⟨x, rfl⟩, hb, fb⟩))
  go_ret
  have h2 := (HH.out.grow ((Fr.refl 0 [] w).alloc (.cells #[] 239))).grow ((Fr.refl 0 [] _).alloc (.cells #[.int .i64 0, .int .i64 0, .slice none 0 0] 94))
  exact ⟨⟨true, rfl, ⟨fun _ y hy => (by cases hy), fun _ => rfl⟩, fun _ => h2.newLocks fb (freed_len4 HH.out.locksAt.2) hb⟩, (((Fr.refl lo histT w).alloc _).alloc _).trans (h2.frL fb)⟩
 | some x =>
  obtain ⟨u, rfl, hu, hul, hui⟩ := V1.out x hf
  obtain ⟨ua, ucap, rfl, _, _⟩ := hu.shape
  rw [hf] at hk
  simp only [Option.isSome_some] at hk
  have HF := hid hf
  clear hf hv0 hu hui
  cases g1 : x.kind != 1
  all_goals
   have G1 := hid g1
   go_enter Tryz.func262, Tryz.ntmps262
   go_wp2_with (go_at_call 261; go_must (refine (release_any l s.locks t _ (heap_up (heap_up HH.out.locksAt.1 _) _) HH.out.locksAt.2).mono ?_; rintro e w1 ⟨⟨x', rfl⟩, hb, fb⟩))
   go_ret
  ·have h2 := (HH.out.grow ((Fr.refl 0 [] w).alloc (.cells #[] 239))).grow ((Fr.refl 0 [] _).alloc (.cells #[.int .i64 x.kind, .int .i64 x.txn, .slice ua x.ups.length ucap] 94))
   have hx1 : x.kind = 1 := by simpa using G1.out
   exact ⟨⟨true, rfl, ⟨fun _ y hy => (by cases hy; exact hx1), fun _ => rfl⟩, fun _ => h2.newLocks fb (freed_len4 HH.out.locksAt.2) hb⟩, (((Fr.refl lo histT w).alloc _).alloc _).trans (h2.frL fb)⟩
  ·have hx1 : ¬ x.kind = 1 := by simpa using G1.out
   exact ⟨⟨false, rfl, ⟨fun h => (by cases h), fun h => absurd (h x rfl) hx1⟩, fun h => (by cases h)⟩, ((Fr.refl lo histT w).alloc _).alloc _⟩

set_option maxRecDepth 20000 in
set_option maxHeartbeats 4000000 in
theorem commits_any (lo : Nat) (h l m n : Nat) (s : St) (f : Int → Option Rc) (t : Int) (w : World) (hh : Hist lo w h l m n s f) (ht : inR t 0 11 = true) :
  Calls Tryz.prog 260 #[.agg #[], .pointer (some ⟨h, 0, none⟩), .int .i64 t] w fun e w' =>
   (∃ x : Bool, e = .returned (.bool x) ∧ (x = true ↔ ∃ y, f t = some y ∧ y.kind = 1) ∧ (∀ y, f t = some y → x = true → Hist lo w' h l m n ⟨setAll s.refs y.ups, freed s.locks t⟩ f)) ∧ Fr lo histT w w' := by
 have hh1 := hh.grow ((Fr.refl 0 [] w).alloc (.cells #[] 238))
 obtain ⟨v, hk, -, hv0, hv1⟩ := hh1.look ht
 obtain ⟨P6, p4, q1, q2⟩ := hh.refsAt
 obtain ⟨c4, c5⟩ := hist_more P6 p4
 have hlh := lt_of_get P6
 have HH := hid hh
 have V1 := hid hv1
 clear P6 p4 hh hh1 hv1
 cases hf : f t with
 | none =>
  obtain rfl := hv0 hf
  rw [hf] at hk
  simp only [Option.isSome_none] at hk
  have HF := hid hf
  clear hf hv0
  go_enter Tryz.func260, Tryz.ntmps260
  go_wp2
  go_ret
  exact ⟨⟨false, rfl, ⟨fun h => (by cases h), fun ⟨y, hy, _⟩ => (by cases hy)⟩, fun y hy => (by cases hy)⟩, ((Fr.refl lo histT w).alloc _).alloc _⟩
 | some x =>
  obtain ⟨u, rfl, hu, hul, hui⟩ := V1.out x hf
  obtain ⟨ua, ucap, rfl, _, _⟩ := hu.shape
  rw [hf] at hk
  simp only [Option.isSome_some] at hk
  have HF := hid hf
  have HU := hid hu
  have HUI := hid hui
  clear hf hv0 hu hui
  cases g1 : x.kind != 1
  ·have G1 := hid g1
   have H2 := hid ((HH.out.grow ((Fr.refl 0 [] w).alloc (.cells #[] 238))).grow ((Fr.refl 0 [] _).alloc (.cells #[.int .i64 x.kind, .int .i64 x.txn, .slice ua x.ups.length ucap] 94)).drew)
   have hx1 : x.kind = 1 := by simpa using g1
   have hne : w.heap.size + 1 ≠ h := by omega
   have c2 : (((w.alloc (.cells #[] 238)).alloc (.cells #[.int .i64 x.kind, .int .i64 x.txn, .slice ua x.ups.length ucap] 94)).drew).cell? ⟨w.heap.size + 1, 2, none⟩ = some (.slice ua x.ups.length ucap) := cell_drew (cell_of (heap_alloc_eq _ _ (by simp)) rfl)
   have HX1 := hid hx1
   clear hx1
   go_enter Tryz.func260, Tryz.ntmps260
   go_wp2
   go_region_held3 (fun x' => x'.cell? ⟨w.heap.size + 1, 2, none⟩ = some (.slice ua x.ups.length ucap))
    (first | exact c2 | exact c2')
    (first
     | (go_at_call 259; go_must (refine (tabSet_any h 126 [.slice (some ⟨l, 0, none⟩) 4 4, .map (some m)] _ s.refs x.ups _ H2.out.refsAt.1 H2.out.refsAt.2.1 ((HU.out.grow ((Fr.refl 0 [] _).alloc (.cells #[.int .i64 x.kind, .int .i64 x.txn, .slice ua x.ups.length ucap] 94)).drew).weak (fun b t _ hb => Nat.lt_of_lt_of_le hb q1)) hul (HUI.out HX1.out)).mono ?_; rintro e w1 ⟨rfl, hb, fb⟩; have c2' := fb.cell hne c2; have H3 := hid (H2.out.newRefs fb (setTo_len4 H2.out.refsAt.2.1) hb); have F1 := hid ((((Fr.refl lo histT w).alloc (.cells #[] 238)).alloc (.cells #[.int .i64 x.kind, .int .i64 x.txn, .slice ua x.ups.length ucap] 94)).drew.trans (H2.out.frH fb)); obtain ⟨d4, d5⟩ := hist_more H3.out.refsAt.1 H3.out.refsAt.2.1; clear hb fb)))
   go_wp2_with (go_at_call 261; go_must (refine (release_any l s.locks t _ H3.out.locksAt.1 H3.out.locksAt.2).mono ?_; rintro e w2 ⟨⟨x', rfl⟩, hb2, fb2⟩))
   go_ret
   exact ⟨⟨true, rfl, ⟨fun _ => ⟨x, rfl, HX1.out⟩, fun _ => rfl⟩, fun y hy _ => (by cases hy; exact H3.out.newLocks fb2 (freed_len4 H3.out.locksAt.2) hb2)⟩, F1.out.trans (H3.out.frL fb2)⟩
  ·have G1 := hid g1
   go_enter Tryz.func260, Tryz.ntmps260
   go_wp2
   go_ret
   have hx1 : ¬ x.kind = 1 := by simpa using G1.out
   exact ⟨⟨false, rfl, ⟨fun h => (by cases h), fun ⟨y, hy, h1⟩ => (by cases hy; exact absurd h1 hx1)⟩, fun y hy h => (by cases h)⟩, ((Fr.refl lo histT w).alloc _).alloc _⟩

theorem four_of {l : List Int} (h : l.length = 4) : ∃ a b c d, l = [a, b, c, d] := by
 match l, h with
 | [a, b, c, d], _ => exact ⟨a, b, c, d, rfl⟩

set_option maxRecDepth 20000 in
set_option maxHeartbeats 400000 in
theorem prepares_any (lo : Nat) (h l m n : Nat) (s : St) (f : Int → Option Rc) (t : Int) (vu : Value) (us : List Upd) (w : World) (hh : Hist lo w h l m n s f) (ht : inR t 0 11 = true) (hu : UpsR (old lo) w vu us) (hul : us.length ≤ 1000000000)
  (hfree : f t = none → updsOk us = true → fits s.refs us = true → isFree s.locks us = true) :
  Calls Tryz.prog 256 #[.agg #[vu], .pointer (some ⟨h, 0, none⟩), .int .i64 t] w fun e w' =>
   (∃ x : Bool, e = .returned (.bool x) ∧ (x = true ↔ f t = none ∧ updsOk us = true ∧ fits s.refs us = true) ∧ (x = true → Hist lo w' h l m n ⟨s.refs, takeAll s.locks t us⟩ f)) ∧ Fr lo histT w w' := by
 obtain ⟨ua, ucap, rfl, _, _⟩ := hu.shape
 have hh1 := hh.grow ((Fr.refl 0 [] w).alloc (.cells #[.slice ua us.length ucap] 237))
 obtain ⟨v, hk, -, hv0, hv1⟩ := hh1.look ht
 obtain ⟨P6, p4, q1, q2⟩ := hh.refsAt
 obtain ⟨c4, c5⟩ := hist_more P6 p4
 have hlh := lt_of_get P6
 have hll := lt_of_get hh.locksAt.1
 have hhl : h ≠ l := by
  rintro rfl
  have := hh.locksAt.1
  rw [P6] at this
  simp at this
 have HH := hid hh
 have V1 := hid hv1
 have HU := hid hu
 have HFR := hid hfree
 clear P6 p4 hh hh1 hv1 hu hfree
 cases hf : f t with
 | some x =>
  obtain ⟨u, rfl, hxu, hxl, hui⟩ := V1.out x hf
  obtain ⟨xa, xcap, rfl, _, _⟩ := hxu.shape
  rw [hf] at hk
  simp only [Option.isSome_some] at hk
  have HF := hid hf
  clear hf hv0 hxu hui
  go_enter Tryz.func256, Tryz.ntmps256
  go_wp2
  go_ret
  exact ⟨⟨false, rfl, ⟨fun h => (by cases h), fun h => (by cases h.1)⟩, fun h => (by cases h)⟩, ((Fr.refl lo histT w).alloc _).alloc _⟩
 | none =>
  obtain rfl := hv0 hf
  rw [hf] at hk
  simp only [Option.isSome_none] at hk
  have HF := hid hf
  clear hf hv0
  have F2 := hid (((Fr.refl 0 [] w).alloc (.cells #[.slice ua us.length ucap] 237)).alloc (.cells #[.int .i64 0, .int .i64 0, .slice none 0 0] 94))
  have B0 := hid (heap_up (heap_alloc_new w (.cells #[.slice ua us.length ucap] 237)) (.cells #[.int .i64 0, .int .i64 0, .slice none 0 0] 94))
  cases g1 : updsOk us
  ·have G1 := hid g1
   go_enter Tryz.func256, Tryz.ntmps256
   go_wp2_with (go_at_call 101; go_must (refine (implUpdatesValid_any (old lo) _ us _ (HU.out.grow F2.out) hul).mono ?_; rintro e w3 ⟨rfl, fr3⟩))
   go_ret
   exact ⟨⟨false, rfl, ⟨fun h => (by cases h), fun h => (by cases h.2.1)⟩, fun h => (by cases h)⟩, (F2.out.nil (T := histT)).trans fr3.nil⟩
  ·obtain ⟨ra, rb, rc, rd, hr⟩ := four_of HH.out.refsAt.2.1
   have HR := hid hr
   clear hr
   cases g2 : fits [ra, rb, rc, rd] us
   all_goals
    have G1 := hid g1
    have G2 := hid g2
    go_enter Tryz.func256, Tryz.ntmps256
    go_wp2_with (go_at_call 101; go_must (refine (implUpdatesValid_any (old lo) _ us _ (HU.out.grow F2.out) hul).mono ?_; rintro e w3 ⟨rfl, fr3⟩; have F3 := hid (F2.out.trans fr3.nil); have H3 := hid (HH.out.grow F3.out); have B3 := fr3.keep _ _ B0.out (.inr (by simp)); have k0 := cell_of (o := 0) B3 rfl; have hb3 := lt_of_get B3; have h3 := H3.out.refsAt; rw [HR.out] at h3; have h30 := hist_load h3.1; have h34 := hist_more h3.1 h3.2.1; obtain ⟨e0, e1, e2, e3⟩ := h30; obtain ⟨e4, e5⟩ := h34; have hl3 := F3.out.size; clear h3 B3 fr3))
    have K0 := cell_alloc (o := .cells #[.int .i64 ra, .int .i64 rb, .int .i64 rc, .int .i64 rd] 123) k0
    have K4 := cell_alloc (o := .cells #[.int .i64 ra, .int .i64 rb, .int .i64 rc, .int .i64 rd] 123) e4
    have KB := hid (show (w3.alloc (.cells #[.int .i64 ra, .int .i64 rb, .int .i64 rc, .int .i64 rd] 123)).heap[w3.heap.size]? = some (.cells (row4 [ra, rb, rc, rd] []) 123 (0, 0)) from heap_alloc_new w3 _)
    have hn1 : w.heap.size ≠ w3.heap.size := by omega
    have hn2 : h ≠ w3.heap.size := by omega
    have hn3 : l ≠ w3.heap.size := by omega
    have hn4 : w.heap.size ≠ l := by omega
    have HUW := hid (((HU.out.grow F3.out).grow (((Fr.refl 0 [] w3).alloc (.cells #[.int .i64 ra, .int .i64 rb, .int .i64 rc, .int .i64 rd] 123)).drew)).weak (K' := old w3.heap.size) (fun b t _ hb => Nat.lt_of_lt_of_le hb (by omega)))
    have HUL := hid (((HU.out.grow F3.out).grow (((Fr.refl 0 [] w3).alloc (.cells #[.int .i64 ra, .int .i64 rb, .int .i64 rc, .int .i64 rd] 123)).drew)).weak (K' := old l) (fun b t _ hb => Nat.lt_of_lt_of_le hb q2))
   ·refine wp_region_held_drew (S := fun x' => x'.cell? ⟨w.heap.size, 0, none⟩ = some (.slice ua us.length ucap)) (by kernel_rfl) ?_ (fun hHeld => ?_)
    ·exact K0
    refine wpAnyH_take (i := 0) (v := ?_) rfl (by kernel_rfl) (by kernel_rfl) (by kernel_rfl) (fun _ _ _ h => h) (Or.inl ⟨by rfl, ?_⟩) (by assumption) ?_
    rotate_left
    ·intro w hSw; (try dsimp only at hSw); go_simp; try with_reducible rfl
    (try simp only [Act.put, List.getElem_toArray, List.getElem_cons_succ, List.getElem_cons_zero, List.getElem?_toArray, List.getElem?_cons_succ, List.getElem?_cons_zero, List.setIfInBounds_toArray, List.set_cons_zero, List.set_cons_succ])
    refine wpAnyH_take (i := 1) (v := ?_) rfl (by kernel_rfl) (by kernel_rfl) (by kernel_rfl) (fun _ _ _ h => h) (Or.inl ⟨by rfl, ?_⟩) (by assumption) ?_
    rotate_left
    ·intro w hSw; (try dsimp only at hSw); go_simp; try with_reducible rfl
    (try simp only [Act.put, List.getElem_toArray, List.getElem_cons_succ, List.getElem_cons_zero, List.getElem?_toArray, List.getElem?_cons_succ, List.getElem?_cons_zero, List.setIfInBounds_toArray, List.set_cons_zero, List.set_cons_succ])
    refine wpAnyH_ready (rs := [2]) (by kernel_rfl) (by simp) ?_
    refine AllReadyH.cons rfl (fun K hK => ?_) AllReadyH.nil
    go_simp
    (go_at_call 257; go_must (refine (tabApply_any w3.heap.size 123 [] _ [ra, rb, rc, rd] us _ (blk_drew KB.out) rfl HUW.out hul (updsOk_ref G1.out)).mono ?_; rintro e w4 ⟨he4, fb4⟩; rw [G2.out] at he4; subst he4; have m0 := fb4.cell hn1 K0; have m4 := fb4.cell hn2 K4; have FB4 := hid fb4; have F4 := hid (fb4.toFr (B := w3.heap.size) (T := [123]) (blk_drew KB.out) (Nat.le_refl _) (by simp [otag])); clear fb4))
    refine hK.out _ _ ?_ (fun hHeld => ?_)
    ·exact m0
    clear hK K
    (try simp only [Act.put, List.getElem_toArray, List.getElem_cons_succ, List.getElem_cons_zero, List.getElem?_toArray, List.getElem?_cons_succ, List.getElem?_cons_zero, List.setIfInBounds_toArray, List.set_cons_zero, List.set_cons_succ])
    refine wpAnyH_take (i := 3) (v := ?_) rfl (by kernel_rfl) (by kernel_rfl) (by kernel_rfl) (fun _ _ _ h => h) (Or.inl ⟨by rfl, ?_⟩) (by assumption) ?_
    rotate_left
    ·intro w hSw; (try dsimp only at hSw); go_simp; try with_reducible rfl
    (try simp only [Act.put, List.getElem_toArray, List.getElem_cons_succ, List.getElem_cons_zero, List.getElem?_toArray, List.getElem?_cons_succ, List.getElem?_cons_zero, List.setIfInBounds_toArray, List.set_cons_zero, List.set_cons_succ])
    refine wpAnyH_take (i := 4) rfl (by kernel_rfl) (by kernel_rfl) (by kernel_rfl) (fun _ _ _ h => h) (Or.inr ⟨by rfl, rfl⟩) (by assumption) ?_
    (try simp only [Act.put, List.getElem_toArray, List.getElem_cons_succ, List.getElem_cons_zero, List.getElem?_toArray, List.getElem?_cons_succ, List.getElem?_cons_zero, List.setIfInBounds_toArray, List.set_cons_zero, List.set_cons_succ])
    refine wpAnyH_take (i := 5) rfl (by kernel_rfl) (by kernel_rfl) (by kernel_rfl) (fun _ _ _ h => h) (Or.inr ⟨by rfl, rfl⟩) (by assumption) ?_
    (try simp only [Act.put, List.getElem_toArray, List.getElem_cons_succ, List.getElem_cons_zero, List.getElem?_toArray, List.getElem?_cons_succ, List.getElem?_cons_zero, List.setIfInBounds_toArray, List.set_cons_zero, List.set_cons_succ])
    refine wpAnyH_take (i := 6) rfl (by kernel_rfl) (by kernel_rfl) (by kernel_rfl) (fun _ _ _ h => h) (Or.inr ⟨by rfl, rfl⟩) (by assumption) ?_
    (try simp only [Act.put, List.getElem_toArray, List.getElem_cons_succ, List.getElem_cons_zero, List.getElem?_toArray, List.getElem?_cons_succ, List.getElem?_cons_zero, List.setIfInBounds_toArray, List.set_cons_zero, List.set_cons_succ])
    refine wpAnyH_take (i := 7) rfl (by kernel_rfl) (by kernel_rfl) (by kernel_rfl) (fun _ _ _ h => h) (Or.inr ⟨by rfl, rfl⟩) (by assumption) ?_
    (try simp only [Act.put, List.getElem_toArray, List.getElem_cons_succ, List.getElem_cons_zero, List.getElem?_toArray, List.getElem?_cons_succ, List.getElem?_cons_zero, List.setIfInBounds_toArray, List.set_cons_zero, List.set_cons_succ])
    refine wpAnyH_take (i := 8) rfl (by kernel_rfl) (by kernel_rfl) (by kernel_rfl) (fun _ _ _ h => h) (Or.inr ⟨by rfl, rfl⟩) (by assumption) ?_
    (try simp only [Act.put, List.getElem_toArray, List.getElem_cons_succ, List.getElem_cons_zero, List.getElem?_toArray, List.getElem?_cons_succ, List.getElem?_cons_zero, List.setIfInBounds_toArray, List.set_cons_zero, List.set_cons_succ])
    refine wpAnyH_take (i := 9) rfl (by kernel_rfl) (by kernel_rfl) (by kernel_rfl) (fun _ _ _ h => h) (Or.inr ⟨by rfl, rfl⟩) (by assumption) ?_
    (try simp only [Act.put, List.getElem_toArray, List.getElem_cons_succ, List.getElem_cons_zero, List.getElem?_toArray, List.getElem?_cons_succ, List.getElem?_cons_zero, List.setIfInBounds_toArray, List.set_cons_zero, List.set_cons_succ])
    refine wpAnyH_take (i := 10) rfl (by kernel_rfl) (by kernel_rfl) (by kernel_rfl) (fun _ _ _ h => h) (Or.inr ⟨by rfl, rfl⟩) (by assumption) ?_
    (try simp only [Act.put, List.getElem_toArray, List.getElem_cons_succ, List.getElem_cons_zero, List.getElem?_toArray, List.getElem?_cons_succ, List.getElem?_cons_zero, List.setIfInBounds_toArray, List.set_cons_zero, List.set_cons_succ])
    refine wpAnyH_ready (rs := [11]) (by kernel_rfl) (by simp) ?_
    refine AllReadyH.cons rfl (fun K hK => ?_) AllReadyH.nil
    rw [if_neg (by intro h; cases h)]
    refine hK.out _ _ ?_ (fun hHeld => ?_)
    ·exact m0
    clear hK K
    (try simp only [Act.put, List.getElem_toArray, List.getElem_cons_succ, List.getElem_cons_zero, List.getElem?_toArray, List.getElem?_cons_succ, List.getElem?_cons_zero, List.setIfInBounds_toArray, List.set_cons_zero, List.set_cons_succ])
    refine wpAnyH_take (i := 12) rfl (by kernel_rfl) (by kernel_rfl) (by kernel_rfl) (fun _ _ _ h => h) (Or.inr ⟨by rfl, rfl⟩) (by assumption) ?_
    (try simp only [Act.put, List.getElem_toArray, List.getElem_cons_succ, List.getElem_cons_zero, List.getElem?_toArray, List.getElem?_cons_succ, List.getElem?_cons_zero, List.setIfInBounds_toArray, List.set_cons_zero, List.set_cons_succ])
    refine wpAnyH_take (i := 13) (v := ?_) rfl (by kernel_rfl) (by kernel_rfl) (by kernel_rfl) (fun _ _ _ h => h) (Or.inl ⟨by rfl, ?_⟩) (by assumption) ?_
    rotate_left
    ·intro w hSw; (try dsimp only at hSw); go_simp; try with_reducible rfl
    (try simp only [Act.put, List.getElem_toArray, List.getElem_cons_succ, List.getElem_cons_zero, List.getElem?_toArray, List.getElem?_cons_succ, List.getElem?_cons_zero, List.setIfInBounds_toArray, List.set_cons_zero, List.set_cons_succ])
    refine wpAnyH_take (i := 14) (v := ?_) rfl (by kernel_rfl) (by kernel_rfl) (by kernel_rfl) (fun _ _ _ h => h) (Or.inl ⟨by rfl, ?_⟩) (by assumption) ?_
    rotate_left
    ·intro w hSw; (try dsimp only at hSw); go_simp; try with_reducible rfl
    (try simp only [Act.put, List.getElem_toArray, List.getElem_cons_succ, List.getElem_cons_zero, List.getElem?_toArray, List.getElem?_cons_succ, List.getElem?_cons_zero, List.setIfInBounds_toArray, List.set_cons_zero, List.set_cons_succ])
    refine wpAnyH_done (by kernel_rfl) ?_ _
    go_wp2
    go_ret
    exact ⟨⟨false, rfl, ⟨fun h => (by cases h), fun h => (by have := h.2.2; rw [HR.out, G2.out] at this; cases this)⟩, fun h => (by cases h)⟩, ((F3.out.nil (B' := lo) (T := histT)).alloc _).drew.after (F4.out.mono hl3 (fun _ h => h))⟩
   ·(first
     | go_region_held3 (fun x' => x'.cell? ⟨w.heap.size, 0, none⟩ = some (.slice ua us.length ucap) ∧ x'.cell? ⟨h, 4, none⟩ = some (.slice (some ⟨l, 0, none⟩) 4 4))
     (first | exact ⟨K0, K4⟩ | exact ⟨m0, m4⟩ | exact ⟨n0, n4⟩)
     (first
      | (go_at_call 257; go_must (refine (tabApply_any w3.heap.size 123 [] _ [ra, rb, rc, rd] us _ (blk_drew KB.out) rfl HUW.out hul (updsOk_ref G1.out)).mono ?_; rintro e w4 ⟨he4, fb4⟩; rw [G2.out] at he4; subst he4; have m0 := fb4.cell hn1 K0; have m4 := fb4.cell hn2 K4; have FB4 := hid fb4; have F4 := hid (fb4.toFr (B := w3.heap.size) (T := [123]) (blk_drew KB.out) (Nat.le_refl _) (by simp [otag])); clear fb4))
      | (go_at_call 258; go_must (refine (lock_any l _ s.locks t us _ (FB4.out.keep _ _ (blk_drew (heap_up H3.out.locksAt.1 _)) hn3) H3.out.locksAt.2 (HUL.out.keep F4.out (Safe.old (by omega))) hul (updsOk_ref G1.out) (HFR.out HF.out G1.out (by rw [HR.out]; exact G2.out))).mono ?_; rintro e w5 ⟨rfl, hb5, fb5⟩; have n0 := fb5.cell hn4 m0; have n4 := fb5.cell hhl m4)))
     | fail)
    all_goals
     go_wp2
     go_ret
     have H4 := (H3.out.grow ((Fr.refl 0 [] w3).alloc (.cells #[.int .i64 ra, .int .i64 rb, .int .i64 rc, .int .i64 rd] 123)).drew).keep F4.out (by omega) (by simp) (by simp) (by simp)
     exact ⟨⟨true, rfl, ⟨fun _ => ⟨by first | trivial | rfl | exact HF.out, by first | trivial | rfl | exact G1.out, by rw [HR.out]; exact G2.out⟩, fun _ => rfl⟩, fun _ => H4.newLocks fb5 (takeAll_len4 H3.out.locksAt.2) hb5⟩, (((F3.out.nil (B' := lo) (T := histT)).alloc _).drew.after (F4.out.mono hl3 (fun _ h => h))).trans (H4.frL fb5)⟩

end Go.Proofs.YtknoanpgadecbaaGreatDoor
