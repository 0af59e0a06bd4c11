/- A map of records keyed by ints, as a function. -/
import Derived.Test.YtknoanpgadecbaaGreatDoorProg
import Derived.Test.YtknoanpgadecbaaGreatDoorQBase
import Derived.Maps.Own
import Derived.Maps.OwnSet
import Derived.Maps.OwnOps
import Derived.Deep.WholeRow
import Derived.RegionTactic
import Derived.BigRegion
import Derived.Deep.DeepMust
import Derived.Deep.RegionHeld3
import Derived.Deep.QuietTactic
import Derived.BigQuiet
import Derived.Test.YtknoanpgadecbaaGreatDoorQM1
set_option linter.unusedVariables false
set_option linter.unusedSimpArgs false
namespace Go.Proofs.YtknoanpgadecbaaGreatDoor
open Go.RowKit
set_option linter.unusedVariables false

def heldElem (v : Value) : Option (DataW Value × List MemPlace) := some (.held v, [])

def MapF (w : World) (m n : Nat) (f : Int → Option Value) : Prop :=
 ∃ D : DataW Value, w.ownsMap Tryz.prog 3 heldElem m n D ∧ Maps.IsMap D ∧ (∀ k z, D.atKey (.int .i64 k) z = (match f k with | some v => .held v | none => z)) ∧ ∀ k, Maps.has D (.int .i64 k) = (f k).isSome

def upd {α : Type} (f : Int → Option α) (t : Int) (v : α) : Int → Option α := fun k => if k = t then some v else f k

theorem lawI : Maps.Keyed Tryz.prog 3 := Maps.int_keyed Tryz.underlying3

theorem wf64 {a : Int} (h : -9223372036854775808 ≤ a ∧ a ≤ 9223372036854775807) : (Lit.int .i64 a).wf = true := WalkArith.wf_i64 h

theorem MapF.made (w : World) : MapF (w.alloc (.map #[] 0)) w.heap.size 0 (fun _ => none) :=
 ⟨.map [], World.ownsMap_made w Tryz.prog 3 heldElem, ⟨[], rfl⟩, fun k z => rfl, fun k => rfl⟩

theorem MapF.empty {w : World} {m : Nat} (h : w.heap[m]? = some (.map #[] 0)) : MapF w m 0 (fun _ => none) :=
 ⟨.map [], ⟨#[], 0, h, ⟨by simp, MapKept.stamped_empty 0, by simp⟩, Nat.le_refl _, rfl⟩, ⟨[], rfl⟩, fun k z => rfl, fun k => rfl⟩

theorem MapF.keep {B : Nat} {T : List Nat} {w w' : World} {m n : Nat} {f : Int → Option Value} (h : MapF w m n f) (hf : Fr B T w w') (hT : 1000000 ∉ T) : MapF w' m n f := by
 obtain ⟨D, ⟨es, c, h1, h2⟩, h3⟩ := h
 exact ⟨D, ⟨es, c, hf.keep _ _ h1 (.inr hT), h2⟩, h3⟩

theorem MapF.block {w w' : World} {m n : Nat} {f : Int → Option Value} (h : MapF w m n f) (hk : ∀ o, w.heap[m]? = some o → w'.heap[m]? = some o) : MapF w' m n f := by
 obtain ⟨D, ⟨es, c, h1, h2⟩, h3⟩ := h
 exact ⟨D, ⟨es, c, hk _ h1, h2⟩, h3⟩

theorem MapF.alloc {w : World} {m n : Nat} {f : Int → Option Value} (h : MapF w m n f) (o : Obj) : MapF (w.alloc o) m n f := h.block fun _ hx => heap_up hx _

theorem MapF.lt {w : World} {m n : Nat} {f : Int → Option Value} (h : MapF w m n f) : m < w.heap.size := by
 obtain ⟨D, ⟨es, c, h1, _⟩, _⟩ := h
 exact lt_of_get h1

theorem MapF.tag {w : World} {m n : Nat} {f : Int → Option Value} (h : MapF w m n f) : ∃ o, w.heap[m]? = some o ∧ otag o = 1000000 := by
 obtain ⟨D, ⟨es, c, h1, _⟩, _⟩ := h
 exact ⟨_, h1, rfl⟩

theorem held_of {v : Value} {d : DataW Value} {ps : List MemPlace} (h : heldElem v = some (d, ps)) : d = .held v := by
 unfold heldElem at h; cases h; rfl

theorem MapF.look (t e : TypeId) (z : Value) {w : World} {m n : Nat} {f : Int → Option Value} (h : MapF w m n f) (ht : Tryz.prog.underlying t = some (.map 3 e)) (hz : (zeroValue e).run Tryz.prog w = .ok z w) (k : Int) (hk : (Lit.int .i64 k).wf = true) :
  (Instr.lookup t (.map (some m)) (.int .i64 k) true).run Tryz.prog w = .ok (.tuple #[(f k).getD z, .bool (f k).isSome]) w := by
 obtain ⟨D, ho, hm, ha, hh⟩ := h
 obtain ⟨v, ps, hr, hv⟩ := ho.look_ok lawI ht hz (zd := .held z) (zp := []) rfl (Maps.keyOf_int_mk Tryz.underlying3 hk)
 rw [hr, hh k]
 have := held_of hv
 rw [ha k] at this
 cases hf : f k with
 | none => rw [hf] at this; cases this; rfl
 | some x => rw [hf] at this; cases this; rfl

theorem MapF.look1 (t e : TypeId) (z : Value) {w : World} {m n : Nat} {f : Int → Option Value} (h : MapF w m n f) (ht : Tryz.prog.underlying t = some (.map 3 e)) (hz : (zeroValue e).run Tryz.prog w = .ok z w) (k : Int) (hk : (Lit.int .i64 k).wf = true) :
  (Instr.lookup t (.map (some m)) (.int .i64 k) false).run Tryz.prog w = .ok ((f k).getD z) w := by
 obtain ⟨D, ho, hm, ha, hh⟩ := h
 obtain ⟨v, ps, hr, hv⟩ := ho.lookup lawI ht hz (zd := .held z) (zp := []) rfl (Maps.keyOf_int_mk Tryz.underlying3 hk)
 rw [hr]
 have := held_of hv
 rw [ha k] at this
 cases hf : f k with
 | none => rw [hf] at this; cases this; rfl
 | some x => rw [hf] at this; cases this; rfl

theorem MapF.store (t e : TypeId) {w : World} {m n : Nat} {f : Int → Option Value} (h : MapF w m n f) (ht : Tryz.prog.underlying t = some (.map 3 e)) (hn : n < maxLen) (k : Int) (v : Value) (hk : (Lit.int .i64 k).wf = true) :
  ∃ w', (Instr.mapUpdate t (.map (some m)) (.int .i64 k) v).run Tryz.prog w = .ok () w' ∧ MapF w' m (n + 1) (upd f k v) ∧ w.grownBy w' (some m) := by
 obtain ⟨D, ho, hm, ha, hh⟩ := h
 have hkey := Maps.keyOf_int_mk Tryz.underlying3 hk
 obtain ⟨w', hr, ho', hg⟩ := ho.update lawI ht hn (val := v) (d := .held v) (ps := []) hkey rfl
 refine ⟨w', hr, ⟨_, ho', hm.put _ _, fun j z => ?_, fun j => ?_⟩, hg⟩
 ·unfold upd
  by_cases e : j = k
  ·subst e
   rw [if_pos rfl, Maps.atKey_put_same hm (lawI.key hkey)]
  ·rw [if_neg e, Maps.atKey_put_other (by simpa using e), ha j z]
 ·unfold upd
  by_cases e : j = k
  ·subst e
   rw [if_pos rfl, Maps.has_put_same hm (lawI.key hkey)]; rfl
  ·rw [if_neg e, Maps.has_put_other (by simpa using e), hh j]

def cnt (l : List Int) : Int → Option Value := fun j => if l.count j = 0 then none else some (.int .i64 (l.count j))

theorem cnt_upd (l : List Int) (x : Int) : upd (cnt l) x (.int .i64 ((l.count x : Int) + 1)) = cnt (l ++ [x]) := by
 funext y
 unfold upd cnt
 by_cases e : y = x
 ·subst e; simp [List.count_append]
 ·have : ¬ x = y := fun h => e h.symm
  simp [e, this, List.count_append, List.count_cons]

theorem cnt_get (l : List Int) (x : Int) : (cnt l x).getD (.int .i64 0) = .int .i64 (l.count x) := by
 unfold cnt
 by_cases e : l.count x = 0
 ·rw [if_pos e, e]; rfl
 ·rw [if_neg e]; rfl

theorem cnt_nil : cnt [] = fun _ => none := by funext y; simp [cnt]

theorem zeroN (w : World) : (zeroValue 3).run Tryz.prog w = .ok (.int .i64 0) w := by kernel_rfl

theorem cnt_look {w : World} {m n : Nat} {l : List Int} (h : MapF w m n (cnt l)) {x : Int} (hx : -1000 ≤ x ∧ x ≤ 1000) :
  (Instr.lookup 139 (.map (some m)) (.int .i64 x) false).run Tryz.prog w = .ok (.int .i64 (l.count x)) w := by
 have h1 := h.look1 139 3 _ Tryz.underlying139 (zeroN _) x (wf64 (by omega))
 rw [h1, cnt_get]

theorem cnt_store {w : World} {m : Nat} {l : List Int} (h : MapF w m l.length (cnt l)) (hn : l.length ≤ 1000000000) {x : Int} (hx : -1000 ≤ x ∧ x ≤ 1000) :
  ∃ w', (Instr.mapUpdate 139 (.map (some m)) (.int .i64 x) (.int .i64 ((l.count x : Int) + 1))).run Tryz.prog w = .ok () w' ∧ MapF w' m (l ++ [x]).length (cnt (l ++ [x])) ∧ w.grownBy w' (some m) := by
 obtain ⟨w', hr, hm, hg⟩ := h.store 139 3 Tryz.underlying139 (by unfold maxLen; omega) x (.int .i64 ((l.count x : Int) + 1)) (wf64 (by omega))
 rw [cnt_upd] at hm
 exact ⟨w', hr, by simpa using hm, hg⟩

set_option maxRecDepth 20000 in
set_option maxHeartbeats 1000000 in
theorem noRefs_any (w : World) :
  Calls Tryz.prog 152 #[] w fun e w' => e = .returned (.agg #[.int .i64 (-1), .int .i64 (-1), .int .i64 (-1), .int .i64 (-1)]) ∧ Fr w.heap.size [] w w' := by
 go_enter Tryz.func152, Tryz.ntmps152
 go_wp2
 refine wp_loop_rounds 5 ?_
 rw [rounds_succ]
 go_wp2
 rw [rounds_succ]
 go_wp2
 rw [rounds_succ]
 go_wp2
 rw [rounds_succ]
 go_wp2
 rw [rounds_succ]
 go_wp2
 exact bodyPost_ret (v := .agg #[.int .i64 (-1), .int .i64 (-1), .int .i64 (-1), .int .i64 (-1)]) (by simp [results, Tryz.results152, go_sem]) rfl ⟨rfl, ((Fr.refl _ _ _).alloc _).alloc _⟩

set_option maxRecDepth 20000 in
set_option maxHeartbeats 1000000 in
theorem bitsMul_1_4 (w : World) :
  Calls Tryz.prog 180 #[.int .u64 1, .int .u64 4] w fun e w' => e = .returned (.tuple #[.int .u64 0, .int .u64 4]) ∧ w = w' := by
 go_enter Tryz.func180, Tryz.ntmps180
 go_wp2
 go_ret2
 exact ⟨by kernel_rfl, rfl⟩

theorem cell_new_at (w : World) (c : Array Value) (o : Nat) (u : Value) (h : c[o]? = some u) : (w.alloc (.cells c 3)).cell? ⟨w.heap.size, o, none⟩ = some u := by
 have := heap_alloc_new w (.cells c 3)
 unfold World.cell?
 rw [this]
 exact h

theorem copy_made (w : World) (o dLen dCap : Nat) (a : Addr) (sLen sCap : Nat) (cur : Array Value) (cs : List Value) (n : Nat) (hn' : n = w.heap.size) (hn : cs.length = Nat.min sLen dLen)
  (hsrc : ∀ j v, cs[j]? = some v → (w.alloc (.cells cur 3)).cell? (a.add j) = some v) (hfit : o + cs.length ≤ cur.size) (h1 : ∀ v ∈ cs, v.oneCell' = true) :
  (Builtin.copy_ #[24, 24] 3 #[.slice (some ⟨n, o, none⟩) dLen dCap, .slice (some a) sLen sCap]).run Tryz.prog (w.alloc (.cells cur 3)) =
   .ok (goInt cs.length) (w.alloc (.cells (cur.toList.take o ++ cs ++ cur.toList.drop (o + cs.length)).toArray 3)) := by
 subst hn'
 rw [run_copy_row (P := Tryz.prog) (w.alloc (.cells cur 3)) 24 24 3 3 w.heap.size o dLen dCap a sLen sCap cur 3 cs Tryz.underlying24 (by kernel_rfl) (heap_alloc_new w _) hn hsrc hfit h1, World.setRow_alloc_new]

set_option maxRecDepth 20000 in
set_option maxHeartbeats 1000000 in
theorem repeat_any (w : World) (b : Nat) (hb : w.heap[b]? = some (.cells #[.int .i64 (-1)] 3 (0, 0))) :
  Calls Tryz.prog 153 #[.slice (some ⟨b, 0, none⟩) 1 1, .int .i64 4] w fun e w' => w'.ownsRow w.heap.size 3 1 (.slice (some ⟨w.heap.size, 0, none⟩) 4 4) 4 [.int .i64 (-1), .int .i64 (-1), .int .i64 (-1), .int .i64 (-1)] ∧
   e = .returned (.slice (some ⟨w.heap.size, 0, none⟩) 4 4) ∧ Fr w.heap.size [] w w' := by
 have hbl := lt_of_get hb
 have c0 : ∀ o, (w.alloc o).cell? ⟨b, 0, none⟩ = some (.int .i64 (-1)) := fun o => by rw [World.cell?_alloc_past _ _ _ hbl]; simp [World.cell?, hb]
 have hmk : ∀ w : World, (Instr.makeSlice 24 (.int .i64 4) (.int .i64 4)).run Tryz.prog w = .ok (.slice (some ⟨w.heap.size, 0, none⟩) 4 4) (w.alloc (.cells #[.int .i64 0, .int .i64 0, .int .i64 0, .int .i64 0] 3)) := fun _ => by kernel_rfl
 have hc1 := copy_made w 0 4 4 ⟨b, 0, none⟩ 1 1 #[.int .i64 0, .int .i64 0, .int .i64 0, .int .i64 0] [.int .i64 (-1)] w.heap.size rfl rfl (fun j v hj => by
  match j, hj with
  | 0, hj => simp at hj; subst hj; exact c0 _) (by simp) (by simp [Value.oneCell'])
 have hc2 := copy_made w.drew 1 3 3 ⟨w.heap.size, 0, none⟩ 1 4 #[.int .i64 (-1), .int .i64 0, .int .i64 0, .int .i64 0] [.int .i64 (-1)] w.heap.size rfl rfl (fun j v hj => by
  match j, hj with
  | 0, hj => simp at hj; subst hj; exact cell_new_at w.drew _ 0 _ rfl) (by simp) (by simp [Value.oneCell'])
 have hc3 := copy_made w.drew.drew 2 2 2 ⟨w.heap.size, 0, none⟩ 2 4 #[.int .i64 (-1), .int .i64 (-1), .int .i64 0, .int .i64 0] [.int .i64 (-1), .int .i64 (-1)] w.heap.size rfl rfl (fun j v hj => by
  match j, hj with
  | 0, hj => simp at hj; subst hj; exact cell_new_at w.drew.drew _ 0 _ rfl
  | 1, hj => simp at hj; subst hj; exact cell_new_at w.drew.drew _ 1 _ rfl) (by simp) (by simp [Value.oneCell'])
 simp only [List.take_zero, List.nil_append, List.length_cons, List.length_nil, goInt] at hc1 hc2 hc3
 have hd2 : (Builtin.copy_ #[24, 24] 3 #[.slice (some ⟨w.heap.size, 1, none⟩) 3 3, .slice (some ⟨w.heap.size, 0, none⟩) 1 4]).run Tryz.prog (w.alloc (.cells #[.int .i64 (-1), .int .i64 0, .int .i64 0, .int .i64 0] 3)).drew = .ok (.int .i64 1) (w.alloc (.cells #[.int .i64 (-1), .int .i64 (-1), .int .i64 0, .int .i64 0] 3)).drew := hc2
 have hd3 : (Builtin.copy_ #[24, 24] 3 #[.slice (some ⟨w.heap.size, 2, none⟩) 2 2, .slice (some ⟨w.heap.size, 0, none⟩) 2 4]).run Tryz.prog (w.alloc (.cells #[.int .i64 (-1), .int .i64 (-1), .int .i64 0, .int .i64 0] 3)).drew.drew = .ok (.int .i64 2) (w.alloc (.cells #[.int .i64 (-1), .int .i64 (-1), .int .i64 (-1), .int .i64 (-1)] 3)).drew.drew := hc3
 clear hb c0 hc2 hc3
 go_enter Tryz.func153, Tryz.ntmps153
 go_wp2_with (go_at_call 180; go_must (refine (bitsMul_1_4 _).mono ?_; rintro e w' ⟨rfl, rfl⟩))
 refine wp_loop_rounds 3 ?_
 rw [rounds_succ]
 go_wp2
 go_region
 all_goals go_wp2
 all_goals rw [rounds_succ]
 all_goals go_wp2
 all_goals go_region
 all_goals go_wp2
 all_goals rw [rounds_succ]
 all_goals go_wp2
 all_goals
  refine bodyPost_ret (v := .slice (some ⟨w.heap.size, 0, none⟩) 4 4) (by simp [results, go_sem]) rfl ⟨?_, rfl, (((Fr.refl _ _ _).alloc _).drew).drew⟩
 all_goals exact ownsRow_keep (World.ownsRow_lit (e := 3) (size := 1) w #[.int .i64 (-1), .int .i64 (-1), .int .i64 (-1), .int .i64 (-1)] 4 (Nat.le_refl _) (by decide) rfl) (((Fr.refl 0 [] _).drew).drew) (by simp)

def HistNew (lo : Nat) (w : World) (h l m : Nat) : Prop :=
 lo ≤ h ∧ lo ≤ l ∧ lo ≤ m ∧ w.heap[h]? = some (.cells #[.int .i64 (-1), .int .i64 (-1), .int .i64 (-1), .int .i64 (-1), .slice (some ⟨l, 0, none⟩) 4 4, .map (some m)] 126 (0, 0)) ∧
  w.heap[m]? = some (.map #[] 0) ∧ w.ownsRow lo 3 1 (.slice (some ⟨l, 0, none⟩) 4 4) 4 [.int .i64 (-1), .int .i64 (-1), .int .i64 (-1), .int .i64 (-1)]

set_option maxRecDepth 20000 in
set_option maxHeartbeats 1000000 in
theorem newHistory_any (w : World) :
  Calls Tryz.prog 105 #[] w fun e w' => ∃ h l m, e = .returned (.pointer (some ⟨h, 0, none⟩)) ∧ HistNew w.heap.size w' h l m ∧ Fr w.heap.size [] w w' := by
 have hmm := @run_makeMap Tryz.prog
 go_enter Tryz.func105, Tryz.ntmps105
 go_wp2_with (first
  | (go_at_call 152; go_must (refine (noRefs_any _).mono ?_; rintro e w1 ⟨rfl, fr1⟩))
  | (go_at_call 153; go_must (refine (repeat_any _ _ (heap_alloc_eq _ _ (by simp))).mono ?_; rintro e w2 ⟨own2, rfl, fr2⟩; have sz1 := fr1.size; have m1 := hid (fr2.keep _ _ (heap_up (heap_up (heap_alloc_new w1 (.map #[] 0)) _) _) (.inr (by simp))); have b1 := (fr2.keep _ _ (heap_up (heap_alloc_eq (n := w1.heap.size + 1) (w1.alloc (.map #[] 0)) (.cells #[.int .i64 (-1), .int .i64 (-1), .int .i64 (-1), .int .i64 (-1), .slice none 0 0, .map (some w1.heap.size)] 126) (by simp)) _) (.inr (by simp))); have B1 := hid b1; have c4 := cell_of (o := 4) b1 rfl; have f4 := free_of (o := 4) b1; clear b1)))
 have FE := (Fr.refl 0 [126] w2).setOld (p := ⟨w1.heap.size + 1, 4, none⟩) B1.out (Nat.zero_le _) (by simp [otag]) (.slice (some ⟨w1.heap.size + 1 + 1 + 1, 0, none⟩) 4 4)
 have F2 : Fr w.heap.size [] w w2 := (((fr1.alloc _).alloc _).alloc _).trans fr2.nil
 have FN := F2.setNew (p := ⟨w1.heap.size + 1, 4, none⟩) (by dsimp only; omega) (.slice (some ⟨w1.heap.size + 1 + 1 + 1, 0, none⟩) 4 4)
 have o2 : w2.ownsRow w.heap.size 3 1 (.slice (some ⟨w1.heap.size + 1 + 1 + 1, 0, none⟩) 4 4) 4 [.int .i64 (-1), .int .i64 (-1), .int .i64 (-1), .int .i64 (-1)] := by
  have h := ownsRow_lo own2 (lo' := w.heap.size) (by simp; omega)
  simpa using h
 exact bodyPost_ret (v := .pointer (some ⟨w1.heap.size + 1, 0, none⟩)) (by simp [results, Tryz.results105, go_sem]) rfl ⟨_, w1.heap.size + 1 + 1 + 1, w1.heap.size, rfl, ⟨by omega, by omega, by omega, block_set B1.out 4 _, block_setne m1.out (by dsimp only; omega), ownsRow_keep o2 FE (by simp)⟩, FN⟩

end Go.Proofs.YtknoanpgadecbaaGreatDoor

/- A region that draws its order and ends with a store into what it has loaded: what is held need not hold behind the last operation. -/
namespace Go.Proofs.YtknoanpgadecbaaGreatDoor
open Go Go.RowKit
set_option linter.unusedVariables false

section
variable {P : Program} {ops : Array Oper} {Q : Exit → Act → World → Prop} {md : Region.Mode} {S : World → Prop} {L : Nat}

def wpAnyL (P : Program) (md : Region.Mode) (ops : Array Oper) (Q : Exit → Act → World → Prop) (S : World → Prop) (L : Nat) : Nat → Array Bool → Act → World → Prop
 | 0, listed, a, w => Region.ready md ops listed = [] ∧ Q .normal a w
 | fuel + 1, listed, a, w =>
  (Region.ready md ops listed = [] → Q .normal a w) ∧
  ∀ i ∈ Region.ready md ops listed, wpOp P ops Q i (fun a' w' => (i = L ∨ S w') ∧ wpAnyL P md ops Q S L fuel (listed.setIfInBounds i true) a' w') a w

theorem wpAny_of_L : ∀ (fuel : Nat) (listed : Array Bool) (a : Act) (w : World), wpAnyL P md ops Q S L fuel listed a w → wpAny P md ops Q fuel listed a w
 | 0, _, _, _, h => h
 | fuel + 1, _, _, _, h => ⟨h.1, fun i hi => wpOp_mono (fun a' w' h' => wpAny_of_L fuel _ a' w' h'.2) (h.2 i hi)⟩

def waits (md : Region.Mode) (ops : Array Oper) (L i : Nat) : Bool := match ops[L]? with
 | some o => o.after.toList.any fun e => Region.binds md e && e.on == i
 | none => true

theorem waits_no {listed : Array Bool} {i : Nat} (h : waits md ops L i = true) (hi : i ∈ Region.ready md ops listed) : ¬ L ∈ Region.ready md ops listed := fun hL => by
 obtain ⟨hLun, o, ho, hall⟩ := mem_ready.1 hL
 unfold waits at h
 rw [ho] at h
 obtain ⟨e, he, hb⟩ := List.any_eq_true.1 h
 simp only [Bool.and_eq_true, beq_iff_eq] at hb
 have h1 := hall e (by simpa using he) hb.1
 rw [hb.2] at h1
 have h0 := (mem_ready.1 hi).1
 rcases Nat.lt_or_ge i listed.size with h' | h'
 ·simp [h'] at h0 h1; rw [h0] at h1; cases h1
 ·simp [Array.getElem?_eq_none h'] at h1

theorem wpAnyL_first {i : Nat} {oi : Oper} {v : Value} (hi : ops[i]? = some oi) (hsel : ∀ (j : Nat) (o : Oper) cs b, ops[j]? = some o → o.op ≠ .select cs b)
  (hQ : ∀ c a w, Q (.panic c) (a.put oi.dst v) w → Q (.panic c) a w) (hw : waits md ops L i = true) :
  ∀ (fuel : Nat) (listed : Array Bool) (a : Act) (w : World),
   (∀ j oj, ops[j]? = some oj → j ≠ i → listed.getD j true = false → (∀ e ∈ oj.after, Region.binds md e = true → e.on ≠ i) → oi.apart ops oj = true) →
   i ∈ Region.ready md ops listed → YieldsIf P ops S oi v a → S w →
   wpAnyL P md ops Q S L fuel (listed.setIfInBounds i true) (a.put oi.dst v) w → wpAnyL P md ops Q S L (fuel + 1) listed a w := by
 intro fuel
 induction fuel with
 | zero =>
  intro listed a w _ hr hy hS H
  refine ⟨fun h => (by rw [h] at hr; cases hr), fun j hj => ?_⟩
  by_cases hji : j = i
  ·subst hji; exact hy.wpOp hi hS ⟨.inr hS, H⟩
  ·have := ready_mono hj hji
   rw [H.1] at this
   cases this
 | succ fuel ih =>
  intro listed a w hfree hr hy hS H
  refine ⟨fun h => (by rw [h] at hr; cases hr), fun j hj => ?_⟩
  by_cases hji : j = i
  ·subst hji; exact hy.wpOp hi hS ⟨.inr hS, H⟩
  ·have hjL : j ≠ L := fun e => waits_no hw hr (e ▸ hj)
   have h1 := H.2 j (ready_mono hj hji)
   obtain ⟨hjun, oj, hoj, hall⟩ := mem_ready.1 hj
   have hnot : ∀ e ∈ oj.after, Region.binds md e = true → e.on ≠ i := fun e he hb heq => by
    have h1 := hall e he hb
    have h0 := (mem_ready.1 hr).1
    rw [heq] at h1
    rcases Nat.lt_or_ge i listed.size with h' | h'
    ·simp [h'] at h0 h1; rw [h0] at h1; cases h1
    ·simp [Array.getElem?_eq_none h'] at h1
   have h2 := wpOp_putIf hoj (hfree j oj hoj hji hjun hnot) (fun cs b => hsel i oi cs b hi) (fun cs b => hsel j oj cs b hoj) hQ hy h1
   have hfree' : ∀ k ok, ops[k]? = some ok → k ≠ i → (listed.setIfInBounds j true).getD k true = false →
     (∀ e ∈ ok.after, Region.binds md e = true → e.on ≠ i) → oi.apart ops ok = true := fun k ok hk hki hun hno => by
    refine hfree k ok hk hki ?_ hno
    by_cases hjk : j = k
    ·subst hjk; exact hjun
    ·rw [getD_set_ne true hjk] at hun; exact hun
   refine wpOp_mono (fun a' w' h3 => ?_) h2
   have hS' := h3.2.1.resolve_left hjL
   refine ⟨.inr hS', ih (listed.setIfInBounds j true) a' w' hfree' (ready_mono hr (Ne.symm hji)) h3.1 hS' ?_⟩
   rw [Array.setIfInBounds_comm _ _ hji]
   exact h3.2.2

theorem wpAnyL_take {i : Nat} {oi : Oper} {v : Value} {fuel : Nat} {listed : Array Bool} {a : Act} {w : World} (hi : ops[i]? = some oi)
  (hs : Region.noSelect ops = true) (hf : Region.free md ops listed i = true) (hr : (Region.ready md ops listed).contains i = true) (hw : waits md ops L i = true)
  (hQ : ∀ c a w, Q (.panic c) (a.put oi.dst v) w → Q (.panic c) a w) (hy : YieldsIf P ops S oi v a) (hS : S w)
  (h : wpAnyL P md ops Q S L fuel (listed.setIfInBounds i true) (a.put oi.dst v) w) : wpAnyL P md ops Q S L (fuel + 1) listed a w :=
 wpAnyL_first hi (Region.noSelect_spec hs) hQ hw fuel listed a w (Region.free_spec hi hf) (by simpa using hr) hy hS h

theorem wpAnyL_one {i : Nat} {o : Oper} {fuel : Nat} {listed : Array Bool} {a : Act} {w : World} (hr : Region.ready md ops listed = [i]) (ho : ops[i]? = some o)
  (h : ∀ K' : Act → World → Prop, Shut (∀ a w, (i = L ∨ S w) → (S w ∨ i = L → wpAnyL P md ops Q S L fuel (listed.setIfInBounds i true) a w) → K' a w) → if Region.wanted o (yielded ops a.tmps) = true then Oper.wp P o a w K' Q else K' (a.put o.dst undef) w) :
  wpAnyL P md ops Q S L (fuel + 1) listed a w :=
 ⟨fun h0 => (by rw [h0] at hr; cases hr), fun j hj => by
  rw [hr] at hj
  obtain rfl := List.mem_singleton.1 hj
  exact wpOp_step ho (fun K' hK => h K' (fun a w hS hW => hK a w ⟨hS, hW hS.symm⟩))⟩

def AllReadyL (P : Program) (md : Region.Mode) (ops : Array Oper) (Q : Exit → Act → World → Prop) (S : World → Prop) (L fuel : Nat) (listed : Array Bool) (a : Act) (w : World) (rs : List Nat) : Prop :=
 ∀ i ∈ rs, wpOp P ops Q i (fun a' w' => (i = L ∨ S w') ∧ wpAnyL P md ops Q S L fuel (listed.setIfInBounds i true) a' w') a w

theorem AllReadyL.nil {fuel : Nat} {listed : Array Bool} {a : Act} {w : World} : AllReadyL P md ops Q S L fuel listed a w [] := fun _ h => by cases h

theorem AllReadyL.cons {fuel : Nat} {listed : Array Bool} {a : Act} {w : World} {i : Nat} {o : Oper} {rs : List Nat} (ho : ops[i]? = some o)
  (h : ∀ K' : Act → World → Prop, Shut (∀ a w, (i = L ∨ S w) → (S w ∨ i = L → wpAnyL P md ops Q S L fuel (listed.setIfInBounds i true) a w) → K' a w) → if Region.wanted o (yielded ops a.tmps) = true then Oper.wp P o a w K' Q else K' (a.put o.dst undef) w)
  (hs : AllReadyL P md ops Q S L fuel listed a w rs) : AllReadyL P md ops Q S L fuel listed a w (i :: rs) := fun j hj => by
 rcases List.mem_cons.1 hj with rfl | hj
 ·exact wpOp_step ho (fun K' hK => h K' (fun a w hS hW => hK a w ⟨hS, hW hS.symm⟩))
 ·exact hs j hj

theorem wpAnyL_ready {rs : List Nat} {fuel : Nat} {listed : Array Bool} {a : Act} {w : World} (hr : Region.ready md ops listed = rs) (hne : rs ≠ [])
  (h : AllReadyL P md ops Q S L fuel listed a w rs) : wpAnyL P md ops Q S L (fuel + 1) listed a w :=
 ⟨fun h0 => absurd (hr ▸ h0) hne, fun j hj => h j (hr ▸ hj)⟩

theorem wpAnyL_done {listed : Array Bool} {a : Act} {w : World} (hr : Region.ready md ops listed = []) (h : Q .normal a w) :
  ∀ fuel, wpAnyL P md ops Q S L fuel listed a w
 | 0 => ⟨hr, h⟩
 | _ + 1 => ⟨fun _ => h, by rw [hr]; simp⟩

theorem wp_region_L (L : Nat) {id : Nat} {a : Act} {w : World} (hm : P.follows .mixedOrders = true) (hS : S w.drew)
  (h : S w.drew → wpAnyL P .any ops Q S L ops.size (Array.replicate ops.size false) a w.drew) : (Code.region id ops true).wp P Q a w :=
 wp_region_any hm (wpAny_of_L _ _ _ _ (h hS))
end

theorem xor_i64_nat (a b : Nat) (ha : a < 4611686018427387904) (hb : b < 4611686018427387904) :
  bits .xor .i64 (a : Int) (b : Int) = ((a ^^^ b : Nat) : Int) := by
 have hx : a ^^^ b < 2 ^ 62 := Nat.xor_lt_two_pow (by omega) (by omega)
 have h1 : (BitVec.ofInt 64 (a : Int)).toNat = a := by
  rw [BitVec.ofInt_natCast, BitVec.toNat_ofNat]; exact Nat.mod_eq_of_lt (by omega)
 have h2 : (BitVec.ofInt 64 (b : Int)).toNat = b := by
  rw [BitVec.ofInt_natCast, BitVec.toNat_ofNat]; exact Nat.mod_eq_of_lt (by omega)
 show IntKind.i64.wrap ((BitVec.ofInt 64 (a : Int) ^^^ BitVec.ofInt 64 (b : Int)).toNat : Int) = _
 rw [BitVec.toNat_xor, h1, h2, IntKind.wrap_i64]
 omega

def Rdr (B : Nat) (w : World) (r p : Nat) : Prop :=
 B ≤ r ∧ ∃ a len cap, w.heap[r]? = some (.cells #[.slice a len cap, .int .i64 (p : Int)] 86 (0, 0)) ∧ len ≤ 2000 ∧
  (0 < len → ∃ b off, a = some ⟨b, off, none⟩ ∧ b < B ∧ ∀ i, i < len → ∃ c : Nat, c < 256 ∧ w.cell? ⟨b, off + i, none⟩ = some (.int .u8 (c : Int)))

theorem Rdr.keep {B : Nat} {T : List Nat} {w w' : World} {r p : Nat} (h : Rdr B w r p) (hf : Fr B T w w') (hT : 86 ∉ T) : Rdr B w' r p := by
 obtain ⟨h0, a, len, cap, h1, h2, h3⟩ := h
 refine ⟨h0, a, len, cap, hf.keep _ _ h1 (.inr hT), h2, fun hl => ?_⟩
 obtain ⟨b, off, g1, g2, g3⟩ := h3 hl
 refine ⟨b, off, g1, g2, fun i hi => ?_⟩
 obtain ⟨c, hc, hcc⟩ := g3 i hi
 exact ⟨c, hc, hf.cell g2 hcc⟩

theorem Rdr.lt {B : Nat} {w : World} {r p : Nat} (h : Rdr B w r p) : r < w.heap.size := by
 obtain ⟨_, a, len, cap, h1, _⟩ := h
 exact lt_of_get h1

theorem Rdr.step {B : Nat} {w : World} {r p : Nat} (h : Rdr B w r p) : Rdr B (w.setCell ⟨r, 1, none⟩ (.int .i64 ((p : Int) + 1))) r (p + 1) ∧ Fr B [86] w (w.setCell ⟨r, 1, none⟩ (.int .i64 ((p : Int) + 1))) := by
 obtain ⟨h0, a, len, cap, h1, h2, h3⟩ := h
 have hf : Fr B [86] w (w.setCell ⟨r, 1, none⟩ (.int .i64 ((p : Int) + 1))) := (Fr.refl _ _ _).setOld (p := ⟨r, 1, none⟩) h1 h0 (by simp [otag]) _
 refine ⟨⟨h0, a, len, cap, ?_, h2, fun hl => ?_⟩, hf⟩
 ·simp [World.setCell, Array.getElem?_modify, h1]
 ·obtain ⟨b, off, g1, g2, g3⟩ := h3 hl
  refine ⟨b, off, g1, g2, fun i hi => ?_⟩
  obtain ⟨c, hc, hcc⟩ := g3 i hi
  exact ⟨c, hc, hf.cell g2 hcc⟩

def PickPost (B r p : Nat) (n : Int) (w : World) (e : Ending) (w' : World) : Prop :=
 ∃ k : Nat, e = .returned (.int .i64 (k : Int)) ∧ (k = 0 ∨ (k : Int) < n) ∧ Rdr B w' r (p + 1) ∧ Fr B [86] w w'

theorem pick_post {B r p : Nat} {n : Int} {w : World} (h : Rdr B w r p) (m : Nat) {x : Int} (h0 : 0 ≤ x) (hx : x = 0 ∨ x < n) :
  PickPost B r p n w (.returned (.int .i64 x)) ((w.setCell ⟨r, 1, none⟩ (.int .i64 ((p : Int) + 1))).drewN m) := by
 obtain ⟨k, rfl⟩ := Int.eq_ofNat_of_zero_le h0
 obtain ⟨g1, g2⟩ := h.step
 exact ⟨k, rfl, by omega, g1.keep ((Fr.refl B [] _).drewN m) (by simp), g2.drewN m⟩

theorem rd_x (v1 v2 p q : Nat) (n : Int) (hn : 1 ≤ n) (h1 : v1 < 256) (h2 : v2 < 256) (hp : p ≤ 1000000000) (hq : q ≤ p) :
  0 ≤ (bits BinOp.xor IntKind.i64 ((v1 : Int) * 131 + v2 * 1117 + p * 29 + (q : Int) * 53) (((v1 : Int) * 131 + v2 * 1117 + p * 29 + (q : Int) * 53) / 64)).tmod n ∧
  (bits BinOp.xor IntKind.i64 ((v1 : Int) * 131 + v2 * 1117 + p * 29 + (q : Int) * 53) (((v1 : Int) * 131 + v2 * 1117 + p * 29 + (q : Int) * 53) / 64)).tmod n < n := by
 have e : (v1 : Int) * 131 + v2 * 1117 + p * 29 + (q : Int) * 53 = ((v1 * 131 + v2 * 1117 + p * 29 + q * 53 : Nat) : Int) := by omega
 rw [e]
 have e2 : ((v1 * 131 + v2 * 1117 + p * 29 + q * 53 : Nat) : Int) / 64 = (((v1 * 131 + v2 * 1117 + p * 29 + q * 53) / 64 : Nat) : Int) := by omega
 rw [e2, xor_i64_nat _ _ (by omega) (by omega)]
 exact ⟨Int.tmod_nonneg _ (by omega), Int.tmod_lt_of_pos _ (by omega)⟩

set_option maxHeartbeats 400000 in
theorem pick_mix (B r b off len cap p v1 v2 : Nat) (n : Int) (w : World) (hp : p ≤ 1000000000)
  (hR : Rdr B w r p)
  (c0 : w.cell? ⟨r, 0, none⟩ = some (.slice (some ⟨b, off, none⟩) len cap))
  (c1 : w.cell? ⟨r, 1, none⟩ = some (.int .i64 p))
  (f1 : w.frozen? ⟨r, 1, none⟩ = false)
  (hbr : b ≠ r) (hl : len ≤ 2000)
  (hn : 1 ≤ n) (hlen : len ≠ 0) (hge : len ≤ p)
  (h1 : v1 < 256) (h2 : v2 < 256)
  (hc1 : w.cell? ⟨b, off + p % len, none⟩ = some (.int .u8 v1))
  (hc2 : w.cell? ⟨b, off + (p * 7 + 3) % len, none⟩ = some (.int .u8 v2)) :
  Calls Tryz.prog 34 #[.pointer (some ⟨r, 0, none⟩), .int .i64 n] w (PickPost B r p n w) := by
 have hl0 : ((len : Int) == 0) = false := by simp; omega
 have hl1 : (0 : Int) < (len : Int) := by omega
 have hge' : ¬ (p : Int) < (len : Int) := by omega
 have hn' : ¬ n < 1 := by omega
 have a1 : 0 ≤ (p : Int) % len := Int.emod_nonneg _ (by omega)
 have a2 : (p : Int) % len < len := Int.emod_lt_of_pos _ (by omega)
 have a3 : 0 ≤ ((p : Int) * 7 + 3) % len := Int.emod_nonneg _ (by omega)
 have a4 : ((p : Int) * 7 + 3) % len < len := Int.emod_lt_of_pos _ (by omega)
 have a5 : 0 ≤ (p : Int) / len := Int.ediv_nonneg (by omega) (by omega)
 have a6 : (p : Int) / len ≤ p := Int.ediv_le_self _ (by omega)
 have hfin : 0 ≤ (bits BinOp.xor IntKind.i64 ((v1 : Int) * 131 + v2 * 1117 + p * 29 + ((p : Int) / len) * 53) (((v1 : Int) * 131 + v2 * 1117 + p * 29 + ((p : Int) / len) * 53) / 64)).tmod n ∧
  (bits BinOp.xor IntKind.i64 ((v1 : Int) * 131 + v2 * 1117 + p * 29 + ((p : Int) / len) * 53) (((v1 : Int) * 131 + v2 * 1117 + p * 29 + ((p : Int) / len) * 53) / 64)).tmod n < n := by
  have := rd_x v1 v2 p (p / len) n hn h1 h2 hp (Nat.div_le_self _ _)
  rw [Int.natCast_ediv] at this
  exact this
 have HF := hid hfin
 clear hfin
 go_enter Tryz.func34, Tryz.ntmps34
 go_wp2
 go_quiet (fail)
 go_wp2
 go_ret
 exact pick_post hR _ HF.out.1 (.inr HF.out.2)

set_option maxHeartbeats 400000 in
theorem pick_byte (B r b off len cap p v1 : Nat) (n : Int) (w : World) (hp : p ≤ 1000000000)
  (hR : Rdr B w r p)
  (c0 : w.cell? ⟨r, 0, none⟩ = some (.slice (some ⟨b, off, none⟩) len cap))
  (c1 : w.cell? ⟨r, 1, none⟩ = some (.int .i64 p))
  (f1 : w.frozen? ⟨r, 1, none⟩ = false)
  (hbr : b ≠ r) (hl : len ≤ 2000)
  (hn : 1 ≤ n) (hge : p < len)
  (h1 : v1 < 256)
  (hc1 : w.cell? ⟨b, off + p, none⟩ = some (.int .u8 v1)) :
  Calls Tryz.prog 34 #[.pointer (some ⟨r, 0, none⟩), .int .i64 n] w (PickPost B r p n w) := by
 have hl0 : ((len : Int) == 0) = false := by simp; omega
 have hge' : (p : Int) < (len : Int) := by omega
 have hn' : ¬ n < 1 := by omega
 have hfin : 0 ≤ (v1 : Int) % n ∧ (v1 : Int) % n < n := ⟨Int.emod_nonneg _ (by omega), Int.emod_lt_of_pos _ (by omega)⟩
 have HF := hid hfin
 clear hfin
 go_enter Tryz.func34, Tryz.ntmps34
 go_wp2
 go_ret
 exact pick_post hR 0 HF.out.1 (.inr HF.out.2)

set_option maxHeartbeats 400000 in
theorem pick_none (B r len cap p : Nat) (a : Option Addr) (n : Int) (w : World) (hp : p ≤ 1000000000)
  (hR : Rdr B w r p)
  (c0 : w.cell? ⟨r, 0, none⟩ = some (.slice a len cap))
  (c1 : w.cell? ⟨r, 1, none⟩ = some (.int .i64 p))
  (f1 : w.frozen? ⟨r, 1, none⟩ = false)
  (hn : n < 1) :
  Calls Tryz.prog 34 #[.pointer (some ⟨r, 0, none⟩), .int .i64 n] w (PickPost B r p n w) := by
 go_enter Tryz.func34, Tryz.ntmps34
 go_wp2
 go_ret
 exact pick_post hR 0 (Int.le_refl 0) (.inl rfl)

set_option maxHeartbeats 400000 in
theorem pick_empty (B r cap p : Nat) (a : Option Addr) (n : Int) (w : World) (hp : p ≤ 1000000000)
  (hR : Rdr B w r p)
  (c0 : w.cell? ⟨r, 0, none⟩ = some (.slice a 0 cap))
  (c1 : w.cell? ⟨r, 1, none⟩ = some (.int .i64 p))
  (f1 : w.frozen? ⟨r, 1, none⟩ = false)
  (hn : 1 ≤ n) :
  Calls Tryz.prog 34 #[.pointer (some ⟨r, 0, none⟩), .int .i64 n] w (PickPost B r p n w) := by
 have hn' : ¬ n < 1 := by omega
 go_enter Tryz.func34, Tryz.ntmps34
 go_wp2
 go_ret
 exact pick_post hR 0 (Int.le_refl 0) (.inl rfl)

theorem pick_any (B r p : Nat) (n : Int) (w : World) (hp : p ≤ 1000000000) (hR : Rdr B w r p) :
  Calls Tryz.prog 34 #[.pointer (some ⟨r, 0, none⟩), .int .i64 n] w (PickPost B r p n w) := by
 obtain ⟨h0, a, len, cap, h1, h2, h3⟩ := id hR
 have c0 : w.cell? ⟨r, 0, none⟩ = some (.slice a len cap) := by simp [World.cell?, h1]
 have c1 : w.cell? ⟨r, 1, none⟩ = some (.int .i64 p) := by simp [World.cell?, h1]
 have f1 : w.frozen? ⟨r, 1, none⟩ = false := by simp [World.frozen?, h1]
 by_cases hn : n < 1
 ·exact pick_none B r len cap p a n w hp hR c0 c1 f1 hn
 ·rcases Nat.eq_zero_or_pos len with rfl | hl
  ·exact pick_empty B r cap p a n w hp hR c0 c1 f1 (by omega)
  ·obtain ⟨b, off, rfl, g2, g3⟩ := h3 hl
   by_cases hge : p < len
   ·obtain ⟨v1, g4, g5⟩ := g3 p hge
    exact pick_byte B r b off len cap p v1 n w hp hR c0 c1 f1 (by omega) h2 (by omega) hge g4 g5
   ·obtain ⟨v1, g4, g5⟩ := g3 (p % len) (Nat.mod_lt _ hl)
    obtain ⟨v2, g6, g7⟩ := g3 ((p * 7 + 3) % len) (Nat.mod_lt _ hl)
    exact pick_mix B r b off len cap p v1 v2 n w hp hR c0 c1 f1 (by omega) h2 (by omega) (by omega) (by omega) g4 g6 g5 g7

def encU (u : Upd) : List Value := [.int .i64 u.ref, .int .i64 u.old, .int .i64 u.new]
def encR (z : Rc × Value) : List Value := [.int .i64 z.1.kind, .int .i64 z.1.txn, z.2]
def encI (n : Int) : List Value := [.int .i64 n]

def UpsR (K : Nat → Bool → Prop) (w : World) (v : Value) (us : List Upd) : Prop := SlR K 97 3 w v us.length (us.flatMap encU)
def RecsR (K : Nat → Bool → Prop) (w : World) (v : Value) (rs : List Rc) : Prop :=
 ∃ zs : List (Rc × Value), zs.map (·.1) = rs ∧ SlR K 94 3 w v rs.length (zs.flatMap encR) ∧ ∀ z ∈ zs, UpsR K w z.2 z.1.ups
def IntsR (K : Nat → Bool → Prop) (w : World) (v : Value) (l : List Int) : Prop := SlR K 3 1 w v l.length (l.map (Value.int .i64))

theorem UpsR.keep {K : Nat → Bool → Prop} {B : Nat} {T : List Nat} {w w' : World} {v : Value} {us : List Upd} (h : UpsR K w v us) (hf : Fr B T w w') (hs : Safe K B T 97) : UpsR K w' v us := SlR.keep h hf hs
theorem UpsR.grow {K : Nat → Bool → Prop} {B : Nat} {w w' : World} {v : Value} {us : List Upd} (h : UpsR K w v us) (hf : Fr B [] w w') : UpsR K w' v us := SlR.grow h hf
theorem UpsR.weak {K K' : Nat → Bool → Prop} {w : World} {v : Value} {us : List Upd} (h : UpsR K w v us) (hk : ∀ b t, b < w.heap.size → K b t → K' b t) : UpsR K' w v us := SlR.weak h hk
theorem IntsR.keep {K : Nat → Bool → Prop} {B : Nat} {T : List Nat} {w w' : World} {v : Value} {l : List Int} (h : IntsR K w v l) (hf : Fr B T w w') (hs : Safe K B T 3) : IntsR K w' v l := SlR.keep h hf hs
theorem IntsR.grow {K : Nat → Bool → Prop} {B : Nat} {w w' : World} {v : Value} {l : List Int} (h : IntsR K w v l) (hf : Fr B [] w w') : IntsR K w' v l := SlR.grow h hf
theorem IntsR.weak {K K' : Nat → Bool → Prop} {w : World} {v : Value} {l : List Int} (h : IntsR K w v l) (hk : ∀ b t, b < w.heap.size → K b t → K' b t) : IntsR K' w v l := SlR.weak h hk
theorem RecsR.keep {K : Nat → Bool → Prop} {B : Nat} {T : List Nat} {w w' : World} {v : Value} {rs : List Rc} (h : RecsR K w v rs) (hf : Fr B T w w') (hs : Safe K B T 97) (hs' : Safe K B T 94) : RecsR K w' v rs := by
 obtain ⟨zs, h1, h2, h3⟩ := h
 exact ⟨zs, h1, h2.keep hf hs', fun z hz => (h3 z hz).keep hf hs⟩
theorem RecsR.grow {K : Nat → Bool → Prop} {B : Nat} {w w' : World} {v : Value} {rs : List Rc} (h : RecsR K w v rs) (hf : Fr B [] w w') : RecsR K w' v rs := by
 obtain ⟨zs, h1, h2, h3⟩ := h
 exact ⟨zs, h1, h2.grow hf, fun z hz => (h3 z hz).grow hf⟩
theorem RecsR.weak {K K' : Nat → Bool → Prop} {w : World} {v : Value} {rs : List Rc} (h : RecsR K w v rs) (hk : ∀ b t, b < w.heap.size → K b t → K' b t) : RecsR K' w v rs := by
 obtain ⟨zs, h1, h2, h3⟩ := h
 exact ⟨zs, h1, h2.weak hk, fun z hz => (h3 z hz).weak hk⟩

theorem fmU (us : List Upd) (i j : Nat) (hj : j < 3) (hi : i < us.length) : (us.flatMap encU)[i * 3 + j]? = (encU us[i])[j]? := fm_get encU 3 (fun _ => rfl) us i j hj hi
theorem fmR (zs : List (Rc × Value)) (i j : Nat) (hj : j < 3) (hi : i < zs.length) : (zs.flatMap encR)[i * 3 + j]? = (encR zs[i])[j]? := fm_get encR 3 (fun _ => rfl) zs i j hj hi

theorem UpsR.shape {K : Nat → Bool → Prop} {w : World} {v : Value} {us : List Upd} (h : UpsR K w v us) :
  ∃ a cap, v = .slice a us.length cap ∧ us.length ≤ cap ∧ (us = [] ∨ ∃ b off, a = some ⟨b, off, none⟩ ∧ b < w.heap.size ∧
   ∀ i (hi : i < us.length), w.cell? ⟨b, off + i * 3, none⟩ = some (.int .i64 us[i].ref) ∧ w.cell? ⟨b, off + i * 3 + 1, none⟩ = some (.int .i64 us[i].old) ∧ w.cell? ⟨b, off + i * 3 + 2, none⟩ = some (.int .i64 us[i].new)) := by
 rcases us with _ | ⟨u, us⟩
 ·obtain ⟨a, cap, h1, h2, h3, h4, h5⟩ := h
  exact ⟨a, cap, h1, h3, .inl rfl⟩
 ·obtain ⟨b, off, cap, h1, h2, h3, h4, h5⟩ := SlR.cells h (by simp)
  refine ⟨_, cap, h1, h3, .inr ⟨b, off, rfl, h2, fun i hi => ⟨?_, ?_, ?_⟩⟩⟩
  ·exact h5 (i * 3) _ (by have := fmU (u :: us) i 0 (by omega) hi; simpa [encU] using this)
  ·exact h5 (i * 3 + 1) _ (by have := fmU (u :: us) i 1 (by omega) hi; simpa [encU] using this)
  ·exact h5 (i * 3 + 2) _ (by have := fmU (u :: us) i 2 (by omega) hi; simpa [encU] using this)

theorem RecsR.shape {K : Nat → Bool → Prop} {w : World} {v : Value} {rs : List Rc} (h : RecsR K w v rs) :
  ∃ a cap, v = .slice a rs.length cap ∧ rs.length ≤ cap ∧ (rs = [] ∨ ∃ b off, a = some ⟨b, off, none⟩ ∧ b < w.heap.size ∧
   ∀ i (hi : i < rs.length), ∃ u, w.cell? ⟨b, off + i * 3, none⟩ = some (.int .i64 rs[i].kind) ∧ w.cell? ⟨b, off + i * 3 + 1, none⟩ = some (.int .i64 rs[i].txn) ∧ w.cell? ⟨b, off + i * 3 + 2, none⟩ = some u ∧ UpsR K w u rs[i].ups) := by
 obtain ⟨zs, hz, h, hu⟩ := h
 have hlen : zs.length = rs.length := by rw [← hz]; simp
 rcases rs with _ | ⟨r, rs⟩
 ·obtain ⟨a, cap, h1, h2, h3, h4, h5⟩ := h
  exact ⟨a, cap, h1, h3, .inl rfl⟩
 ·obtain ⟨b, off, cap, h1, h2, h3, h4, h5⟩ := SlR.cells h (by simp)
  refine ⟨_, cap, h1, h3, .inr ⟨b, off, rfl, h2, fun i hi => ?_⟩⟩
  have hi' : i < zs.length := by omega
  have e : (r :: rs)[i] = zs[i].1 := by
   have : (zs.map (·.1))[i]? = (r :: rs)[i]? := by rw [hz]
   rw [List.getElem?_map, List.getElem?_eq_getElem hi', List.getElem?_eq_getElem hi] at this
   simpa using this.symm
  rw [e]
  refine ⟨zs[i].2, ?_, ?_, ?_, hu _ (List.getElem_mem hi')⟩
  ·exact h5 (i * 3) _ (by have := fmR zs i 0 (by omega) hi'; simpa [encR] using this)
  ·exact h5 (i * 3 + 1) _ (by have := fmR zs i 1 (by omega) hi'; simpa [encR] using this)
  ·exact h5 (i * 3 + 2) _ (by have := fmR zs i 2 (by omega) hi'; simpa [encR] using this)

theorem IntsR.shape {K : Nat → Bool → Prop} {w : World} {v : Value} {l : List Int} (h : IntsR K w v l) :
  ∃ a cap, v = .slice a l.length cap ∧ l.length ≤ cap ∧ (l = [] ∨ ∃ b off, a = some ⟨b, off, none⟩ ∧ b < w.heap.size ∧ ∀ i (hi : i < l.length), w.cell? ⟨b, off + i, none⟩ = some (.int .i64 l[i])) := by
 rcases l with _ | ⟨u, l⟩
 ·obtain ⟨a, cap, h1, h2, h3, h4, h5⟩ := h
  exact ⟨a, cap, h1, h3, .inl rfl⟩
 ·obtain ⟨b, off, cap, h1, h2, h3, h4, h5⟩ := SlR.cells h (by simp)
  refine ⟨_, cap, h1, h3, .inr ⟨b, off, rfl, h2, fun i hi => ?_⟩⟩
  exact h5 i _ (by rw [List.getElem?_map, List.getElem?_eq_getElem hi]; rfl)

theorem SlR.take {K : Nat → Bool → Prop} {E sz : Nat} {w : World} {a : Option Addr} {n cap : Nat} {cs : List Value} (h : SlR K E sz w (.slice a n cap) n cs) {k : Nat} (hk : k ≤ n) : SlR K E sz w (.slice a k cap) k (cs.take (k * sz)) := by
 obtain ⟨a', cap', h1, h2, h3, h4, h5⟩ := h
 simp only [Value.slice.injEq, true_and] at h1
 obtain ⟨rfl, rfl⟩ := h1
 refine ⟨a, cap, rfl, by rw [List.length_take, h2]; exact Nat.min_eq_left (Nat.mul_le_mul_right _ hk), by omega, fun e => ⟨by have := (h4 e).1; omega, (h4 e).2⟩, fun hn => ?_⟩
 obtain ⟨b, off, cur, e, fr, g1, g2, g3, g4⟩ := h5 (by omega)
 refine ⟨b, off, cur, e, fr, g1, g2, g3, fun j u hu => g4 j u ?_⟩
 rw [List.getElem?_take] at hu
 split at hu
 ·exact hu
 ·cases hu

theorem fm_take {α : Type} (f : α → List Value) (sz : Nat) (hf : ∀ x, (f x).length = sz) (l : List α) (k : Nat) : (l.flatMap f).take (k * sz) = (l.take k).flatMap f := by
 induction l generalizing k with
 | nil => simp
 | cons x l ih =>
  cases k with
  | zero => simp
  | succ k =>
   rw [List.flatMap_cons, List.take_succ_cons, List.flatMap_cons, ← ih k, List.take_append, hf]
   have h1 : (k + 1) * sz - sz = k * sz := by rw [Nat.succ_mul]; omega
   rw [h1, List.take_of_length_le (by rw [hf, Nat.succ_mul]; omega)]

theorem RecsR.take {K : Nat → Bool → Prop} {w : World} {a : Option Addr} {n cap : Nat} {rs : List Rc} (h : RecsR K w (.slice a n cap) rs) (hn : n = rs.length) {k : Nat} (hk : k ≤ n) : RecsR K w (.slice a k cap) (rs.take k) := by
 obtain ⟨zs, h1, h2, h3⟩ := h
 subst hn
 refine ⟨zs.take k, by rw [List.map_take, h1], ?_, fun z hz => h3 z (List.mem_of_mem_take hz)⟩
 have := h2.take hk
 rw [fm_take encR 3 (fun _ => rfl)] at this
 rw [List.length_take, Nat.min_eq_left hk]
 exact this

theorem ret_bool {a b : Bool} (h : a = b) : Ending.returned (.bool a) = .returned (.bool b) := by rw [h]
theorem ret_int {k : IntKind} {a b : Int} (h : a = b) : Ending.returned (.int k a) = .returned (.int k b) := by rw [h]

set_option maxHeartbeats 400000 in
theorem inRange_any (n lo hi : Int) (w : World) :
  Calls Tryz.prog 16 #[.int .i64 n, .int .i64 lo, .int .i64 hi] w fun e w' => e = .returned (.bool (inR n lo hi)) ∧ w = w' := by
 go_enter Tryz.func16, Tryz.ntmps16
 go_wp2
 all_goals
  go_ret
  exact ⟨ret_bool (by unfold inR; rw [Bool.eq_iff_iff]; simp; try omega), rfl⟩

set_option maxHeartbeats 400000 in
theorem l6In_any (n lo hi : Int) (w : World) :
  Calls Tryz.prog 22 #[.int .i64 n, .int .i64 lo, .int .i64 hi] w fun e w' => e = .returned (.bool (inR n lo hi)) ∧ w = w' := by
 go_enter Tryz.func22, Tryz.ntmps22
 go_wp2
 all_goals
  go_ret
  exact ⟨ret_bool (by unfold inR; rw [Bool.eq_iff_iff]; simp; try omega), rfl⟩

set_option maxHeartbeats 400000 in
theorem isTxn_any (n : Int) (w : World) :
  Calls Tryz.prog 66 #[.int .i64 n] w fun e w' => e = .returned (.bool (inR n 0 11)) ∧ w = w' := by
 go_enter Tryz.func66, Tryz.ntmps66
 go_wp2_with (go_at_call 16; refine (inRange_any _ _ _ _).mono ?_; rintro e w' ⟨rfl, rfl⟩)
 go_ret
 exact ⟨rfl, rfl⟩

set_option maxHeartbeats 400000 in
theorem isRefId_any (n : Int) (w : World) :
  Calls Tryz.prog 141 #[.int .i64 n] w fun e w' => e = .returned (.bool (inR n (-1) 990)) ∧ w = w' := by
 go_enter Tryz.func141, Tryz.ntmps141
 go_wp2_with (go_at_call 16; refine (inRange_any _ _ _ _).mono ?_; rintro e w' ⟨rfl, rfl⟩)
 go_ret
 exact ⟨rfl, rfl⟩

set_option maxHeartbeats 400000 in
theorem l12Txn_any (n : Int) (w : World) :
  Calls Tryz.prog 112 #[.int .i64 n] w fun e w' => e = .returned (.bool (inR n 0 11)) ∧ w = w' := by
 go_enter Tryz.func112, Tryz.ntmps112
 go_wp2_with (go_at_call 22; refine (l6In_any _ _ _ _).mono ?_; rintro e w' ⟨rfl, rfl⟩)
 go_ret
 exact ⟨rfl, rfl⟩

set_option maxHeartbeats 400000 in
theorem l11Value_any (n : Int) (w : World) :
  Calls Tryz.prog 154 #[.int .i64 n] w fun e w' => e = .returned (.bool (inR n (-1) 990)) ∧ w = w' := by
 go_enter Tryz.func154, Tryz.ntmps154
 go_wp2_with (go_at_call 22; refine (l6In_any _ _ _ _).mono ?_; rintro e w' ⟨rfl, rfl⟩)
 go_ret
 exact ⟨rfl, rfl⟩

theorem askTo_succ {rs : List Rc} {t : Int} {k : Nat} (h : k < rs.length) : askTo rs t (k + 1) = if rs[k].txn = t then rs[k].kind else askTo rs t k := by
 simp [askTo, List.getElem?_eq_getElem h]

set_option maxHeartbeats 400000 in
theorem l21Ask_any (K : Nat → Bool → Prop) (v : Value) (rs : List Rc) (t : Int) (w : World) (hv : RecsR K w v rs) (hb : rs.length ≤ 1000000000) :
  Calls Tryz.prog 115 #[v, .int .i64 t] w fun e w' => e = .returned (.int .i64 (ask rs t)) ∧ w = w' := by
 obtain ⟨a, cap, rfl, hcap, hcell⟩ := hv.shape
 go_enter Tryz.func115, Tryz.ntmps115
 go_wp2
 go_loop [5, 6] (fun s i => ∃ k : Nat, k ≤ rs.length ∧ i = .int .i64 k ∧ s = .int .i64 (askTo rs t k)) (fun _ i => rs.length - (intOf i).toNat)
 case atStart => exact ⟨0, Nat.zero_le _, rfl, rfl⟩
 case round =>
  obtain ⟨k, hk, rfl, rfl⟩ := hrel
  by_cases hlt : k < rs.length
  ·rcases hcell with rfl | ⟨b, off, rfl, hbs, hcell⟩
   ·simp at hlt
   ·obtain ⟨u, h0, h1, _, _⟩ := hcell k hlt
    have HS := hid (askTo_succ (t := t) hlt)
    clear hcell
    cases hb : rs[k].txn == t
    ·have hn : ¬ rs[k].txn = t := by simpa using hb
     go_wp2
     go_round
     case rel => exact ⟨k + 1, by omega, by go_num, by rw [HS.out, if_neg hn]⟩
     case measure => simp [intOf]; omega
    ·have hn := hid (show rs[k].txn = t by simpa using hb)
     go_wp2
     go_round
     case rel => exact ⟨k + 1, by omega, by go_num, by rw [HS.out, if_pos hn.out]⟩
     case measure => simp [intOf]; omega
  ·obtain rfl : k = rs.length := by omega
   go_wp2
   go_ret
   exact ⟨rfl, rfl⟩

theorem infoS : (Tryz.prog.info? 81).map (fun i => (i.zero, i.size, i.bytes)) = some (some (.agg #[.slice none 0 0]), 1, 24) := by kernel_rfl

set_option maxRecDepth 20000 in
set_option maxHeartbeats 1000000 in
theorem specNew_any (w : World) :
  Calls Tryz.prog 70 #[] w fun e w' => ∃ t o u n xs, e = .returned (.agg #[.slice t 0 0, .slice o 0 0, u, .slice n 0 0]) ∧ w'.ownsRow w.heap.size 81 1 u 3 xs ∧ (∀ x ∈ xs, ∃ a, x = .slice a 0 0) ∧ Fr w.heap.size [] w w' := by
 obtain ⟨is, his, hsz0, hsz1, hsz2⟩ := info_parts infoS
 go_enter Tryz.func70, Tryz.ntmps70
 go_wp2
 go_loopw [2] (fun i wr => ∃ (k : Nat) (u : Value) (xs : List Value), k ≤ 3 ∧ i = .int .i64 k ∧ wr.heap[w.heap.size]? = some (.cells #[.slice none 0 0, .slice none 0 0, .slice none 0 0, .slice none 0 0] 30 (0, 0)) ∧ wr.heap[w.heap.size + 1 + 1 + 1 + 1]? = some (.cells #[.slice (some ⟨w.heap.size + 1, 0, none⟩) 0 0, .slice (some ⟨w.heap.size + 1 + 1, 0, none⟩) 0 0, u, .slice (some ⟨w.heap.size + 1 + 1 + 1, 0, none⟩) 0 0] 30 (0, 0)) ∧
   wr.ownsRow w.heap.size 81 1 u k xs ∧ (∀ x ∈ xs, ∃ a, x = .slice a 0 0) ∧ Fr w.heap.size [] w wr) (fun i _ => 3 - (intOf i).toNat)
 case atStart => exact ⟨0, .slice none 0 0, [], by omega, rfl, heap_up (heap_up (heap_up (heap_up (heap_alloc_new w _) _) _) _) _, heap_alloc_eq _ _ (by simp), World.ownsRow_nil _ _ _ _, by simp, (((((Fr.refl _ _ _).alloc _).alloc _).alloc _).alloc _).alloc _⟩
 case round =>
  obtain ⟨k, u, xs, hk, rfl, b0, b2, hown, hxs, hfr⟩ := hrel
  obtain ⟨ua, ucap, rfl⟩ := own_any hown
  have B0 := hid b0
  have B2 := hid b2
  have d0 := cell_of (o := 0) b0 rfl
  have d1 := cell_of (o := 1) b0 rfl
  have d2 := cell_of (o := 2) b0 rfl
  have d3 := cell_of (o := 3) b0 rfl
  have e0 := fun o => free_of (o := o) b0
  have e1 := fun o => free_of (o := o) b2
  have OWN := hid hown
  have XS := hid hxs
  have c0 := cell_of (o := 0) b2 rfl
  have c1 := cell_of (o := 1) b2 rfl
  have c2 := cell_of (o := 2) b2 rfl
  have c3 := cell_of (o := 3) b2 rfl
  have f2 := free_of (o := 2) b2
  have hsz := hfr.size
  have hlt2 := lt_of_get b2
  clear b0 b2 hown hxs
  by_cases hlt : k < 3
  ·go_wp2_with ((at_builtin; go_must (refine wpList_push rfl (.tmp 13) (.tmp 16) 27 rfl w.heap.size 81 is (.agg #[.slice none 0 0]) 1 24 Tryz.underlying27 his hsz0 hsz1 hsz2 rfl (by decide) _ _ _ (ownsRow_grow OWN.out ((Fr.refl 0 _ _).alloc _)) rfl (by simp [Value.oneCell']) (by unfold maxLen; omega) (by omega) (by simp; omega) (by rfl) _ (by rfl) (by simp [World.setCell]) ?_; intro v4 w4 own4 fr4 _)); go_must (obtain ⟨g4, cap4, rfl, _, _, _⟩ := own_shape own4 (by omega); have OWN4 := hid own4; have E2 := hid (fr4.keep _ _ (heap_up B2.out _) (.inr (by simp [otag]))); have r2 := cell_of (o := 2) E2.out rfl; have r3 := free_of (o := 2) E2.out; clear own4 c0 c1 c2 c3 f2 d0 d1 d2 d3 e0 e1))
   go_roundw
   case rel =>
    have FE := ((Fr.refl 0 [30] w4).setOld (p := ⟨w.heap.size + 1 + 1 + 1 + 1, 2, none⟩) E2.out (Nat.zero_le _) (by simp [otag]) (.slice (some ⟨g4, 0, none⟩) (k + 1) cap4))
    refine ⟨k + 1, _, _, by omega, by go_num, block_setne (fr4.keep _ _ (heap_up B0.out _) (.inr (by simp [otag]))) (by dsimp only; omega), block_set E2.out 2 _, ownsRow_keep OWN4.out FE (by simp), ?_, ((hfr.alloc _).after fr4).setNew (by dsimp only; omega) _⟩
    intro x hx
    rcases List.mem_append.1 hx with hx | hx
    ·exact XS.out x hx
    ·simp at hx; exact ⟨_, hx⟩
   case measure => simp [intOf]; omega
  ·obtain rfl : k = 3 := by omega
   go_wp2
   have h1 := block_set B0.out 0 (.slice (some ⟨w.heap.size + 1, 0, none⟩) 0 0)
   have h2 := block_set h1 1 (.slice (some ⟨w.heap.size + 1 + 1, 0, none⟩) 0 0)
   have h3 := block_set h2 2 (.slice ua 3 ucap)
   have h4 := block_set h3 3 (.slice (some ⟨w.heap.size + 1 + 1 + 1, 0, none⟩) 0 0)
   have g1 := cell_of (o := 0) h1 rfl
   have g2 := cell_of (o := 1) h2 rfl
   have g3 := cell_of (o := 2) h3 rfl
   have g4 := cell_of (o := 3) h4 rfl
   refine bodyPost_ret (v := .agg #[.slice (some ⟨w.heap.size + 1, 0, none⟩) 0 0, .slice (some ⟨w.heap.size + 1 + 1, 0, none⟩) 0 0, .slice ua 3 ucap, .slice (some ⟨w.heap.size + 1 + 1 + 1, 0, none⟩) 0 0]) (by simp [results, Tryz.results70, go_sem, g1, g2, g3, g4]) rfl ⟨_, _, _, _, _, rfl, ?_, XS.out, ?_⟩
   ·have f : Fr 0 [30] wr _ := ((((Fr.refl 0 [30] wr).setOld (p := ⟨w.heap.size, 0, none⟩) B0.out (Nat.zero_le _) (by simp [otag]) _).trans ((Fr.refl _ _ _).setOld (p := ⟨w.heap.size, 1, none⟩) h1 (Nat.zero_le _) (by simp [otag]) _)).trans ((Fr.refl _ _ _).setOld (p := ⟨w.heap.size, 2, none⟩) h2 (Nat.zero_le _) (by simp [otag]) _)).trans ((Fr.refl _ _ _).setOld (p := ⟨w.heap.size, 3, none⟩) h3 (Nat.zero_le _) (by simp [otag]) (.slice (some ⟨w.heap.size + 1 + 1 + 1, 0, none⟩) 0 0))
    exact ownsRow_keep OWN.out f (by simp)
   ·exact (((hfr.setNew (Nat.le_refl _) _).setNew (Nat.le_refl _) _).setNew (Nat.le_refl _) _).setNew (Nat.le_refl _) _

end Go.Proofs.YtknoanpgadecbaaGreatDoor
