/- Ints in memory of one's own: sorted by the library, compared (texts out of FeSep, FeSort, StSame). -/
import Derived.Test.YtknoanpgadecbaaGreatDoorQCoLaw
import Derived.Test.YtknoanpgadecbaaGreatDoorQISmall
import Derived.Test.YtknoanpgadecbaaGreatDoorQShelf
import Derived.BigQuiet
set_option linter.unusedVariables false
set_option linter.unusedSimpArgs false
namespace Go.Proofs.YtknoanpgadecbaaGreatDoor
open Go.RowKit Go.Sort
set_option linter.unusedVariables false

def OwnI (lo : Nat) (w : World) (v : Value) (l : List Int) : Prop := w.ownsRow lo 3 1 v l.length (l.map (Value.int .i64))

theorem OwnI.reads {lo : Nat} {w : World} {v : Value} {l : List Int} (h : OwnI lo w v l) : IntsR (new lo) w v l := SlR.ofOwns h
theorem OwnI.grow {lo B : Nat} {w w' : World} {v : Value} {l : List Int} (h : OwnI lo w v l) (hf : Fr B [] w w') : OwnI lo w' v l := ownsRow_grow h hf
theorem OwnI.lower {lo lo' : Nat} {w : World} {v : Value} {l : List Int} (h : OwnI lo w v l) (hl : lo' ≤ lo) : OwnI lo' w v l := ownsRow_lo h hl
theorem OwnI.any {lo : Nat} {w : World} {v : Value} {l : List Int} (h : OwnI lo w v l) : ∃ a cap, v = .slice a l.length cap := by
 obtain ⟨a, cap, h1, _⟩ := h.reads.shape
 exact ⟨a, cap, h1⟩

theorem OwnI.at {lo : Nat} {w : World} {v : Value} {l : List Int} (h : OwnI lo w v l) {k : Nat} (hk : k < l.length) : ∃ g cap, v = .slice (some ⟨g, 0, none⟩) l.length cap ∧ lo ≤ g ∧ g < w.heap.size ∧ w.cell? ⟨g, k, none⟩ = some (.int .i64 l[k]) := by
 obtain ⟨g, cap, rfl, hg, _⟩ := own_shape h (by omega)
 refine ⟨g, cap, rfl, hg, (h.lt g rfl).2, ?_⟩
 have := World.ownsRow.cellAt h k (by omega)
 rw [List.getElem?_map, List.getElem?_eq_getElem hk] at this
 exact this

theorem OwnI.pushed {w : World} {lo : Nat} {v : Value} {l : List Int} {n : Int} (h : w.ownsRow lo 3 1 v (l.length + 1) (l.map (Value.int .i64) ++ [.int .i64 n])) : OwnI lo w v (l ++ [n]) := by
 unfold OwnI
 rw [List.map_append, List.length_append]
 exact h

theorem OwnI.lit {w : World} : OwnI w.heap.size (w.alloc (.cells #[] 3)) (.slice (some ⟨w.heap.size, 0, none⟩) 0 0) [] :=
 World.ownsRow_lit (base := w.heap.size) (e := 3) (size := 1) w #[] 0 (Nat.le_refl _) (by decide) rfl

theorem OwnI.nil (lo : Nat) (w : World) : OwnI lo w (.slice none 0 0) [] := World.ownsRow_nil _ _ _ _

theorem putCells_takeI (d : Array Int) (cur : Array Value) (h : d.size ≤ cur.size) : (putCells (Value.int .i64) 0 d cur).toList.take d.size = d.toList.map (Value.int .i64) := by
 apply List.ext_getElem
 ·simp [putCells]; omega
 ·intro i h1 h2
  have hi : i < d.size := by simpa using h2
  rw [List.getElem_take]
  simp [putCells, hi, getElem!_pos d i hi]

theorem sortI_any {lo : Nat} {w : World} {v : Value} {l : List Int} (h : OwnI lo w v l) (hb : l.length ≤ 1000000000) :
  Calls Tryz.prog 39 #[v] w fun e w' => e = .returned (.tuple #[]) ∧ OwnI lo w' v (msort l) ∧ w.grownBy w' v.ownBlock ∧ Fr lo [3] w w' := by
 have hml : (msort l).length = l.length := List.length_mergeSort l
 by_cases hn : l = []
 ·subst hn
  obtain ⟨a, cap, rfl⟩ := h.any
  refine (Tryz.slices_Sort_int_none a cap w).mono ?_
  rintro e w' ⟨rfl, rfl⟩
  have : msort [] = [] := List.eq_nil_of_length_eq_zero hml
  rw [this]
  exact ⟨rfl, h, ⟨rfl, rfl, rfl, Nat.le_refl _, fun _ _ _ => rfl⟩, Fr.refl _ _ _⟩
 ·have hp : 0 < l.length := List.length_pos_iff.2 hn
  obtain ⟨g, cap, rfl, hg, _⟩ := own_shape h hp
  have hlt := (h.lt g rfl).2
  have hH : Holds (Value.int .i64) w g 0 l.toArray := by
   intro j hj
   have hj' : j < l.length := by simpa using hj
   have := World.ownsRow.cellAt h j (by omega)
   rw [List.getElem?_map, List.getElem?_eq_getElem hj'] at this
   rw [Nat.zero_add, this, getElem!_pos l.toArray j hj]
   exact ⟨by simp, World.ownsRow.frozenAt h j⟩
  refine (Tryz.slices_Sort_int g 0 cap l w hH hlt (by omega)).mono ?_
  rintro e w' ⟨rfl, n, os, rfl⟩
  have hx := h.1
  rcases h.2 with ⟨hh, _⟩ | ⟨g', cap', cur, hh, h1, h2, h3, h4, h5, h6⟩
  ·cases hh
  ·cases hh
   have hheap : ∀ j, j < w.heap.size → (Sort.grow (putRow (Value.int .i64) (Sort.ahead w n) g 0 (msort l).toArray) os).heap[j]? = if g = j then (w.heap[j]?).map (onCells (putCells (Value.int .i64) 0 (msort l).toArray)) else w.heap[j]? := fun j hj => by
    show ((w.heap.modify g _) ++ os)[j]? = _
    rw [Array.getElem?_append_left (by simpa using hj), Array.getElem?_modify]
   have hgr : w.grownBy (Sort.grow (putRow (Value.int .i64) (Sort.ahead w n) g 0 (msort l).toArray) os) (some g) := by
    refine ⟨rfl, rfl, rfl, ?_, fun k hk hne => ?_⟩
    ·show w.heap.size ≤ ((w.heap.modify g _) ++ os).size
     simp
    ·rw [hheap k hk, if_neg (fun e => hne (by rw [e]))]
   refine ⟨rfl, ⟨by simp, .inr ⟨g, cap, putCells (Value.int .i64) 0 (msort l).toArray cur, by rw [hml], h1, ?_, by omega, h4, by simp [putCells, h5], ?_⟩⟩, hgr, Fr.ofGrown hgr fun k o hk ho => ?_⟩
   ·exact (hheap g hlt).trans (by rw [if_pos rfl, h2]; rfl)
   ·rw [Nat.mul_one]
    have := putCells_takeI (msort l).toArray cur (by simp; omega)
    simpa using this
   ·cases hk
    rw [h2] at ho
    cases ho
    exact ⟨hg, by simp [otag]⟩

theorem take_all_eq {l l' : List Int} (hl : l'.length = l.length) (h : ∀ j, j < l.length → l[j]? = l'[j]?) : l = l' := List.ext_getElem? fun i => by
 by_cases hi : i < l.length
 ·exact h i hi
 ·rw [List.getElem?_eq_none (by omega), List.getElem?_eq_none (by omega)]

set_option maxRecDepth 20000 in
set_option maxHeartbeats 4000000 in
theorem equalI_any (K K' : Nat → Bool → Prop) (v v' : Value) (l l' : List Int) (w : World) (h1 : IntsR K w v l) (h2 : IntsR K' w v' l') (hl : l.length ≤ 1000000000) (hl' : l'.length ≤ 1000000000) :
  Calls Tryz.prog 40 #[v, v'] w fun e w' => e = .returned (.bool (decide (l = l'))) ∧ Fr w.heap.size [] w w' := by
 obtain ⟨a, cap, rfl, hc, hcell⟩ := h1.shape
 obtain ⟨a', cap', rfl, hc', hcell'⟩ := h2.shape
 clear h1 h2
 by_cases he : l'.length = l.length
 ·rw [he]
  have HE := hid he
  have EX := hid (fun h => take_all_eq he h)
  have HC := hid hcell
  have HC' := hid hcell'
  rw [he] at hc' hl'
  clear he hcell hcell'
  go_enter Tryz.func40, Tryz.ntmps40
  go_wp2
  go_loopw [13] (fun vi wx => ∃ k : Nat, k ≤ l.length ∧ vi = .int .i64 k ∧ (∀ j, j < k → l[j]? = l'[j]?) ∧ Fr w.heap.size [] w wx) (fun vi _ => l.length - (intOf vi).toNat)
  case atStart => exact ⟨0, Nat.zero_le _, rfl, fun j h => absurd h (Nat.not_lt_zero _), Fr.refl _ _ _⟩
  case round =>
   obtain ⟨k, hk, rfl, hall, hfr⟩ := hrel
   have HA := hid hall
   clear hall
   by_cases hlt : k < l.length
   ·rcases HC.out with hh | ⟨b, off, rfl, hbs, hcell⟩
    ·rw [hh] at hlt; cases hlt
    rcases HC'.out with hh | ⟨b', off', rfl, hbs', hcell'⟩
    ·have := HE.out; rw [hh] at this; simp at this; omega
    have hlt' : k < l'.length := by have := HE.out; omega
    have c0 := hfr.cell hbs (hcell k hlt)
    have d0 := hfr.cell hbs' (hcell' k hlt')
    have hki : (k : Int) < (l.length : Int) := by omega
    have NX := hid (fun (h : l[k] = l'[k]) => show ∀ j, j < k + 1 → l[j]? = l'[j]? from fun j hjk => by
     by_cases e : j = k
     ·subst e; rw [List.getElem?_eq_getElem hlt, List.getElem?_eq_getElem hlt', h]
     ·exact HA.out j (by omega))
    have NO := hid (fun (h : ¬ l[k] = l'[k]) => show decide (l = l') = false from by
     refine decide_eq_false fun e => h ?_
     subst e; rfl)
    clear hcell hcell'
    generalize l[k] = x at *
    generalize l'[k] = y at *
    by_cases hxy : x = y
    ·subst hxy
     have NX2 := hid (NX.out rfl)
     go_wp2
     go_quiet (fail)
     go_wp2
     go_roundw
     case rel => exact ⟨k + 1, by omega, by go_num, NX2.out, hfr.drewN _⟩
     case measure => simp [intOf]; omega
    ·have NO2 := hid (NO.out hxy)
     go_wp2
     go_quiet (fail)
     go_wp2
     go_ret
     exact ⟨ret_bool NO2.out.symm, hfr.drewN _⟩
   ·obtain rfl : k = l.length := by omega
    have YES := hid (show decide (l = l') = true from decide_eq_true (EX.out (fun j hj => HA.out j hj)))
    go_wp2
    go_ret
    exact ⟨ret_bool YES.out.symm, hfr⟩
 ·have i1 : ¬ (l.length : Int) = (l'.length : Int) := by omega
  have NO := hid (show decide (l = l') = false from decide_eq_false fun e => he (by rw [e]))
  clear he hcell hcell'
  go_enter Tryz.func40, Tryz.ntmps40
  go_wp2
  go_ret
  exact ⟨ret_bool NO.out.symm, Fr.refl _ _ _⟩

end Go.Proofs.YtknoanpgadecbaaGreatDoor
