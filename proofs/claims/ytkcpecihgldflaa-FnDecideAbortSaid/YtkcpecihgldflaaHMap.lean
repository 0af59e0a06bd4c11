/- A map of records keyed by ints, as a function. -/
import Derived.Test.YtkcpecihgldflaaProg
import Derived.Test.YtkcpecihgldflaaBase
import Derived.Maps.Own
import Derived.Maps.OwnSet
import Derived.Maps.OwnOps
namespace Go.Proofs.Ytkcpecihgldflaa
open Go.RowKit
set_option linter.unusedVariables false

/-- An element that reads as itself. -/
def heldElem (v : Value) : Option (DataW Value × List MemPlace) := some (.held v, [])

/-- Block m is a map of at most n entries, keyed by ints, that holds f. -/
def MapF (w : World) (m n : Nat) (f : Int → Option Value) : Prop :=
  ∃ D : DataW Value, w.ownsMap Try.prog 3 heldElem m n D ∧ Maps.IsMap D ∧ (∀ k z, D.atKey (.int .i64 k) z = (match f k with | some v => .held v | none => z)) ∧ ∀ k, Maps.has D (.int .i64 k) = (f k).isSome

def upd {α : Type} (f : Int → Option α) (t : Int) (v : α) : Int → Option α := fun k => if k = t then some v else f k

theorem lawI : Maps.Keyed Try.prog 3 := Maps.int_keyed Try.underlying3

theorem wf64 {a : Int} (h : -9223372036854775808 ≤ a ∧ a ≤ 9223372036854775807) : (Lit.int .i64 a).wf = true := WalkArith.wf_i64 h

theorem MapF.made (w : World) : MapF (w.alloc (.map #[] 0)) w.heap.size 0 (fun _ => none) :=
  ⟨.map [], World.ownsMap_made w Try.prog 3 heldElem, ⟨[], rfl⟩, fun k z => rfl, fun k => rfl⟩

theorem MapF.empty {w : World} {m : Nat} (h : w.heap[m]? = some (.map #[] 0)) : MapF w m 0 (fun _ => none) :=
  ⟨.map [], ⟨#[], 0, h, ⟨by simp, MapKept.stamped_empty 0, by simp⟩, Nat.le_refl _, rfl⟩, ⟨[], rfl⟩, fun k z => rfl, fun k => rfl⟩

theorem MapF.keep {B : Nat} {T : List Nat} {w w' : World} {m n : Nat} {f : Int → Option Value} (h : MapF w m n f) (hf : Fr B T w w') (hT : 1000000 ∉ T) : MapF w' m n f := by
  obtain ⟨D, ⟨es, c, h1, h2⟩, h3⟩ := h
  exact ⟨D, ⟨es, c, hf.keep _ _ h1 (.inr hT), h2⟩, h3⟩

theorem MapF.block {w w' : World} {m n : Nat} {f : Int → Option Value} (h : MapF w m n f) (hk : ∀ o, w.heap[m]? = some o → w'.heap[m]? = some o) : MapF w' m n f := by
  obtain ⟨D, ⟨es, c, h1, h2⟩, h3⟩ := h
  exact ⟨D, ⟨es, c, hk _ h1, h2⟩, h3⟩

theorem MapF.alloc {w : World} {m n : Nat} {f : Int → Option Value} (h : MapF w m n f) (o : Obj) : MapF (w.alloc o) m n f := h.block fun _ hx => heap_up hx _

theorem MapF.lt {w : World} {m n : Nat} {f : Int → Option Value} (h : MapF w m n f) : m < w.heap.size := by
  obtain ⟨D, ⟨es, c, h1, _⟩, _⟩ := h
  exact lt_of_get h1

theorem MapF.tag {w : World} {m n : Nat} {f : Int → Option Value} (h : MapF w m n f) : ∃ o, w.heap[m]? = some o ∧ otag o = 1000000 := by
  obtain ⟨D, ⟨es, c, h1, _⟩, _⟩ := h
  exact ⟨_, h1, rfl⟩

theorem held_of {v : Value} {d : DataW Value} {ps : List MemPlace} (h : heldElem v = some (d, ps)) : d = .held v := by
  unfold heldElem at h; cases h; rfl

/-- 'v, ok := m[k]' as it runs. -/
theorem MapF.look (t e : TypeId) (z : Value) {w : World} {m n : Nat} {f : Int → Option Value} (h : MapF w m n f) (ht : Try.prog.underlying t = some (.map 3 e)) (hz : (zeroValue e).run Try.prog w = .ok z w) (k : Int) (hk : (Lit.int .i64 k).wf = true) :
    (Instr.lookup t (.map (some m)) (.int .i64 k) true).run Try.prog w = .ok (.tuple #[(f k).getD z, .bool (f k).isSome]) w := by
  obtain ⟨D, ho, hm, ha, hh⟩ := h
  obtain ⟨v, ps, hr, hv⟩ := ho.look_ok lawI ht hz (zd := .held z) (zp := []) rfl (Maps.keyOf_int_mk Try.underlying3 hk)
  rw [hr, hh k]
  have := held_of hv
  rw [ha k] at this
  cases hf : f k with
  | none => rw [hf] at this; cases this; rfl
  | some x => rw [hf] at this; cases this; rfl

theorem MapF.look1 (t e : TypeId) (z : Value) {w : World} {m n : Nat} {f : Int → Option Value} (h : MapF w m n f) (ht : Try.prog.underlying t = some (.map 3 e)) (hz : (zeroValue e).run Try.prog w = .ok z w) (k : Int) (hk : (Lit.int .i64 k).wf = true) :
    (Instr.lookup t (.map (some m)) (.int .i64 k) false).run Try.prog w = .ok ((f k).getD z) w := by
  obtain ⟨D, ho, hm, ha, hh⟩ := h
  obtain ⟨v, ps, hr, hv⟩ := ho.lookup lawI ht hz (zd := .held z) (zp := []) rfl (Maps.keyOf_int_mk Try.underlying3 hk)
  rw [hr]
  have := held_of hv
  rw [ha k] at this
  cases hf : f k with
  | none => rw [hf] at this; cases this; rfl
  | some x => rw [hf] at this; cases this; rfl

/-- 'm[k] = v' as it runs. -/
theorem MapF.store (t e : TypeId) {w : World} {m n : Nat} {f : Int → Option Value} (h : MapF w m n f) (ht : Try.prog.underlying t = some (.map 3 e)) (hn : n < maxLen) (k : Int) (v : Value) (hk : (Lit.int .i64 k).wf = true) :
    ∃ w', (Instr.mapUpdate t (.map (some m)) (.int .i64 k) v).run Try.prog w = .ok () w' ∧ MapF w' m (n + 1) (upd f k v) ∧ w.grownBy w' (some m) := by
  obtain ⟨D, ho, hm, ha, hh⟩ := h
  have hkey := Maps.keyOf_int_mk Try.underlying3 hk
  obtain ⟨w', hr, ho', hg⟩ := ho.update lawI ht hn (val := v) (d := .held v) (ps := []) hkey rfl
  refine ⟨w', hr, ⟨_, ho', hm.put _ _, fun j z => ?_, fun j => ?_⟩, hg⟩
  · unfold upd
    by_cases e : j = k
    · subst e
      rw [if_pos rfl, Maps.atKey_put_same hm (lawI.key hkey)]
    · rw [if_neg e, Maps.atKey_put_other (by simpa using e), ha j z]
  · unfold upd
    by_cases e : j = k
    · subst e
      rw [if_pos rfl, Maps.has_put_same hm (lawI.key hkey)]; rfl
    · rw [if_neg e, Maps.has_put_other (by simpa using e), hh j]

end Go.Proofs.Ytkcpecihgldflaa
