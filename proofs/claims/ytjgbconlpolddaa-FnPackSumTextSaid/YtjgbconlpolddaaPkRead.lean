/- How objects, operations and entries read. -/
import Derived.Test.YtjgbconlpolddaaProg
import Derived.Test.YtjgbconlpolddaaBase
import Derived.Test.YtjgbconlpolddaaPkModel
import Derived.Deep.DeepMust
import Derived.Deep.QuietTactic
import Derived.BigQuiet
import Derived.StillTailTactics
import Derived.RegionTactic
import Derived.BigRegion
import Derived.Deep.RegionHeld3
import Derived.Lib.Strings
namespace Go.Proofs.Ytjgbconlpolddaa
open Go.RowKit
set_option linter.unusedVariables false

/-- A text, as bytes of the model. -/
def tx (t : Tx) : ByteArray := ⟨t.toArray⟩

theorem tx_size (t : Tx) : (tx t).size = t.length := by simp [tx, ByteArray.size]
theorem tx_data (t : Tx) : (tx t).data.toList = t := by simp [tx]
theorem tx_of (s : ByteArray) : tx s.data.toList = s := by simp [tx]
theorem tx_inj {a b : Tx} (h : tx a = tx b) : a = b := by rw [← tx_data a, h, tx_data]

def encOp (o : Opn) : List Value := [.int .i64 o.pos, .int .i64 o.size, .string (tx o.text)]
def encOb (z : Ob × Value) : List Value := [.int .i64 z.1.kind, z.2, .string (tx z.1.text)]
def encEn (z : En × (Value × Value)) : List Value := [.int .i64 z.1.kind, z.2.1, .int .i64 z.1.base, z.2.2]

def IntsR (K : Nat → Bool → Prop) (w : World) (v : Value) (l : List Int) : Prop := SlR K 3 1 w v l.length (l.map (Value.int .i64))
def OpsR (K : Nat → Bool → Prop) (w : World) (v : Value) (l : List Opn) : Prop := SlR K 109 3 w v l.length (l.flatMap encOp)
def ObsR (K : Nat → Bool → Prop) (w : World) (v : Value) (os : List Ob) : Prop :=
  ∃ zs : List (Ob × Value), zs.map (·.1) = os ∧ SlR K 40 3 w v os.length (zs.flatMap encOb) ∧ ∀ z ∈ zs, IntsR K w z.2 z.1.links
def EnsR (K : Nat → Bool → Prop) (w : World) (v : Value) (es : List En) : Prop :=
  ∃ zs : List (En × (Value × Value)), zs.map (·.1) = es ∧ SlR K 32 4 w v es.length (zs.flatMap encEn) ∧ ∀ z ∈ zs, IntsR K w z.2.1 z.1.links ∧ OpsR K w z.2.2 z.1.ops

theorem IntsR.keep {K : Nat → Bool → Prop} {B : Nat} {T : List Nat} {w w' : World} {v : Value} {l : List Int} (h : IntsR K w v l) (hf : Fr B T w w') (hs : Safe K B T 3) : IntsR K w' v l := SlR.keep h hf hs
theorem IntsR.grow {K : Nat → Bool → Prop} {B : Nat} {w w' : World} {v : Value} {l : List Int} (h : IntsR K w v l) (hf : Fr B [] w w') : IntsR K w' v l := SlR.grow h hf
theorem IntsR.weak {K K' : Nat → Bool → Prop} {w : World} {v : Value} {l : List Int} (h : IntsR K w v l) (hk : ∀ b t, b < w.heap.size → K b t → K' b t) : IntsR K' w v l := SlR.weak h hk
theorem OpsR.keep {K : Nat → Bool → Prop} {B : Nat} {T : List Nat} {w w' : World} {v : Value} {l : List Opn} (h : OpsR K w v l) (hf : Fr B T w w') (hs : Safe K B T 109) : OpsR K w' v l := SlR.keep h hf hs
theorem OpsR.grow {K : Nat → Bool → Prop} {B : Nat} {w w' : World} {v : Value} {l : List Opn} (h : OpsR K w v l) (hf : Fr B [] w w') : OpsR K w' v l := SlR.grow h hf
theorem OpsR.weak {K K' : Nat → Bool → Prop} {w : World} {v : Value} {l : List Opn} (h : OpsR K w v l) (hk : ∀ b t, b < w.heap.size → K b t → K' b t) : OpsR K' w v l := SlR.weak h hk

theorem ObsR.keep {K : Nat → Bool → Prop} {B : Nat} {T : List Nat} {w w' : World} {v : Value} {os : List Ob} (h : ObsR K w v os) (hf : Fr B T w w') (hs : Safe K B T 40) (hs' : Safe K B T 3) : ObsR K w' v os := by
  obtain ⟨zs, h1, h2, h3⟩ := h
  exact ⟨zs, h1, h2.keep hf hs, fun z hz => (h3 z hz).keep hf hs'⟩
theorem ObsR.grow {K : Nat → Bool → Prop} {B : Nat} {w w' : World} {v : Value} {os : List Ob} (h : ObsR K w v os) (hf : Fr B [] w w') : ObsR K w' v os := by
  obtain ⟨zs, h1, h2, h3⟩ := h
  exact ⟨zs, h1, h2.grow hf, fun z hz => (h3 z hz).grow hf⟩
theorem ObsR.weak {K K' : Nat → Bool → Prop} {w : World} {v : Value} {os : List Ob} (h : ObsR K w v os) (hk : ∀ b t, b < w.heap.size → K b t → K' b t) : ObsR K' w v os := by
  obtain ⟨zs, h1, h2, h3⟩ := h
  exact ⟨zs, h1, h2.weak hk, fun z hz => (h3 z hz).weak hk⟩
theorem EnsR.keep {K : Nat → Bool → Prop} {B : Nat} {T : List Nat} {w w' : World} {v : Value} {es : List En} (h : EnsR K w v es) (hf : Fr B T w w') (hs : Safe K B T 32) (hs' : Safe K B T 3) (hs'' : Safe K B T 109) : EnsR K w' v es := by
  obtain ⟨zs, h1, h2, h3⟩ := h
  exact ⟨zs, h1, h2.keep hf hs, fun z hz => ⟨(h3 z hz).1.keep hf hs', (h3 z hz).2.keep hf hs''⟩⟩
theorem EnsR.grow {K : Nat → Bool → Prop} {B : Nat} {w w' : World} {v : Value} {es : List En} (h : EnsR K w v es) (hf : Fr B [] w w') : EnsR K w' v es := by
  obtain ⟨zs, h1, h2, h3⟩ := h
  exact ⟨zs, h1, h2.grow hf, fun z hz => ⟨(h3 z hz).1.grow hf, (h3 z hz).2.grow hf⟩⟩
theorem EnsR.weak {K K' : Nat → Bool → Prop} {w : World} {v : Value} {es : List En} (h : EnsR K w v es) (hk : ∀ b t, b < w.heap.size → K b t → K' b t) : EnsR K' w v es := by
  obtain ⟨zs, h1, h2, h3⟩ := h
  exact ⟨zs, h1, h2.weak hk, fun z hz => ⟨(h3 z hz).1.weak hk, (h3 z hz).2.weak hk⟩⟩

theorem IntsR.shape {K : Nat → Bool → Prop} {w : World} {v : Value} {l : List Int} (h : IntsR K w v l) :
    ∃ a cap, v = .slice a l.length cap ∧ l.length ≤ cap ∧ (l = [] ∨ ∃ b off, a = some ⟨b, off, none⟩ ∧ b < w.heap.size ∧ ∀ i (hi : i < l.length), w.cell? ⟨b, off + i, none⟩ = some (.int .i64 l[i])) := by
  rcases l with _ | ⟨u, l⟩
  · obtain ⟨a, cap, h1, h2, h3, h4, h5⟩ := h
    exact ⟨a, cap, h1, h3, .inl rfl⟩
  · obtain ⟨b, off, cap, h1, h2, h3, h4, h5⟩ := SlR.cells h (by simp)
    refine ⟨_, cap, h1, h3, .inr ⟨b, off, rfl, h2, fun i hi => ?_⟩⟩
    exact h5 i _ (by rw [List.getElem?_map, List.getElem?_eq_getElem hi]; rfl)

theorem OpsR.shape {K : Nat → Bool → Prop} {w : World} {v : Value} {l : List Opn} (h : OpsR K w v l) :
    ∃ a cap, v = .slice a l.length cap ∧ l.length ≤ cap ∧ (l = [] ∨ ∃ b off, a = some ⟨b, off, none⟩ ∧ b < w.heap.size ∧ ∀ i (hi : i < l.length),
      w.cell? ⟨b, off + i * 3, none⟩ = some (.int .i64 l[i].pos) ∧ w.cell? ⟨b, off + i * 3 + 1, none⟩ = some (.int .i64 l[i].size) ∧ w.cell? ⟨b, off + i * 3 + 2, none⟩ = some (.string (tx l[i].text))) := by
  rcases l with _ | ⟨u, l⟩
  · obtain ⟨a, cap, h1, h2, h3, h4, h5⟩ := h
    exact ⟨a, cap, h1, h3, .inl rfl⟩
  · obtain ⟨b, off, cap, h1, h2, h3, h4, h5⟩ := SlR.cells h (by simp)
    refine ⟨_, cap, h1, h3, .inr ⟨b, off, rfl, h2, fun i hi => ⟨?_, ?_, ?_⟩⟩⟩
    · exact h5 (i * 3) _ (by have := fm_get encOp 3 (fun _ => rfl) (u :: l) i 0 (by omega) hi; simpa [encOp] using this)
    · exact h5 (i * 3 + 1) _ (by have := fm_get encOp 3 (fun _ => rfl) (u :: l) i 1 (by omega) hi; simpa [encOp] using this)
    · exact h5 (i * 3 + 2) _ (by have := fm_get encOp 3 (fun _ => rfl) (u :: l) i 2 (by omega) hi; simpa [encOp] using this)

theorem map_fst_get {α β : Type} {zs : List (α × β)} {l : List α} (hz : zs.map (·.1) = l) {i : Nat} (hi : i < l.length) : ∃ h : i < zs.length, l[i] = zs[i].1 := by
  subst hz
  have : i < zs.length := by simpa using hi
  exact ⟨this, by simp⟩

theorem ObsR.shape {K : Nat → Bool → Prop} {w : World} {v : Value} {os : List Ob} (h : ObsR K w v os) :
    ∃ a cap, v = .slice a os.length cap ∧ os.length ≤ cap ∧ (os = [] ∨ ∃ b off, a = some ⟨b, off, none⟩ ∧ b < w.heap.size ∧ ∀ i (hi : i < os.length), ∃ u,
      w.cell? ⟨b, off + i * 3, none⟩ = some (.int .i64 os[i].kind) ∧ w.cell? ⟨b, off + i * 3 + 1, none⟩ = some u ∧ w.cell? ⟨b, off + i * 3 + 2, none⟩ = some (.string (tx os[i].text)) ∧ IntsR K w u os[i].links) := by
  obtain ⟨zs, hz, hs, hu⟩ := h
  rcases os with _ | ⟨r, rs⟩
  · obtain ⟨a, cap, h1, h2, h3, h4, h5⟩ := hs
    exact ⟨a, cap, h1, h3, .inl rfl⟩
  · obtain ⟨b, off, cap, h1, h2, h3, h4, h5⟩ := SlR.cells hs (by simp)
    refine ⟨_, cap, h1, h3, .inr ⟨b, off, rfl, h2, fun i hi => ?_⟩⟩
    obtain ⟨hi', e⟩ := map_fst_get hz hi
    rw [e]
    refine ⟨zs[i].2, ?_, ?_, ?_, hu _ (List.getElem_mem hi')⟩
    · exact h5 (i * 3) _ (by have := fm_get encOb 3 (fun _ => rfl) zs i 0 (by omega) hi'; simpa [encOb] using this)
    · exact h5 (i * 3 + 1) _ (by have := fm_get encOb 3 (fun _ => rfl) zs i 1 (by omega) hi'; simpa [encOb] using this)
    · exact h5 (i * 3 + 2) _ (by have := fm_get encOb 3 (fun _ => rfl) zs i 2 (by omega) hi'; simpa [encOb] using this)

theorem EnsR.shape {K : Nat → Bool → Prop} {w : World} {v : Value} {es : List En} (h : EnsR K w v es) :
    ∃ a cap, v = .slice a es.length cap ∧ es.length ≤ cap ∧ (es = [] ∨ ∃ b off, a = some ⟨b, off, none⟩ ∧ b < w.heap.size ∧ ∀ i (hi : i < es.length), ∃ u p,
      w.cell? ⟨b, off + i * 4, none⟩ = some (.int .i64 es[i].kind) ∧ w.cell? ⟨b, off + i * 4 + 1, none⟩ = some u ∧ w.cell? ⟨b, off + i * 4 + 2, none⟩ = some (.int .i64 es[i].base) ∧ w.cell? ⟨b, off + i * 4 + 3, none⟩ = some p ∧ IntsR K w u es[i].links ∧ OpsR K w p es[i].ops) := by
  obtain ⟨zs, hz, hs, hu⟩ := h
  rcases es with _ | ⟨r, rs⟩
  · obtain ⟨a, cap, h1, h2, h3, h4, h5⟩ := hs
    exact ⟨a, cap, h1, h3, .inl rfl⟩
  · obtain ⟨b, off, cap, h1, h2, h3, h4, h5⟩ := SlR.cells hs (by simp)
    refine ⟨_, cap, h1, h3, .inr ⟨b, off, rfl, h2, fun i hi => ?_⟩⟩
    obtain ⟨hi', e⟩ := map_fst_get hz hi
    rw [e]
    refine ⟨zs[i].2.1, zs[i].2.2, ?_, ?_, ?_, ?_, hu _ (List.getElem_mem hi')⟩
    · exact h5 (i * 4) _ (by have := fm_get encEn 4 (fun _ => rfl) zs i 0 (by omega) hi'; simpa [encEn] using this)
    · exact h5 (i * 4 + 1) _ (by have := fm_get encEn 4 (fun _ => rfl) zs i 1 (by omega) hi'; simpa [encEn] using this)
    · exact h5 (i * 4 + 2) _ (by have := fm_get encEn 4 (fun _ => rfl) zs i 2 (by omega) hi'; simpa [encEn] using this)
    · exact h5 (i * 4 + 3) _ (by have := fm_get encEn 4 (fun _ => rfl) zs i 3 (by omega) hi'; simpa [encEn] using this)

end Go.Proofs.Ytjgbconlpolddaa
