/- How updates, records and shards read. -/
import Derived.Test.YtkcpecihgldflaaProg
import Derived.Test.YtkcpecihgldflaaBase
import Derived.Test.YtkcpecihgldflaaModel
namespace Go.Proofs.Ytkcpecihgldflaa
open Go.RowKit
set_option linter.unusedVariables false

def encU (u : Upd) : List Value := [.int .i64 u.ref, .int .i64 u.old, .int .i64 u.new]
def encR (z : Rc × Value) : List Value := [.int .i64 z.1.kind, .int .i64 z.1.txn, z.2]
def encI (n : Int) : List Value := [.int .i64 n]

def UpsR (K : Nat → Bool → Prop) (w : World) (v : Value) (us : List Upd) : Prop := SlR K 39 3 w v us.length (us.flatMap encU)
def RecsR (K : Nat → Bool → Prop) (w : World) (v : Value) (rs : List Rc) : Prop :=
  ∃ zs : List (Rc × Value), zs.map (·.1) = rs ∧ SlR K 72 3 w v rs.length (zs.flatMap encR) ∧ ∀ z ∈ zs, UpsR K w z.2 z.1.ups
def IntsR (K : Nat → Bool → Prop) (w : World) (v : Value) (l : List Int) : Prop := SlR K 3 1 w v l.length (l.map (Value.int .i64))

theorem UpsR.keep {K : Nat → Bool → Prop} {B : Nat} {T : List Nat} {w w' : World} {v : Value} {us : List Upd} (h : UpsR K w v us) (hf : Fr B T w w') (hs : Safe K B T 39) : UpsR K w' v us := SlR.keep h hf hs
theorem UpsR.grow {K : Nat → Bool → Prop} {B : Nat} {w w' : World} {v : Value} {us : List Upd} (h : UpsR K w v us) (hf : Fr B [] w w') : UpsR K w' v us := SlR.grow h hf
theorem UpsR.weak {K K' : Nat → Bool → Prop} {w : World} {v : Value} {us : List Upd} (h : UpsR K w v us) (hk : ∀ b t, b < w.heap.size → K b t → K' b t) : UpsR K' w v us := SlR.weak h hk
theorem IntsR.keep {K : Nat → Bool → Prop} {B : Nat} {T : List Nat} {w w' : World} {v : Value} {l : List Int} (h : IntsR K w v l) (hf : Fr B T w w') (hs : Safe K B T 3) : IntsR K w' v l := SlR.keep h hf hs
theorem IntsR.grow {K : Nat → Bool → Prop} {B : Nat} {w w' : World} {v : Value} {l : List Int} (h : IntsR K w v l) (hf : Fr B [] w w') : IntsR K w' v l := SlR.grow h hf
theorem IntsR.weak {K K' : Nat → Bool → Prop} {w : World} {v : Value} {l : List Int} (h : IntsR K w v l) (hk : ∀ b t, b < w.heap.size → K b t → K' b t) : IntsR K' w v l := SlR.weak h hk
theorem RecsR.keep {K : Nat → Bool → Prop} {B : Nat} {T : List Nat} {w w' : World} {v : Value} {rs : List Rc} (h : RecsR K w v rs) (hf : Fr B T w w') (hs : Safe K B T 39) (hs' : Safe K B T 72) : RecsR K w' v rs := by
  obtain ⟨zs, h1, h2, h3⟩ := h
  exact ⟨zs, h1, h2.keep hf hs', fun z hz => (h3 z hz).keep hf hs⟩
theorem RecsR.grow {K : Nat → Bool → Prop} {B : Nat} {w w' : World} {v : Value} {rs : List Rc} (h : RecsR K w v rs) (hf : Fr B [] w w') : RecsR K w' v rs := by
  obtain ⟨zs, h1, h2, h3⟩ := h
  exact ⟨zs, h1, h2.grow hf, fun z hz => (h3 z hz).grow hf⟩
theorem RecsR.weak {K K' : Nat → Bool → Prop} {w : World} {v : Value} {rs : List Rc} (h : RecsR K w v rs) (hk : ∀ b t, b < w.heap.size → K b t → K' b t) : RecsR K' w v rs := by
  obtain ⟨zs, h1, h2, h3⟩ := h
  exact ⟨zs, h1, h2.weak hk, fun z hz => (h3 z hz).weak hk⟩

theorem fmU (us : List Upd) (i j : Nat) (hj : j < 3) (hi : i < us.length) : (us.flatMap encU)[i * 3 + j]? = (encU us[i])[j]? := fm_get encU 3 (fun _ => rfl) us i j hj hi
theorem fmR (zs : List (Rc × Value)) (i j : Nat) (hj : j < 3) (hi : i < zs.length) : (zs.flatMap encR)[i * 3 + j]? = (encR zs[i])[j]? := fm_get encR 3 (fun _ => rfl) zs i j hj hi

/-- The value of a reading, and its cells. -/
theorem UpsR.shape {K : Nat → Bool → Prop} {w : World} {v : Value} {us : List Upd} (h : UpsR K w v us) :
    ∃ a cap, v = .slice a us.length cap ∧ us.length ≤ cap ∧ (us = [] ∨ ∃ b off, a = some ⟨b, off, none⟩ ∧ b < w.heap.size ∧
      ∀ i (hi : i < us.length), w.cell? ⟨b, off + i * 3, none⟩ = some (.int .i64 us[i].ref) ∧ w.cell? ⟨b, off + i * 3 + 1, none⟩ = some (.int .i64 us[i].old) ∧ w.cell? ⟨b, off + i * 3 + 2, none⟩ = some (.int .i64 us[i].new)) := by
  rcases us with _ | ⟨u, us⟩
  · obtain ⟨a, cap, h1, h2, h3, h4, h5⟩ := h
    exact ⟨a, cap, h1, h3, .inl rfl⟩
  · obtain ⟨b, off, cap, h1, h2, h3, h4, h5⟩ := SlR.cells h (by simp)
    refine ⟨_, cap, h1, h3, .inr ⟨b, off, rfl, h2, fun i hi => ⟨?_, ?_, ?_⟩⟩⟩
    · exact h5 (i * 3) _ (by have := fmU (u :: us) i 0 (by omega) hi; simpa [encU] using this)
    · exact h5 (i * 3 + 1) _ (by have := fmU (u :: us) i 1 (by omega) hi; simpa [encU] using this)
    · exact h5 (i * 3 + 2) _ (by have := fmU (u :: us) i 2 (by omega) hi; simpa [encU] using this)

theorem RecsR.shape {K : Nat → Bool → Prop} {w : World} {v : Value} {rs : List Rc} (h : RecsR K w v rs) :
    ∃ a cap, v = .slice a rs.length cap ∧ rs.length ≤ cap ∧ (rs = [] ∨ ∃ b off, a = some ⟨b, off, none⟩ ∧ b < w.heap.size ∧
      ∀ i (hi : i < rs.length), ∃ u, w.cell? ⟨b, off + i * 3, none⟩ = some (.int .i64 rs[i].kind) ∧ w.cell? ⟨b, off + i * 3 + 1, none⟩ = some (.int .i64 rs[i].txn) ∧ w.cell? ⟨b, off + i * 3 + 2, none⟩ = some u ∧ UpsR K w u rs[i].ups) := by
  obtain ⟨zs, hz, h, hu⟩ := h
  have hlen : zs.length = rs.length := by rw [← hz]; simp
  rcases rs with _ | ⟨r, rs⟩
  · obtain ⟨a, cap, h1, h2, h3, h4, h5⟩ := h
    exact ⟨a, cap, h1, h3, .inl rfl⟩
  · obtain ⟨b, off, cap, h1, h2, h3, h4, h5⟩ := SlR.cells h (by simp)
    refine ⟨_, cap, h1, h3, .inr ⟨b, off, rfl, h2, fun i hi => ?_⟩⟩
    have hi' : i < zs.length := by omega
    have e : (r :: rs)[i] = zs[i].1 := by
      have : (zs.map (·.1))[i]? = (r :: rs)[i]? := by rw [hz]
      rw [List.getElem?_map, List.getElem?_eq_getElem hi', List.getElem?_eq_getElem hi] at this
      simpa using this.symm
    rw [e]
    refine ⟨zs[i].2, ?_, ?_, ?_, hu _ (List.getElem_mem hi')⟩
    · exact h5 (i * 3) _ (by have := fmR zs i 0 (by omega) hi'; simpa [encR] using this)
    · exact h5 (i * 3 + 1) _ (by have := fmR zs i 1 (by omega) hi'; simpa [encR] using this)
    · exact h5 (i * 3 + 2) _ (by have := fmR zs i 2 (by omega) hi'; simpa [encR] using this)

theorem IntsR.shape {K : Nat → Bool → Prop} {w : World} {v : Value} {l : List Int} (h : IntsR K w v l) :
    ∃ a cap, v = .slice a l.length cap ∧ l.length ≤ cap ∧ (l = [] ∨ ∃ b off, a = some ⟨b, off, none⟩ ∧ b < w.heap.size ∧ ∀ i (hi : i < l.length), w.cell? ⟨b, off + i, none⟩ = some (.int .i64 l[i])) := by
  rcases l with _ | ⟨u, l⟩
  · obtain ⟨a, cap, h1, h2, h3, h4, h5⟩ := h
    exact ⟨a, cap, h1, h3, .inl rfl⟩
  · obtain ⟨b, off, cap, h1, h2, h3, h4, h5⟩ := SlR.cells h (by simp)
    refine ⟨_, cap, h1, h3, .inr ⟨b, off, rfl, h2, fun i hi => ?_⟩⟩
    exact h5 i _ (by rw [List.getElem?_map, List.getElem?_eq_getElem hi]; rfl)

theorem SlR.take {K : Nat → Bool → Prop} {E sz : Nat} {w : World} {a : Option Addr} {n cap : Nat} {cs : List Value} (h : SlR K E sz w (.slice a n cap) n cs) {k : Nat} (hk : k ≤ n) : SlR K E sz w (.slice a k cap) k (cs.take (k * sz)) := by
  obtain ⟨a', cap', h1, h2, h3, h4, h5⟩ := h
  simp only [Value.slice.injEq, true_and] at h1
  obtain ⟨rfl, rfl⟩ := h1
  refine ⟨a, cap, rfl, by rw [List.length_take, h2]; exact Nat.min_eq_left (Nat.mul_le_mul_right _ hk), by omega, fun e => ⟨by have := (h4 e).1; omega, (h4 e).2⟩, fun hn => ?_⟩
  obtain ⟨b, off, cur, e, fr, g1, g2, g3, g4⟩ := h5 (by omega)
  refine ⟨b, off, cur, e, fr, g1, g2, g3, fun j u hu => g4 j u ?_⟩
  rw [List.getElem?_take] at hu
  split at hu
  · exact hu
  · cases hu

theorem fm_take {α : Type} (f : α → List Value) (sz : Nat) (hf : ∀ x, (f x).length = sz) (l : List α) (k : Nat) : (l.flatMap f).take (k * sz) = (l.take k).flatMap f := by
  induction l generalizing k with
  | nil => simp
  | cons x l ih =>
    cases k with
    | zero => simp
    | succ k =>
      rw [List.flatMap_cons, List.take_succ_cons, List.flatMap_cons, ← ih k, List.take_append, hf]
      have h1 : (k + 1) * sz - sz = k * sz := by rw [Nat.succ_mul]; omega
      rw [h1, List.take_of_length_le (by rw [hf, Nat.succ_mul]; omega)]

theorem RecsR.take {K : Nat → Bool → Prop} {w : World} {a : Option Addr} {n cap : Nat} {rs : List Rc} (h : RecsR K w (.slice a n cap) rs) (hn : n = rs.length) {k : Nat} (hk : k ≤ n) : RecsR K w (.slice a k cap) (rs.take k) := by
  obtain ⟨zs, h1, h2, h3⟩ := h
  subst hn
  refine ⟨zs.take k, by rw [List.map_take, h1], ?_, fun z hz => h3 z (List.mem_of_mem_take hz)⟩
  have := h2.take hk
  rw [fm_take encR 3 (fun _ => rfl)] at this
  rw [List.length_take, Nat.min_eq_left hk]
  exact this

end Go.Proofs.Ytkcpecihgldflaa
