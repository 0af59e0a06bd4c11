/- FnPackBase: plain facts and the walk. -/
import Derived.Test.YtjgbconlpolddaaPkNo
import Derived.Test.YtjgbconlpolddaaPkSame
import Derived.Test.YtjgbconlpolddaaPkDraw4
namespace Go.Proofs.Ytjgbconlpolddaa
open Go.RowKit
set_option linter.unusedVariables false

theorem Few.b {os : List Ob} (h : Few os) (hl : os.length ≤ 17) : ObsB os := ⟨by omega, fun o ho => by have := (h o ho).1; omega⟩

theorem pk_few {os : List Ob} (h : Few os) : ∀ {i : Nat}, i ≤ os.length → ∀ e ∈ (pk os i).1, e.links.length ≤ 1000 ∧ e.ops.length ≤ 8 := by
  intro i
  induction i with
  | zero => intro _ e he; cases he
  | succ i ih =>
    intro hi e he
    rw [pk_succ (by omega)] at he
    rcases List.mem_append.1 he with he | he
    · exact ih (by omega) e he
    · simp at he
      subst he
      exact ⟨(h _ (List.getElem_mem (by omega))).1, (delta_le _ _).1⟩

theorem pack_len (os : List Ob) : (pack os).length = os.length := (pk_len (Nat.le_refl _)).1

theorem packEn_b {os : List Ob} (h : Few os) (hl : os.length ≤ 17) (ok : Bool) : EnsB (if ok then pack os else []) := by
  cases ok
  · exact ⟨Nat.zero_le _, fun e he => by cases he⟩
  · refine ⟨by rw [if_pos rfl, pack_len]; omega, fun e he => ?_⟩
    rw [if_pos rfl] at he
    have := pk_few h (Nat.le_refl _) e he
    exact ⟨by omega, by omega⟩

theorem fmEn_set2 (zs : List (En × (Value × Value))) {k : Nat} (hk : k < zs.length) (x : Int) : (zs.flatMap encEn).set (k * 4 + 2) (.int .i64 x) = (zs.set k ({ zs[k].1 with base := x }, zs[k].2)).flatMap encEn := by
  induction zs generalizing k with
  | nil => simp at hk
  | cons z zs ih =>
    cases k with
    | zero => simp [encEn]
    | succ k =>
      have hk' : k < zs.length := by simpa using hk
      have e1 : (k + 1) * 4 + 2 = (encEn z).length + (k * 4 + 2) := by simp [encEn]; omega
      simp only [List.flatMap_cons, List.set_cons_succ, List.getElem_cons_succ]
      rw [e1, List.set_append_right _ _ (by omega), Nat.add_sub_cancel_left, ih hk']

/-- An entry's base laid anew. -/
theorem EnsOwn.setBase {lo : Nat} {w : World} {g n cap : Nat} {es : List En} (h : EnsOwn lo w (.slice (some ⟨g, 0, none⟩) n cap) es) {k : Nat} (hk : k < es.length) (x : Int) :
    EnsOwn lo (w.setCell ⟨g, k * 4 + 2, none⟩ (.int .i64 x)) (.slice (some ⟨g, 0, none⟩) n cap) (es.set k { es[k] with base := x }) ∧ Fr lo [32] w (w.setCell ⟨g, k * 4 + 2, none⟩ (.int .i64 x)) := by
  obtain ⟨zs, g1, g2, g3⟩ := h
  have hn : n = es.length := by
    obtain ⟨_, _, he⟩ := own_any g2
    cases he; rfl
  subst hn
  have hz : k < zs.length := by have := congrArg List.length g1; simp at this; omega
  obtain ⟨s1, s2⟩ := g2.stored (k * 4 + 2) (.int .i64 x)
  have F := Fr.ofOwnGrown (T := [32]) (B := lo) g2 s2 (Nat.le_refl _) (by simp)
  refine ⟨⟨zs.set k ({ zs[k].1 with base := x }, zs[k].2), ?_, ?_, fun z hz' => ?_⟩, F⟩
  · subst g1
    rw [List.map_set]
    simp
  · rw [List.length_set, ← fmEn_set2 zs hz x]
    exact s1
  · rcases List.mem_or_eq_of_mem_set hz' with hm | hm
    · exact ⟨(g3 z hm).1.keep F (Safe.new (by simp)), (g3 z hm).2.keep F (Safe.new (by simp))⟩
    · subst hm
      have := g3 _ (List.getElem_mem hz)
      exact ⟨this.1.keep F (Safe.new (by simp)), this.2.keep F (Safe.new (by simp))⟩

theorem link_bad {es : List En} {k : Nat} (hk : k < es.length) : linkOk (es.set k { es[k] with base := (k : Int) }) = false := by
  have hk' : k < (es.set k { es[k] with base := (k : Int) }).length := by simpa using hk
  refine linkTo_false hk' ?_ _ (by simpa using hk)
  simp [inR]
  omega

theorem oneEn {K : Nat → Bool → Prop} {w : World} {zs : List (En × (Value × Value))} (h : ∀ z ∈ zs, IntsR K w z.2.1 z.1.links ∧ OpsR K w z.2.2 z.1.ops) : ∀ u ∈ zs.flatMap encEn, u.oneCell' = true := by
  intro u hu
  obtain ⟨z, hz, hu⟩ := List.mem_flatMap.1 hu
  simp [encEn] at hu
  rcases hu with rfl | rfl | rfl | rfl
  · rfl
  · exact SlR.one (h z hz).1
  · rfl
  · exact SlR.one (h z hz).2

/-- 'append([]PackEntry{}, src...)'. -/
theorem EnsOwn.cloned {lo : Nat} {K : Nat → Bool → Prop} {w : World} {v : Value} {zs : List (En × (Value × Value))} {n : Nat} (h : w.ownsRow lo 32 4 v n (zs.flatMap encEn)) (hn : n = zs.length) (hz : ∀ z ∈ zs, IntsR (new lo) w z.2.1 z.1.links ∧ OpsR (new lo) w z.2.2 z.1.ops) : EnsOwn lo w v (zs.map (·.1)) := by
  subst hn
  exact ⟨zs, rfl, by rw [List.length_map]; exact h, hz⟩

/-- The clone, and a base of it laid anew. -/
theorem EnsOwn.clonedSet {lo l4 : Nat} {w : World} {g cap : Nat} {es : List En} {zs : List (En × (Value × Value))} (h : w.ownsRow l4 32 4 (.slice (some ⟨g, 0, none⟩) es.length cap) es.length (zs.flatMap encEn)) (hl : lo ≤ l4) (hm : zs.map (·.1) = es) (hz : ∀ z ∈ zs, IntsR (new lo) w z.2.1 z.1.links ∧ OpsR (new lo) w z.2.2 z.1.ops) {k : Nat} (hk : k < es.length) (x : Int) :
    (∃ u, w.cell? ⟨g, k * 4 + 2, none⟩ = some u) ∧ w.frozen? ⟨g, k * 4 + 2, none⟩ = false ∧ EnsR (new lo) (w.setCell ⟨g, k * 4 + 2, none⟩ (.int .i64 x)) (.slice (some ⟨g, 0, none⟩) es.length cap) (es.set k { es[k] with base := x }) := by
  subst hm
  rw [List.length_map] at h
  have h1 := EnsOwn.cloned (K := new lo) (ownsRow_lo h hl) rfl hz
  have hk' : k < zs.length := by simpa using hk
  have hlen : (zs.flatMap encEn).length = zs.length * 4 := by
    clear h1 h hz hk hk'
    induction zs with
    | nil => rfl
    | cons z zs ih => rw [List.flatMap_cons, List.length_append, ih]; simp [encEn]; omega
  refine ⟨⟨(zs.flatMap encEn)[k * 4 + 2]'(by omega), ?_⟩, h.frozenAt _, ?_⟩
  · rw [h.cellAt (k * 4 + 2) (by omega), List.getElem?_eq_getElem (by omega)]
  · rw [List.length_map]
    exact (h1.setBase hk x).1.reads

end Go.Proofs.Ytjgbconlpolddaa
