/- The marks of objects and entries. -/
import Derived.Test.YtjgbconlpolddaaQM9
set_option linter.unusedVariables false
set_option linter.unusedSimpArgs false
namespace Go.Proofs.Ytjgbconlpolddaa
open Go.RowKit
set_option linter.unusedVariables false

theorem own_tagB {lo E sz n b : Nat} {w : World} {v : Value} {cs : List Value} (h : w.ownsRow lo E sz v n cs) (hb : v.ownBlock = some b) : ∃ cur, w.heap[b]? = some (.cells cur E (0, 0)) := by
  obtain ⟨_, hh⟩ := h
  rcases hh with ⟨rfl, _⟩ | ⟨g, cap, cur, rfl, _, hg, _⟩
  · cases hb
  · have : g = b := by simpa [Value.ownBlock] using hb
    subst this
    exact ⟨cur, hg⟩

theorem apart_tag {lo lo' E E' sz sz' n n' : Nat} {w : World} {v v' : Value} {cs cs' : List Value} (h : w.ownsRow lo E sz v n cs) (h' : w.ownsRow lo' E' sz' v' n' cs') (hE : E ≠ E') : v.ownBlock = none ∨ v.ownBlock ≠ v'.ownBlock := by
  cases hv : v.ownBlock with
  | none => exact .inl rfl
  | some b =>
    refine .inr fun e => ?_
    obtain ⟨c1, h1⟩ := own_tagB h hv
    obtain ⟨c2, h2⟩ := own_tagB h' e.symm
    rw [h1] at h2
    cases h2
    exact hE rfl

theorem fmOb_setAt (zs : List (Ob × Value)) {k j : Nat} (hk : k < zs.length) (hj : j < 3) (x : Value) (z' : Ob × Value) (hz : (encOb zs[k]).set j x = encOb z') : (zs.flatMap encOb).set (k * 3 + j) x = (zs.set k z').flatMap encOb := by
  induction zs generalizing k with
  | nil => simp at hk
  | cons z zs ih =>
    cases k with
    | zero =>
      simp only [List.getElem_cons_zero] at hz
      simp only [List.flatMap_cons, List.set_cons_zero, Nat.zero_mul, Nat.zero_add]
      rw [List.set_append_left _ _ (by simp [encOb]; omega), hz]
    | succ k =>
      have hk' : k < zs.length := by simpa using hk
      have e1 : (k + 1) * 3 + j = (encOb z).length + (k * 3 + j) := by simp [encOb]; omega
      simp only [List.flatMap_cons, List.set_cons_succ]
      rw [e1, List.set_append_right _ _ (by omega), Nat.add_sub_cancel_left, ih hk' (by simpa using hz)]

theorem fmOb_same (zs : List (Ob × Value)) {k : Nat} (hk : k < zs.length) (z' : Ob × Value) (hz : encOb z' = encOb zs[k]) : (zs.set k z').flatMap encOb = zs.flatMap encOb := by
  induction zs generalizing k with
  | nil => simp at hk
  | cons z zs ih =>
    cases k with
    | zero => simp only [List.set_cons_zero, List.flatMap_cons]; rw [hz]; rfl
    | succ k => simp only [List.set_cons_succ, List.flatMap_cons]; rw [ih (by simpa using hk) (by simpa using hz)]

/-- Object i of objects in rows of their own, and what becomes of it. -/
theorem ObsIn.at {lo hi g n cap : Nat} {w : World} {os : List Ob} (h : ObsIn lo hi w (.slice (some ⟨g, 0, none⟩) n cap) os) {i : Nat} (hi' : i < os.length) :
    ∃ u : Value, (w.cell? ⟨g, i * 3, none⟩ = some (.int .i64 os[i].kind) ∧ w.cell? ⟨g, i * 3 + 1, none⟩ = some u ∧ w.cell? ⟨g, i * 3 + 2, none⟩ = some (.string (tx os[i].text)) ∧ (∀ o, w.frozen? ⟨g, o, none⟩ = false) ∧ lo ≤ g ∧ g < hi) ∧
      w.ownsRow lo 3 1 u os[i].links.length (os[i].links.map (Value.int .i64)) ∧ Hi hi u ∧
      (∀ x : Int, ObsIn lo hi (w.setCell ⟨g, i * 3, none⟩ (.int .i64 x)) (.slice (some ⟨g, 0, none⟩) n cap) (os.set i ⟨x, os[i].links, os[i].text⟩) ∧ w.grownBy (w.setCell ⟨g, i * 3, none⟩ (.int .i64 x)) (some g)) ∧
      (∀ t : Tx, ObsIn lo hi (w.setCell ⟨g, i * 3 + 2, none⟩ (.string (tx t))) (.slice (some ⟨g, 0, none⟩) n cap) (os.set i ⟨os[i].kind, os[i].links, t⟩) ∧ w.grownBy (w.setCell ⟨g, i * 3 + 2, none⟩ (.string (tx t))) (some g)) ∧
      (∀ (w' : World) (l : List Int), w'.ownsRow lo 3 1 u l.length (l.map (Value.int .i64)) → w.grownBy w' u.ownBlock → ObsIn lo hi w' (.slice (some ⟨g, 0, none⟩) n cap) (os.set i ⟨os[i].kind, l, os[i].text⟩)) := by
  obtain ⟨zs, h1, h2, h3, h4, h5, h6⟩ := h
  have hn : n = os.length := by
    obtain ⟨_, _, he⟩ := own_any h2
    cases he; rfl
  subst hn
  have hl : zs.length = os.length := by rw [← h1]; simp
  have hz : i < zs.length := by omega
  have hzi : zs[i].1 = os[i] := by subst h1; simp
  have hlen := fmOb_len zs
  have cellOf : ∀ j (hj : j < 3), w.cell? ⟨g, i * 3 + j, none⟩ = (encOb zs[i])[j]? := fun j hj => by
    rw [h2.cellAt (i * 3 + j) (by omega)]
    exact fmOb zs i j hj hz
  have setOf : ∀ (j : Nat) (hj : j < 3) (x : Value) (o : Ob), (encOb zs[i]).set j x = encOb (o, zs[i].2) → o.links = os[i].links → ObsIn lo hi (w.setCell ⟨g, i * 3 + j, none⟩ x) (.slice (some ⟨g, 0, none⟩) os.length cap) (os.set i o) ∧ w.grownBy (w.setCell ⟨g, i * 3 + j, none⟩ x) (some g) := fun j hj x o hs ho => by
    obtain ⟨s1, s2⟩ := h2.stored (i * 3 + j) x
    have F := Fr.ofOwnGrown (T := [40]) (B := lo) h2 s2 (Nat.le_refl _) (by simp)
    have e := fmOb_setAt zs hz hj x (o, zs[i].2) hs
    refine ⟨⟨zs.set i (o, zs[i].2), by rw [List.map_set, h1], by rw [List.length_set, ← e]; exact s1, fun z hz' => ?_, ?_, h5, fun z hz' => ?_⟩, s2⟩
    · rcases List.mem_or_eq_of_mem_set hz' with hm | rfl
      · exact ownsRow_keep (h3 z hm) F (by simp)
      · have := ownsRow_keep (h3 _ (List.getElem_mem hz)) F (by simp)
        rw [hzi] at this
        dsimp only
        rw [ho]
        exact this
    · rw [List.pairwise_iff_getElem] at h4 ⊢
      intro a b ha hb hab
      have ha' : a < zs.length := by simpa using ha
      have hb' : b < zs.length := by simpa using hb
      have := h4 a b ha' hb' hab
      rw [List.getElem_set, List.getElem_set]
      split
      · rename_i e1
        subst e1
        rw [if_neg (by omega)]
        exact this
      · split
        · rename_i e1
          subst e1
          exact this
        · exact this
    · rcases List.mem_or_eq_of_mem_set hz' with hm | rfl
      · exact h6 z hm
      · exact h6 zs[i] (List.getElem_mem hz)
  refine ⟨zs[i].2, ⟨?_, ?_, ?_, h2.frozenAt, (h2.lt g rfl).1, h5 g rfl⟩, ?_, h6 _ (List.getElem_mem hz), fun x => ?_, fun t => ?_, fun w' l hl' hg => ?_⟩
  · have := cellOf 0 (by omega); rw [Nat.add_zero] at this; rw [this, ← hzi]; rfl
  · have := cellOf 1 (by omega); rw [this]; rfl
  · have := cellOf 2 (by omega); rw [this, ← hzi]; rfl
  · have := h3 _ (List.getElem_mem hz); rw [hzi] at this; exact this
  · have := setOf 0 (by omega) (.int .i64 x) ⟨x, os[i].links, os[i].text⟩ (by rw [← hzi]; rfl) rfl
    rw [Nat.add_zero] at this
    exact this
  · exact setOf 2 (by omega) (.string (tx t)) ⟨os[i].kind, os[i].links, t⟩ (by rw [← hzi]; rfl) rfl
  · have hrow := h2.kept hg (apart_tag h2 (h3 _ (List.getElem_mem hz)) (by decide))
    have hap : ∀ j (hj : j < zs.length), j ≠ i → zs[j].2.ownBlock = none ∨ zs[j].2.ownBlock ≠ zs[i].2.ownBlock := fun j hj hne => by
      rw [List.pairwise_iff_getElem] at h4
      rcases Nat.lt_or_gt_of_ne hne with hlt | hlt
      · exact h4 j i hj hz hlt
      · rcases h4 i j hz hj hlt with h | h
        · cases ho : zs[j].2.ownBlock with
          | none => exact .inl rfl
          | some b => exact .inr (by rw [h]; simp)
        · exact .inr (fun e => h e.symm)
    have e := fmOb_same zs hz (⟨os[i].kind, l, os[i].text⟩, zs[i].2) (by rw [← hzi]; rfl)
    refine ⟨zs.set i (⟨os[i].kind, l, os[i].text⟩, zs[i].2), by rw [List.map_set, h1], by rw [List.length_set, e]; exact hrow, fun z hz' => ?_, ?_, h5, fun z hz' => ?_⟩
    · obtain ⟨j, hj, rfl⟩ := List.mem_iff_getElem.1 hz'
      have hj' : j < zs.length := by simpa using hj
      rw [List.getElem_set]
      split
      · exact hl'
      · rename_i hne
        exact (h3 _ (List.getElem_mem hj')).kept hg (hap j hj' (fun e => hne e.symm))
    · rw [List.pairwise_iff_getElem] at h4 ⊢
      intro a b ha hb hab
      have ha' : a < zs.length := by simpa using ha
      have hb' : b < zs.length := by simpa using hb
      have := h4 a b ha' hb' hab
      rw [List.getElem_set, List.getElem_set]
      split
      · rename_i e1
        subst e1
        rw [if_neg (by omega)]
        exact this
      · split
        · rename_i e1
          subst e1
          exact this
        · exact this
    · rcases List.mem_or_eq_of_mem_set hz' with hm | rfl
      · exact h6 z hm
      · exact h6 zs[i] (List.getElem_mem hz)

theorem fmEn_setAt4 (zs : List (En × (Value × Value))) {k j : Nat} (hk : k < zs.length) (hj : j < 4) (x : Value) (z' : En × (Value × Value)) (hz : (encEn zs[k]).set j x = encEn z') : (zs.flatMap encEn).set (k * 4 + j) x = (zs.set k z').flatMap encEn := by
  induction zs generalizing k with
  | nil => simp at hk
  | cons z zs ih =>
    cases k with
    | zero =>
      simp only [List.getElem_cons_zero] at hz
      simp only [List.flatMap_cons, List.set_cons_zero, Nat.zero_mul, Nat.zero_add]
      rw [List.set_append_left _ _ (by simp [encEn]; omega), hz]
    | succ k =>
      have hk' : k < zs.length := by simpa using hk
      have e1 : (k + 1) * 4 + j = (encEn z).length + (k * 4 + j) := by simp [encEn]; omega
      simp only [List.flatMap_cons, List.set_cons_succ]
      rw [e1, List.set_append_right _ _ (by omega), Nat.add_sub_cancel_left, ih hk' (by simpa using hz)]

theorem fmEn_same (zs : List (En × (Value × Value))) {k : Nat} (hk : k < zs.length) (z' : En × (Value × Value)) (hz : encEn z' = encEn zs[k]) : (zs.set k z').flatMap encEn = zs.flatMap encEn := by
  induction zs generalizing k with
  | nil => simp at hk
  | cons z zs ih =>
    cases k with
    | zero => simp only [List.set_cons_zero, List.flatMap_cons]; rw [hz]; rfl
    | succ k => simp only [List.set_cons_succ, List.flatMap_cons]; rw [ih (by simpa using hk) (by simpa using hz)]

theorem pair_set {α : Type} {R : α → α → Prop} {zs : List α} (h : zs.Pairwise R) {i : Nat} (hi : i < zs.length) (z : α) (h1 : ∀ x, R x zs[i] → R x z) (h2 : ∀ x, R zs[i] x → R z x) : (zs.set i z).Pairwise R := by
  rw [List.pairwise_iff_getElem] at h ⊢
  intro a b ha hb hab
  have ha' : a < zs.length := by simpa using ha
  have hb' : b < zs.length := by simpa using hb
  have := h a b ha' hb' hab
  rw [List.getElem_set, List.getElem_set]
  split
  · rename_i e1
    subst e1
    rw [if_neg (by omega)]
    exact h2 _ this
  · split
    · rename_i e1
      subst e1
      exact h1 _ this
    · exact this

theorem apart_sym {a b : Value} (h : Apart a b) : Apart b a := by
  unfold Apart at h ⊢
  rcases h with h | h
  · cases ho : b.ownBlock with
    | none => exact .inl rfl
    | some x => exact .inr (by rw [h]; simp)
  · exact .inr (fun e => h e.symm)

/-- Entry i of entries in rows of their own, and what becomes of it. -/
theorem EnsIn.at {lo hi g n cap : Nat} {w : World} {es : List En} (h : EnsIn lo hi w (.slice (some ⟨g, 0, none⟩) n cap) es) {i : Nat} (hi' : i < es.length) :
    ∃ u p : Value, (w.cell? ⟨g, i * 4, none⟩ = some (.int .i64 es[i].kind) ∧ w.cell? ⟨g, i * 4 + 1, none⟩ = some u ∧ w.cell? ⟨g, i * 4 + 2, none⟩ = some (.int .i64 es[i].base) ∧ w.cell? ⟨g, i * 4 + 3, none⟩ = some p ∧ (∀ o, w.frozen? ⟨g, o, none⟩ = false) ∧ lo ≤ g ∧ g < hi) ∧
      w.ownsRow lo 3 1 u es[i].links.length (es[i].links.map (Value.int .i64)) ∧ Hi hi u ∧ w.ownsRow lo 109 3 p es[i].ops.length (es[i].ops.flatMap encOp) ∧ Hi hi p ∧
      (∀ x : Int, EnsIn lo hi (w.setCell ⟨g, i * 4, none⟩ (.int .i64 x)) (.slice (some ⟨g, 0, none⟩) n cap) (es.set i { es[i] with kind := x }) ∧ w.grownBy (w.setCell ⟨g, i * 4, none⟩ (.int .i64 x)) (some g)) ∧
      (∀ x : Int, EnsIn lo hi (w.setCell ⟨g, i * 4 + 2, none⟩ (.int .i64 x)) (.slice (some ⟨g, 0, none⟩) n cap) (es.set i { es[i] with base := x }) ∧ w.grownBy (w.setCell ⟨g, i * 4 + 2, none⟩ (.int .i64 x)) (some g)) ∧
      (∀ (w' : World) (l : List Int), w'.ownsRow lo 3 1 u l.length (l.map (Value.int .i64)) → w.grownBy w' u.ownBlock → EnsIn lo hi w' (.slice (some ⟨g, 0, none⟩) n cap) (es.set i { es[i] with links := l })) ∧
      (∀ (w' : World) (l : List Opn), w'.ownsRow lo 109 3 p l.length (l.flatMap encOp) → w.grownBy w' p.ownBlock → EnsIn lo hi w' (.slice (some ⟨g, 0, none⟩) n cap) (es.set i { es[i] with ops := l })) := by
  obtain ⟨zs, h1, h2, h3, h4, h5, h6⟩ := h
  have hn : n = es.length := by
    obtain ⟨_, _, he⟩ := own_any h2
    cases he; rfl
  subst hn
  have hl : zs.length = es.length := by rw [← h1]; simp
  have hz : i < zs.length := by omega
  have hzi : zs[i].1 = es[i] := by subst h1; simp
  have hlen := fmEn_len4 zs
  have cellOf : ∀ j (hj : j < 4), w.cell? ⟨g, i * 4 + j, none⟩ = (encEn zs[i])[j]? := fun j hj => by
    rw [h2.cellAt (i * 4 + j) (by omega)]
    exact fm_get encEn 4 (fun _ => rfl) zs i j hj hz
  have h3i := h3 _ (List.getElem_mem hz)
  have setOf : ∀ (j : Nat) (hj : j < 4) (x : Value) (o : En), (encEn zs[i]).set j x = encEn (o, zs[i].2) → o.links = es[i].links → o.ops = es[i].ops → EnsIn lo hi (w.setCell ⟨g, i * 4 + j, none⟩ x) (.slice (some ⟨g, 0, none⟩) es.length cap) (es.set i o) ∧ w.grownBy (w.setCell ⟨g, i * 4 + j, none⟩ x) (some g) := fun j hj x o hs ho hp => by
    obtain ⟨s1, s2⟩ := h2.stored (i * 4 + j) x
    have F := Fr.ofOwnGrown (T := [32]) (B := lo) h2 s2 (Nat.le_refl _) (by simp)
    have e := fmEn_setAt4 zs hz hj x (o, zs[i].2) hs
    refine ⟨⟨zs.set i (o, zs[i].2), by rw [List.map_set, h1], by rw [List.length_set, ← e]; exact s1, fun z hz' => ?_, pair_set h4 hz _ (fun _ h => h) (fun _ h => h), h5, fun z hz' => ?_⟩, s2⟩
    · rcases List.mem_or_eq_of_mem_set hz' with hm | rfl
      · exact ⟨ownsRow_keep (h3 z hm).1 F (by simp), ownsRow_keep (h3 z hm).2 F (by simp)⟩
      · have a := ownsRow_keep h3i.1 F (by simp)
        have b := ownsRow_keep h3i.2 F (by simp)
        rw [hzi] at a b
        dsimp only
        rw [ho, hp]
        exact ⟨a, b⟩
    · rcases List.mem_or_eq_of_mem_set hz' with hm | rfl
      · exact h6 z hm
      · exact h6 zs[i] (List.getElem_mem hz)
  have hap : ∀ j (hj : j < zs.length), j ≠ i → Apart zs[j].2.1 zs[i].2.1 ∧ Apart zs[j].2.2 zs[i].2.2 := fun j hj hne => by
    rw [List.pairwise_iff_getElem] at h4
    rcases Nat.lt_or_gt_of_ne hne with hlt | hlt
    · exact h4 j i hj hz hlt
    · exact ⟨apart_sym (h4 i j hz hj hlt).1, apart_sym (h4 i j hz hj hlt).2⟩
  refine ⟨zs[i].2.1, zs[i].2.2, ⟨?_, ?_, ?_, ?_, h2.frozenAt, (h2.lt g rfl).1, h5 g rfl⟩, ?_, (h6 _ (List.getElem_mem hz)).1, ?_, (h6 _ (List.getElem_mem hz)).2, fun x => ?_, fun x => ?_, fun w' l hl' hg => ?_, fun w' l hl' hg => ?_⟩
  · have := cellOf 0 (by omega); rw [Nat.add_zero] at this; rw [this, ← hzi]; rfl
  · have := cellOf 1 (by omega); rw [this]; rfl
  · have := cellOf 2 (by omega); rw [this, ← hzi]; rfl
  · have := cellOf 3 (by omega); rw [this]; rfl
  · have := h3i.1; rw [hzi] at this; exact this
  · have := h3i.2; rw [hzi] at this; exact this
  · have := setOf 0 (by omega) (.int .i64 x) { es[i] with kind := x } (by rw [← hzi]; rfl) rfl rfl
    rw [Nat.add_zero] at this
    exact this
  · exact setOf 2 (by omega) (.int .i64 x) { es[i] with base := x } (by rw [← hzi]; rfl) rfl rfl
  · have hrow := h2.kept hg (apart_tag h2 h3i.1 (by decide))
    have e := fmEn_same zs hz ({ es[i] with links := l }, zs[i].2) (by rw [← hzi]; rfl)
    refine ⟨zs.set i ({ es[i] with links := l }, zs[i].2), by rw [List.map_set, h1], by rw [List.length_set, e]; exact hrow, fun z hz' => ?_, pair_set h4 hz _ (fun _ h => h) (fun _ h => h), h5, fun z hz' => ?_⟩
    · obtain ⟨j, hj, rfl⟩ := List.mem_iff_getElem.1 hz'
      have hj' : j < zs.length := by simpa using hj
      rw [List.getElem_set]
      split
      · have b := h3i.2.kept hg (apart_tag h3i.2 h3i.1 (by decide))
        rw [hzi] at b
        exact ⟨hl', b⟩
      · rename_i hne
        exact ⟨(h3 _ (List.getElem_mem hj')).1.kept hg (hap j hj' (fun e => hne e.symm)).1, (h3 _ (List.getElem_mem hj')).2.kept hg (apart_tag (h3 _ (List.getElem_mem hj')).2 h3i.1 (by decide))⟩
    · rcases List.mem_or_eq_of_mem_set hz' with hm | rfl
      · exact h6 z hm
      · exact h6 zs[i] (List.getElem_mem hz)
  · have hrow := h2.kept hg (apart_tag h2 h3i.2 (by decide))
    have e := fmEn_same zs hz ({ es[i] with ops := l }, zs[i].2) (by rw [← hzi]; rfl)
    refine ⟨zs.set i ({ es[i] with ops := l }, zs[i].2), by rw [List.map_set, h1], by rw [List.length_set, e]; exact hrow, fun z hz' => ?_, pair_set h4 hz _ (fun _ h => h) (fun _ h => h), h5, fun z hz' => ?_⟩
    · obtain ⟨j, hj, rfl⟩ := List.mem_iff_getElem.1 hz'
      have hj' : j < zs.length := by simpa using hj
      rw [List.getElem_set]
      split
      · have b := h3i.1.kept hg (apart_tag h3i.1 h3i.2 (by decide))
        rw [hzi] at b
        exact ⟨b, hl'⟩
      · rename_i hne
        exact ⟨(h3 _ (List.getElem_mem hj')).1.kept hg (apart_tag (h3 _ (List.getElem_mem hj')).1 h3i.2 (by decide)), (h3 _ (List.getElem_mem hj')).2.kept hg (hap j hj' (fun e => hne e.symm)).2⟩
    · rcases List.mem_or_eq_of_mem_set hz' with hm | rfl
      · exact h6 z hm
      · exact h6 zs[i] (List.getElem_mem hz)

end Go.Proofs.Ytjgbconlpolddaa
