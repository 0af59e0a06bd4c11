/- What is reached from some ids in a store, and what is sent: the plain functions and laws. -/
import Derived.Test.YtjgbconlpolddaaGreatQPkStore
import Derived.Test.YtjgbconlpolddaaGreatQM5
set_option linter.unusedVariables false
set_option linter.unusedSimpArgs false
namespace Go.Proofs.YtjgbconlpolddaaGreat
open Go.RowKit
set_option linter.unusedVariables false

theorem asc_in {l : List Int} (h : asc l = true) : ∀ x ∈ l, 0 ≤ x ∧ x ≤ 990 := fun x hx => by
  obtain ⟨k, hk, rfl⟩ := List.mem_iff_getElem.1 hx
  exact asc_link h k hk

theorem asc_pw {l : List Int} (h : asc l = true) : l.Pairwise (· < ·) := by
  rw [List.pairwise_iff_getElem]
  intro i j hi hj hij
  induction j with
  | zero => omega
  | succ j ih =>
    have := ascTo_at h (j + 1) hj
    simp only [ascAt, List.getElem?_eq_getElem hj, List.getElem?_eq_getElem (show j < l.length by omega), Bool.and_eq_true, decide_eq_true_eq] at this
    by_cases e : i = j
    · subst e; exact this.2
    · exact Int.lt_trans (ih (by omega) (by omega)) this.2

theorem pw_nodup {l : List Int} (h : l.Pairwise (· < ·)) : l.Nodup := h.imp fun h e => by omega

/-- Two ascending lists with the same members are equal. -/
theorem pw_ext {a b : List Int} (ha : a.Pairwise (· < ·)) (hb : b.Pairwise (· < ·)) (h : ∀ n, n ∈ a ↔ n ∈ b) : a = b := by
  induction a generalizing b with
  | nil =>
    cases b with
    | nil => rfl
    | cons y b => have := (h y).2 (List.mem_cons_self ..); cases this
  | cons x a ih =>
    cases b with
    | nil => have := (h x).1 (List.mem_cons_self ..); cases this
    | cons y b =>
      rw [List.pairwise_cons] at ha hb
      have hxy : x = y := by
        rcases List.mem_cons.1 ((h x).1 (List.mem_cons_self ..)) with e | h1
        · exact e
        rcases List.mem_cons.1 ((h y).2 (List.mem_cons_self ..)) with e | h2
        · exact e.symm
        have := ha.1 y h2
        have := hb.1 x h1
        omega
      subst hxy
      congr 1
      refine ih ha.2 hb.2 fun n => ⟨fun hn => ?_, fun hn => ?_⟩
      · rcases List.mem_cons.1 ((h n).1 (List.mem_cons_of_mem _ hn)) with e | h1
        · have := ha.1 n hn; omega
        · exact h1
      · rcases List.mem_cons.1 ((h n).2 (List.mem_cons_of_mem _ hn)) with e | h1
        · have := hb.1 n hn; omega
        · exact h1

theorem nodup_len {l m : List Int} (hl : l.Nodup) (h : ∀ x ∈ l, x ∈ m) : l.length ≤ m.length := by
  induction l generalizing m with
  | nil => exact Nat.zero_le _
  | cons x l ih =>
    rw [List.nodup_cons] at hl
    have hx := h x (List.mem_cons_self ..)
    have := ih (m := m.erase x) hl.2 fun y hy => (List.mem_erase_of_ne (fun (e : y = x) => hl.1 (by rw [← e]; exact hy))).2 (h y (List.mem_cons_of_mem _ hy))
    rw [List.length_erase_of_mem hx] at this
    have := List.length_pos_of_mem hx
    simp only [List.length_cons]; omega

/-- Whether an id is stored. -/
def hasId (os : List Ob) (n : Int) : Bool := os.any (fun o => decide (oid o = n))

theorem hasId_iff {os : List Ob} {n : Int} : hasId os n = true ↔ ∃ o ∈ os, oid o = n := by
  unfold hasId
  simp

/-- The object with an id. -/
def obId (os : List Ob) (n : Int) : Option Ob := os.find? (fun o => decide (oid o = n))

theorem oid_inj {os : List Ob} (h : stOk os = true) {o p : Ob} (ho : o ∈ os) (hp : p ∈ os) (e : oid o = oid p) : o = p := by
  obtain ⟨i, hi, rfl⟩ := List.mem_iff_getElem.1 ho
  obtain ⟨j, hj, rfl⟩ := List.mem_iff_getElem.1 hp
  rcases Nat.lt_trichotomy i j with hij | hij | hij
  · have := stOk_lt h hij hj; omega
  · subst hij; rfl
  · have := stOk_lt h hij hi; omega

theorem obId_some {os : List Ob} {n : Int} {o : Ob} (h : obId os n = some o) : o ∈ os ∧ oid o = n := by
  unfold obId at h
  exact ⟨List.mem_of_find?_eq_some h, by simpa using List.find?_some h⟩

theorem obId_mem {os : List Ob} (h : stOk os = true) {o : Ob} (ho : o ∈ os) : obId os (oid o) = some o := by
  cases hf : obId os (oid o) with
  | none =>
    have := List.find?_eq_none.1 hf o ho
    simp at this
  | some p =>
    obtain ⟨h1, h2⟩ := obId_some hf
    rw [oid_inj h h1 ho h2]

theorem obId_none {os : List Ob} {n : Int} : obId os n = none ↔ hasId os n = false := by
  constructor
  · intro h
    rw [← Bool.not_eq_true, hasId_iff]
    rintro ⟨o, ho, e⟩
    have := List.find?_eq_none.1 h o ho
    simp at this
    exact this e
  · intro h
    cases hf : obId os n with
    | none => rfl
    | some p =>
      obtain ⟨h1, h2⟩ := obId_some hf
      rw [hasId_iff.2 ⟨p, h1, h2⟩] at h
      cases h

/-- What is reached. -/
inductive Rc (os : List Ob) (fr : List Int) : Int → Prop
  | base {n : Int} : n ∈ fr → Rc os fr n
  | step {m n : Int} {o : Ob} : Rc os fr m → o ∈ os → oid o = m → n ∈ o.links → Rc os fr n

theorem link_in {o : Ob} (h : obOk o = true) : ∀ x ∈ o.links, 0 ≤ x ∧ x ≤ 990 := fun x hx => by
  obtain ⟨k, hk, rfl⟩ := List.mem_iff_getElem.1 hx
  exact obOk_link h k hk

theorem Rc.inside {os : List Ob} {fr : List Int} {n : Int} (h : Rc os fr n) (ho : stOk os = true) (hf : ∀ x ∈ fr, 0 ≤ x ∧ x ≤ 990) : 0 ≤ n ∧ n ≤ 990 := by
  induction h with
  | base h => exact hf _ h
  | step _ h2 _ h4 _ => exact link_in ((stOk_iff.1 ho).2.1 _ h2) _ h4

/-- A closed list that has the start has all that is reached. -/
theorem Rc.closed {os : List Ob} {fr l : List Int} (h1 : ∀ x ∈ fr, x ∈ l) (h2 : ∀ x ∈ l, ∀ o ∈ os, oid o = x → ∀ y ∈ o.links, y ∈ l) {n : Int} (h : Rc os fr n) : n ∈ l := by
  induction h with
  | base h => exact h1 _ h
  | step _ h2' h3 h4 ih => exact h2 _ ih _ h2' h3 _ h4

theorem Rc.nil {os : List Ob} {n : Int} (h : Rc os [] n) : False := by
  have := h.closed (l := []) (fun x hx => hx) (fun x hx => by cases hx)
  cases this

open Classical in
/-- The ids that are reached, in order. -/
noncomputable def rcL (os : List Ob) (fr : List Int) : List Int := ((List.range 991).map Int.ofNat).filter (fun n => decide (Rc os fr n))

theorem rcL_pw (os : List Ob) (fr : List Int) : (rcL os fr).Pairwise (· < ·) := by
  unfold rcL
  refine List.Pairwise.filter _ ?_
  rw [List.pairwise_map]
  exact List.pairwise_lt_range.imp fun h => by simpa using h

theorem mem_rcL {os : List Ob} {fr : List Int} {n : Int} : n ∈ rcL os fr ↔ (0 ≤ n ∧ n ≤ 990) ∧ Rc os fr n := by
  unfold rcL
  rw [List.mem_filter, List.mem_map]
  constructor
  · rintro ⟨⟨k, hk, rfl⟩, h⟩
    have := List.mem_range.1 hk
    exact ⟨⟨by simp, by simp; omega⟩, by simpa using h⟩
  · rintro ⟨⟨h0, h1⟩, h⟩
    exact ⟨⟨n.toNat, List.mem_range.2 (by omega), by simp; omega⟩, by simpa using h⟩

theorem rcL_len (os : List Ob) (fr : List Int) : (rcL os fr).length ≤ 991 := by
  unfold rcL
  refine Nat.le_trans (List.length_filter_le _ _) (by simp)

/-- Those that are stored, and those that are missing. -/
noncomputable def rcS (os : List Ob) (fr : List Int) : List Int := (rcL os fr).filter (hasId os)
noncomputable def rcM (os : List Ob) (fr : List Int) : List Int := (rcL os fr).filter (fun n => !hasId os n)

theorem rcS_pw (os : List Ob) (fr : List Int) : (rcS os fr).Pairwise (· < ·) := (rcL_pw os fr).filter _
theorem rcM_pw (os : List Ob) (fr : List Int) : (rcM os fr).Pairwise (· < ·) := (rcL_pw os fr).filter _

theorem mem_rcS {os : List Ob} {fr : List Int} (ho : stOk os = true) {n : Int} : n ∈ rcS os fr ↔ Rc os fr n ∧ hasId os n = true := by
  unfold rcS
  rw [List.mem_filter, mem_rcL]
  constructor
  · rintro ⟨⟨_, h⟩, h2⟩; exact ⟨h, h2⟩
  · rintro ⟨h, h2⟩
    obtain ⟨o, h3, rfl⟩ := hasId_iff.1 h2
    exact ⟨⟨oid_in ((stOk_iff.1 ho).2.1 _ h3), h⟩, h2⟩

theorem mem_rcM {os : List Ob} {fr : List Int} (ho : stOk os = true) (hf : ∀ x ∈ fr, 0 ≤ x ∧ x ≤ 990) {n : Int} : n ∈ rcM os fr ↔ Rc os fr n ∧ hasId os n = false := by
  unfold rcM
  rw [List.mem_filter, mem_rcL]
  constructor
  · rintro ⟨⟨_, h⟩, h2⟩; exact ⟨h, by simpa using h2⟩
  · rintro ⟨h, h2⟩; exact ⟨⟨h.inside ho hf, h⟩, by simpa using h2⟩

theorem rcM_nil {os : List Ob} {fr : List Int} (ho : stOk os = true) (hf : ∀ x ∈ fr, 0 ≤ x ∧ x ≤ 990) : rcM os fr = [] ↔ ∀ n, Rc os fr n → hasId os n = true := by
  constructor
  · intro h n hn
    cases hh : hasId os n with
    | true => rfl
    | false => have := (mem_rcM ho hf).2 ⟨hn, hh⟩; rw [h] at this; cases this
  · intro h
    rw [List.eq_nil_iff_forall_not_mem]
    intro n hn
    obtain ⟨h1, h2⟩ := (mem_rcM ho hf).1 hn
    rw [h n h1] at h2; cases h2

theorem rcS_len {os : List Ob} (ho : stOk os = true) (fr : List Int) : (rcS os fr).length ≤ os.length := by
  have := nodup_len (m := os.map oid) (pw_nodup (rcS_pw os fr)) fun x hx => by
    obtain ⟨o, h1, h2⟩ := hasId_iff.1 ((mem_rcS ho).1 hx).2
    exact List.mem_map.2 ⟨o, h1, h2⟩
  simpa using this

/-- The ids that are sent. -/
noncomputable def need (os : List Ob) (ws hs : List Int) : List Int := (rcS os ws).filter (fun n => !(rcS os hs).contains n)

/-- Whether ids are given in order. -/
def idsB (l : List Int) : Bool := asc l && decide (l.length ≤ 4)

theorem idsB_asc {l : List Int} (h : idsB l = true) : asc l = true ∧ l.length ≤ 4 := by
  unfold idsB at h
  simpa using h

noncomputable def needOk (os : List Ob) (ws hs : List Int) : Bool := stOk os && idsB ws && idsB hs && (rcM os ws).isEmpty

theorem needOk_iff {os : List Ob} {ws hs : List Int} : needOk os ws hs = true ↔ stOk os = true ∧ idsB ws = true ∧ idsB hs = true ∧ rcM os ws = [] := by
  unfold needOk
  simp [and_assoc]

theorem need_pw (os : List Ob) (ws hs : List Int) : (need os ws hs).Pairwise (· < ·) := (rcS_pw os ws).filter _

theorem mem_need {os : List Ob} {ws hs : List Int} (ho : stOk os = true) {n : Int} : n ∈ need os ws hs ↔ Rc os ws n ∧ hasId os n = true ∧ ¬ Rc os hs n := by
  unfold need
  rw [List.mem_filter, mem_rcS ho]
  constructor
  · rintro ⟨⟨h1, h2⟩, h3⟩
    refine ⟨h1, h2, fun h4 => ?_⟩
    have := (mem_rcS ho).2 ⟨h4, h2⟩
    simp [this] at h3
  · rintro ⟨h1, h2, h3⟩
    refine ⟨⟨h1, h2⟩, ?_⟩
    have : n ∉ rcS os hs := fun h => h3 ((mem_rcS ho).1 h).1
    simpa using this

theorem need_len {os : List Ob} (ho : stOk os = true) (ws hs : List Int) : (need os ws hs).length ≤ os.length :=
  Nat.le_trans (List.length_filter_le _ _) (rcS_len ho ws)

/-- The objects of some ids. -/
def obsOf (os : List Ob) (ns : List Int) : List Ob := ns.filterMap (obId os)

theorem obsOf_mem {os : List Ob} {ns : List Int} (ho : stOk os = true) {o : Ob} : o ∈ obsOf os ns ↔ o ∈ os ∧ oid o ∈ ns := by
  unfold obsOf
  rw [List.mem_filterMap]
  constructor
  · rintro ⟨n, hn, h⟩
    obtain ⟨h1, rfl⟩ := obId_some h
    exact ⟨h1, hn⟩
  · rintro ⟨h1, h2⟩
    exact ⟨_, h2, obId_mem ho h1⟩

theorem obsOf_oid {os : List Ob} {ns : List Int} (h : ∀ n ∈ ns, hasId os n = true) : (obsOf os ns).map oid = ns := by
  induction ns with
  | nil => rfl
  | cons n ns ih =>
    have hn := h n (List.mem_cons_self ..)
    unfold obsOf
    rw [List.filterMap_cons]
    cases hf : obId os n with
    | none => rw [obId_none.1 hf] at hn; cases hn
    | some o =>
      dsimp only
      rw [List.map_cons, (obId_some hf).2]
      congr 1
      exact ih fun m hm => h m (List.mem_cons_of_mem _ hm)

theorem obsOf_len {os : List Ob} {ns : List Int} (h : ∀ n ∈ ns, hasId os n = true) : (obsOf os ns).length = ns.length := by
  have := congrArg List.length (obsOf_oid h)
  simpa using this

theorem obsOf_snoc (os : List Ob) (ns : List Int) (n : Int) {o : Ob} (h : obId os n = some o) : obsOf os (ns ++ [n]) = obsOf os ns ++ [o] := by
  unfold obsOf
  rw [List.filterMap_append]
  simp [h]

theorem need_has {os : List Ob} {ws hs : List Int} (ho : stOk os = true) : ∀ n ∈ need os ws hs, hasId os n = true := fun n hn => ((mem_need ho).1 hn).2.1

theorem need_packOk {os : List Ob} {ws hs : List Int} (ho : stOk os = true) : packOk (obsOf os (need os ws hs)) = true := by
  unfold packOk
  rw [Bool.and_eq_true]
  have h1 := need_len ho ws hs
  have h2 := obsOf_len (need_has (ws := ws) (hs := hs) ho)
  have h3 := (stOk_iff.1 ho).1
  refine ⟨decide_eq_true (by omega), List.all_eq_true.2 fun o ho' => (stOk_iff.1 ho).2.1 _ ((obsOf_mem ho).1 ho').1⟩

/-- Objects of one store, put into a store of it. -/
theorem putTo_sub {S os list : List Ob} (hS : stOk S = true) (hos : stOk os = true) (h1 : ∀ o ∈ os, o ∈ S) (h2 : ∀ o ∈ list, o ∈ S) :
    ∀ k, k ≤ list.length → ∃ x, putTo os list k = some x ∧ stOk x = true ∧ ∀ p, p ∈ x ↔ p ∈ os ∨ p ∈ list.take k := by
  intro k
  induction k with
  | zero => intro _; exact ⟨os, rfl, hos, fun p => by simp⟩
  | succ k ih =>
    intro hk
    obtain ⟨x, e1, e2, e3⟩ := ih (by omega)
    have hk' : k < list.length := by omega
    have hoS := h2 _ (List.getElem_mem hk')
    have hxS : ∀ p ∈ x, p ∈ S := fun p hp => by
      rcases (e3 p).1 hp with h | h
      · exact h1 p h
      · exact h2 p (List.mem_of_mem_take h)
    have hok := (stOk_iff.1 hS).2.1 _ hoS
    have hput : ∃ y, put x list[k] = (y, true) ∧ ∀ p, p ∈ y ↔ p ∈ x ∨ p = list[k] := by
      cases hh : hasK x (oid list[k]) with
      | true =>
        obtain ⟨hf, hfe⟩ := hasK_some hh
        have hin : x[findK x (oid list[k])] = list[k] := oid_inj hS (hxS _ (List.getElem_mem hf)) hoS hfe
        refine ⟨x, by rw [put_same hh hf, hin]; simp, fun p => ⟨.inl, ?_⟩⟩
        rintro (h | rfl)
        · exact h
        · rw [← hin]; exact List.getElem_mem hf
      | false =>
        have hnot : oid list[k] ∉ x.map oid := by
          rw [List.mem_map]
          rintro ⟨p, hp, e⟩
          obtain ⟨j, hj, rfl⟩ := List.mem_iff_getElem.1 hp
          have hfk : findK x (oid x[j]) = j := findK_eq (by omega) (fun i hi hij => stOk_lt e2 hij hj) (fun _ => Int.le_refl _)
          rw [← e, hasK_lt (by rw [hfk]; exact hj)] at hh
          simp [hfk] at hh
        have hnd : (x.map oid).Nodup := by
          rw [List.Nodup, List.pairwise_map]
          exact (stOk_iff.1 e2).2.2.imp fun h e => by omega
        have hlen := nodup_len (l := oid list[k] :: x.map oid) (m := S.map oid) (List.nodup_cons.2 ⟨hnot, hnd⟩) fun y hy => by
          rcases List.mem_cons.1 hy with rfl | hy
          · exact List.mem_map.2 ⟨_, hoS, rfl⟩
          · obtain ⟨p, hp, rfl⟩ := List.mem_map.1 hy
            exact List.mem_map.2 ⟨p, hxS p hp, rfl⟩
        have hS16 := (stOk_iff.1 hS).1
        simp only [List.length_cons, List.length_map] at hlen
        refine ⟨_, put_new hh (by omega), fun p => ?_⟩
        rw [List.mem_append, List.mem_cons]
        constructor
        · rintro (h | h | h)
          · exact .inl (List.mem_of_mem_take h)
          · exact .inr h
          · exact .inl (List.mem_of_mem_drop h)
        · rintro (h | h)
          · have : p ∈ x.take (findK x (oid list[k])) ++ x.drop (findK x (oid list[k])) := by rw [List.take_append_drop]; exact h
            rcases List.mem_append.1 this with h | h
            · exact .inl h
            · exact .inr (.inr h)
          · exact .inr (.inl h)
    obtain ⟨y, hy, hm⟩ := hput
    refine ⟨y, by rw [putTo_succ hk' e1, hy]; rfl, ?_, fun p => ?_⟩
    · have := (put_ok e2 hok).1
      rw [hy] at this
      exact this
    · rw [hm, e3, List.take_add_one, List.getElem?_eq_getElem hk', List.mem_append]
      simp [or_assoc]

theorem putAll_sub {S os list : List Ob} (hS : stOk S = true) (hos : stOk os = true) (h1 : ∀ o ∈ os, o ∈ S) (h2 : ∀ o ∈ list, o ∈ S) :
    ∃ x, putAll os list = some x ∧ stOk x = true ∧ ∀ p, p ∈ x ↔ p ∈ os ∨ p ∈ list := by
  obtain ⟨x, e1, e2, e3⟩ := putTo_sub hS hos h1 h2 list.length (Nat.le_refl _)
  rw [List.take_length] at e3
  exact ⟨x, e1, e2, e3⟩

theorem Rc.mono {os x : List Ob} {fr : List Int} (h : ∀ p ∈ x, p ∈ os) {n : Int} (hn : Rc x fr n) : Rc os fr n := by
  induction hn with
  | base h => exact .base h
  | step _ h2 h3 h4 ih => exact .step ih (h _ h2) h3 h4

/-- A fetched pack completes what is there. -/
theorem whole_law {os : List Ob} {ws : List Int} (ho : stOk os = true) (hw : ∀ x ∈ ws, 0 ≤ x ∧ x ≤ 990) (hm : rcM os ws = []) :
    ∃ x, putAll [] (obsOf os (need os ws [])) = some x ∧ stOk x = true ∧ rcM x ws = [] ∧ rcS x ws = rcS os ws := by
  obtain ⟨x, h1, h2, h3⟩ := putAll_sub (S := os) (os := []) (list := obsOf os (need os ws [])) ho (by rfl) (fun o h => by cases h) (fun o h => ((obsOf_mem ho).1 h).1)
  have hx : ∀ p, p ∈ x ↔ p ∈ os ∧ Rc os ws (oid p) := fun p => by
    rw [h3, obsOf_mem ho, mem_need ho]
    constructor
    · rintro (h | ⟨h, h4, _⟩)
      · cases h
      · exact ⟨h, h4⟩
    · rintro ⟨h, h4⟩
      exact .inr ⟨h, h4, hasId_iff.2 ⟨p, h, rfl⟩, fun h5 => h5.nil⟩
  have hto : ∀ n, Rc os ws n → Rc x ws n := fun n hn => by
    induction hn with
    | base h => exact .base h
    | @step m n o h1 h2' h3' h4 ih => exact .step ih ((hx o).2 ⟨h2', by rw [h3']; exact h1⟩) h3' h4
  have hfrom : ∀ n, Rc x ws n → Rc os ws n := fun n hn => hn.mono fun p hp => ((hx p).1 hp).1
  have hhas : ∀ n, Rc os ws n → hasId x n = true := fun n hn => by
    obtain ⟨o, h5, rfl⟩ := hasId_iff.1 ((rcM_nil ho hw).1 hm n hn)
    exact hasId_iff.2 ⟨o, (hx o).2 ⟨h5, hn⟩, rfl⟩
  refine ⟨x, h1, h2, (rcM_nil h2 hw).2 fun n hn => hhas n (hfrom n hn), pw_ext (rcS_pw _ _) (rcS_pw _ _) fun n => ?_⟩
  rw [mem_rcS h2, mem_rcS ho]
  constructor
  · rintro ⟨h5, _⟩
    exact ⟨hfrom n h5, (rcM_nil ho hw).1 hm n (hfrom n h5)⟩
  · rintro ⟨h5, _⟩
    exact ⟨hto n h5, hhas n h5⟩

/-- What was there is completed. -/
theorem more_law {os : List Ob} {ws hs : List Int} (ho : stOk os = true) (hw : ∀ x ∈ ws, 0 ≤ x ∧ x ≤ 990) (hh : ∀ x ∈ hs, 0 ≤ x ∧ x ≤ 990) (hm : rcM os ws = []) (hm2 : rcM os hs = []) :
    ∃ y x, putAll [] (obsOf os (need os hs [])) = some y ∧ stOk y = true ∧ putAll y (obsOf os (need os ws hs)) = some x ∧ stOk x = true ∧ rcM x ws = [] := by
  obtain ⟨y, h1, h2, h3⟩ := putAll_sub (S := os) (os := []) (list := obsOf os (need os hs [])) ho (by rfl) (fun o h => by cases h) (fun o h => ((obsOf_mem ho).1 h).1)
  have hyo : ∀ p ∈ y, p ∈ os := fun p hp => by
    rcases (h3 p).1 hp with h | h
    · cases h
    · exact ((obsOf_mem ho).1 h).1
  obtain ⟨x, g1, g2, g3⟩ := putAll_sub (S := os) (os := y) (list := obsOf os (need os ws hs)) ho h2 hyo (fun o h => ((obsOf_mem ho).1 h).1)
  have hxo : ∀ p ∈ x, p ∈ os := fun p hp => by
    rcases (g3 p).1 hp with h | h
    · exact hyo p h
    · exact ((obsOf_mem ho).1 h).1
  refine ⟨y, x, h1, h2, g1, g2, (rcM_nil g2 hw).2 fun n hn => ?_⟩
  have hn' := hn.mono hxo
  obtain ⟨o, h5, rfl⟩ := hasId_iff.1 ((rcM_nil ho hw).1 hm n hn')
  refine hasId_iff.2 ⟨o, (g3 o).2 ?_, rfl⟩
  by_cases hr : Rc os hs (oid o)
  · exact .inl ((h3 o).2 (.inr ((obsOf_mem ho).2 ⟨h5, (mem_need ho).2 ⟨hr, hasId_iff.2 ⟨o, h5, rfl⟩, fun h => h.nil⟩⟩)))
  · exact .inr ((obsOf_mem ho).2 ⟨h5, (mem_need ho).2 ⟨hn', hasId_iff.2 ⟨o, h5, rfl⟩, hr⟩⟩)

end Go.Proofs.YtjgbconlpolddaaGreat
