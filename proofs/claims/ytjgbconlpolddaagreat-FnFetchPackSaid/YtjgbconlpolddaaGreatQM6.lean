/- The reference's l1Get. -/
import Derived.Test.YtjgbconlpolddaaGreatQFeModel
import Derived.Test.YtjgbconlpolddaaGreatQM3
import Derived.Test.YtjgbconlpolddaaGreatQPkDraw1
import Derived.Test.YtjgbconlpolddaaGreatQShelf
import Derived.Test.YtjgbconlpolddaaGreatQM4
import Derived.Test.YtjgbconlpolddaaGreatQStValS
import Derived.Test.YtjgbconlpolddaaGreatQM5
import Derived.Test.YtjgbconlpolddaaGreatQPkObjI
import Derived.Laws.BitsAllLaws
import Derived.Shelf.Spec.SlicesInsert
import Derived.Lib.AppendZerosOnto
import Derived.Laws.NewBlocks
import Derived.Deep.RegionLaw
import Derived.Deep.Upon
import Derived.ArgAppend
import Derived.Test.YtjgbconlpolddaaGreatQM2
import Derived.Test.YtjgbconlpolddaaGreatQFeHeapP
set_option linter.unusedVariables false
set_option linter.unusedSimpArgs false
namespace Go.Proofs.YtjgbconlpolddaaGreat
open Go.RowKit
set_option linter.unusedVariables false

/-- The place of an id, or -1. -/
def Ix (os : List Ob) (n z : Int) : Prop := (∃ (k : Nat) (h : k < os.length), z = (k : Int) ∧ oid os[k] = n) ∨ (z = -1 ∧ hasId os n = false)

theorem hasId_end {os : List Ob} {n : Int} (h : ∀ j (hj : j < os.length), oid os[j] ≠ n) : hasId os n = false := by
  rw [← Bool.not_eq_true, hasId_iff]
  rintro ⟨o, ho, e⟩
  obtain ⟨j, hj, rfl⟩ := List.mem_iff_getElem.1 ho
  exact h j hj e

set_option maxRecDepth 20000 in
set_option maxHeartbeats 2000000 in
theorem l1Get_any (K : Nat → Bool → Prop) (v : Value) (os : List Ob) (n : Int) (w : World) (hv : ObsR K w v os) (hok : stOk os = true) :
    Calls Tryz.prog 22 #[v, .int .i64 n] w fun e w' => ∃ z, e = .returned (.int .i64 z) ∧ Ix os n z ∧ Fr w.heap.size [] w w' := by
  obtain ⟨a, cap, rfl, hc, hcell⟩ := hv.shape
  have HC := hid hcell
  have OK := hid hok
  have hl : os.length ≤ 16 := (stOk_iff.1 hok).1
  clear hv hcell hok
  go_enter Tryz.func22, Tryz.ntmps22
  go_wp2
  go_loopw [5] (fun i wr => ∃ k : Nat, k ≤ os.length ∧ i = .int .i64 k ∧ (∀ j (hj : j < os.length), j < k → oid os[j] ≠ n) ∧ Fr w.heap.size [] w wr) (fun i _ => os.length - (intOf i).toNat)
  case atStart => exact ⟨0, Nat.zero_le _, rfl, fun j _ h => absurd h (Nat.not_lt_zero _), Fr.refl _ _ _⟩
  case round =>
    obtain ⟨k, hk, rfl, hno, hfr⟩ := hrel
    have NO := hid hno
    clear hno
    by_cases hlt : k < os.length
    · rcases HC.out with h | ⟨b, off, rfl, hbs, hcell⟩
      · rw [h] at hlt; simp at hlt
      obtain ⟨u, x0, x1, x2, hu⟩ := hcell k hlt
      obtain ⟨ua, ucap, rfl, _, _⟩ := hu.shape
      have c0 := hfr.cell hbs x0
      have c1 := hfr.cell hbs x1
      have c2 := hfr.cell hbs x2
      have HU := hid (hu.grow hfr)
      have hki : (k : Int) < (os.length : Int) := by omega
      have hobk := stOk_at OK.out hlt
      clear x0 x1 x2 hu hcell
      by_cases he : oid os[k] = n
      · go_wp2_with (go_at_call 55; go_must (refine (l1Of_any K _ os[k] _ HU.out hobk).mono ?_; rintro e w1 ⟨rfl, fr1⟩; rw [he]))
        go_ret
        exact ⟨_, rfl, .inl ⟨k, hlt, rfl, he⟩, hfr.trans fr1.nil⟩
      · go_wp2_with (go_at_call 55; go_must (refine (l1Of_any K _ os[k] _ HU.out hobk).mono ?_; rintro e w1 ⟨rfl, fr1⟩))
        go_roundw
        case rel =>
          refine ⟨k + 1, by omega, by go_num, fun j hj hjk => ?_, hfr.trans fr1.nil⟩
          by_cases e : j = k
          · subst e; exact he
          · exact NO.out j hj (by omega)
        case measure => simp [intOf]; omega
    · obtain rfl : k = os.length := by omega
      go_wp2
      go_ret
      exact ⟨_, rfl, .inr ⟨rfl, hasId_end fun j hj => NO.out j hj hj⟩, hfr⟩

end Go.Proofs.YtjgbconlpolddaaGreat

/- What the reference's l1Reach goes through: plain facts. -/
namespace Go.Proofs.YtjgbconlpolddaaGreat
open Go.RowKit
set_option linter.unusedVariables false

theorem mem_sortedTo {l : List Int} {k : Nat} {n : Int} : n ∈ sortedTo l k ↔ n ∈ l ∧ 0 ≤ n ∧ n < (k : Int) := by
  induction k with
  | zero =>
    constructor
    · intro h; cases h
    · rintro ⟨_, h1, h2⟩; exact absurd h2 (by simpa using h1)
  | succ k ih =>
    unfold sortedTo
    split
    · rename_i hc
      have hc' : (k : Int) ∈ l := by simpa using hc
      rw [List.mem_append, ih]
      simp only [List.mem_singleton]
      constructor
      · rintro (⟨h1, h2, h3⟩ | rfl)
        · exact ⟨h1, h2, by omega⟩
        · exact ⟨hc', by omega, by omega⟩
      · rintro ⟨h1, h2, h3⟩
        by_cases e : n = (k : Int)
        · exact .inr e
        · exact .inl ⟨h1, h2, by omega⟩
    · rename_i hc
      have hc' : (k : Int) ∉ l := by simpa using hc
      rw [ih]
      constructor
      · rintro ⟨h1, h2, h3⟩; exact ⟨h1, h2, by omega⟩
      · rintro ⟨h1, h2, h3⟩
        refine ⟨h1, h2, ?_⟩
        by_cases e : n = (k : Int)
        · subst e; exact absurd h1 hc'
        · omega

theorem sortedTo_pw (l : List Int) (k : Nat) : (sortedTo l k).Pairwise (· < ·) := by
  induction k with
  | zero => exact List.Pairwise.nil
  | succ k ih =>
    unfold sortedTo
    split
    · rw [List.pairwise_append]
      refine ⟨ih, List.pairwise_singleton _ _, fun a ha b hb => ?_⟩
      simp only [List.mem_singleton] at hb
      have := mem_sortedTo.1 ha
      omega
    · exact ih

/-- Between two rounds: the first k members have been gone through. -/
structure RI (os : List Ob) (fr l : List Int) (k : Nat) : Prop where
  nd : l.Nodup
  bd : ∀ x ∈ l, 0 ≤ x ∧ x ≤ 990
  rc : ∀ x ∈ l, Rc os fr x
  fr : ∀ x ∈ fr, x ∈ l
  cl : ∀ j (hj : j < l.length), j < k → ∀ o ∈ os, oid o = l[j] → ∀ y ∈ o.links, y ∈ l

theorem bd_len {l : List Int} (h : l.Nodup) (hb : ∀ x ∈ l, 0 ≤ x ∧ x ≤ 990) : l.length ≤ 991 := by
  have := nodup_len (m := (List.range 991).map Int.ofNat) h fun x hx => by
    have := hb x hx
    exact List.mem_map.2 ⟨x.toNat, List.mem_range.2 (by omega), by simp; omega⟩
  simpa using this

theorem RI.len {os : List Ob} {fr l : List Int} {k : Nat} (h : RI os fr l k) : l.length ≤ 991 := bd_len h.nd h.bd

theorem RI.start {os : List Ob} {fr : List Int} (h : asc fr = true) : RI os fr fr 0 :=
  ⟨pw_nodup (asc_pw h), asc_in h, fun x hx => .base hx, fun x hx => hx, fun j _ h => absurd h (Nat.not_lt_zero _)⟩

/-- In a round: the first j links of its object have been gone through. -/
structure RJ (os : List Ob) (fr l : List Int) (k : Nat) (o : Ob) (j : Nat) : Prop where
  ri : RI os fr l k
  lt : k < l.length
  mem : o ∈ os
  eq : oid o = l[k]
  ln : ∀ i (hi : i < o.links.length), i < j → o.links[i] ∈ l

theorem RI.none {os : List Ob} {fr l : List Int} {k : Nat} (h : RI os fr l k) (hk : k < l.length) (hn : hasId os l[k] = false) : RI os fr l (k + 1) :=
  ⟨h.nd, h.bd, h.rc, h.fr, fun j hj hjk o ho e => by
    by_cases ek : j = k
    · subst ek
      rw [← Bool.not_eq_true, hasId_iff] at hn
      exact absurd ⟨o, ho, e⟩ hn
    · exact h.cl j hj (by omega) o ho e⟩

theorem RI.some {os : List Ob} {fr l : List Int} {k : Nat} (h : RI os fr l k) (hk : k < l.length) {o : Ob} (ho : o ∈ os) (e : oid o = l[k]) : RJ os fr l k o 0 :=
  ⟨h, hk, ho, e, fun i _ hi => absurd hi (Nat.not_lt_zero _)⟩

theorem RJ.skip {os : List Ob} {fr l : List Int} {k j : Nat} {o : Ob} (h : RJ os fr l k o j) (hj : j < o.links.length) (hc : o.links[j] ∈ l) : RJ os fr l k o (j + 1) :=
  ⟨h.ri, h.lt, h.mem, h.eq, fun i hi hij => by
    by_cases e : i = j
    · subst e; exact hc
    · exact h.ln i hi (by omega)⟩

theorem RJ.push {os : List Ob} {fr l : List Int} {k j : Nat} {o : Ob} (hok : stOk os = true) (h : RJ os fr l k o j) (hj : j < o.links.length) (hc : o.links[j] ∉ l) : RJ os fr (l ++ [o.links[j]]) k o (j + 1) := by
  have hlt := h.lt
  have hin : ∀ x ∈ l, x ∈ l ++ [o.links[j]] := fun x hx => List.mem_append_left _ hx
  have hat : ∀ i (hi : i < l.length), (l ++ [o.links[j]])[i]'(by simp; omega) = l[i] := fun i hi => List.getElem_append_left hi
  refine ⟨⟨?_, fun x hx => ?_, fun x hx => ?_, fun x hx => hin x (h.ri.fr x hx), fun i hi hik o' ho' e y hy => ?_⟩, by simp; omega, h.mem, by rw [hat k hlt]; exact h.eq, fun i hi hij => ?_⟩
  · rw [List.nodup_append]
    refine ⟨h.ri.nd, by simp, fun a ha b hb => ?_⟩
    simp at hb; subst hb
    exact fun e => hc (e ▸ ha)
  · rcases List.mem_append.1 hx with hx | hx
    · exact h.ri.bd x hx
    · simp at hx; subst hx
      exact obOk_link ((stOk_iff.1 hok).2.1 _ h.mem) j hj
  · rcases List.mem_append.1 hx with hx | hx
    · exact h.ri.rc x hx
    · simp at hx; subst hx
      exact .step (h.ri.rc _ (List.getElem_mem hlt)) h.mem h.eq (List.getElem_mem hj)
  · have hil : i < l.length := by omega
    rw [hat i hil] at e
    exact hin y (h.ri.cl i hil hik o' ho' e y hy)
  · by_cases e : i = j
    · subst e; simp
    · exact hin _ (h.ln i hi (by omega))

theorem RJ.fin {os : List Ob} {fr l : List Int} {k : Nat} {o : Ob} (hok : stOk os = true) (h : RJ os fr l k o o.links.length) : RI os fr l (k + 1) :=
  ⟨h.ri.nd, h.ri.bd, h.ri.rc, h.ri.fr, fun j hj hjk o' ho' e y hy => by
    by_cases ek : j = k
    · subst ek
      have : o' = o := oid_inj hok ho' h.mem (by rw [e, h.eq])
      subst this
      obtain ⟨i, hi, rfl⟩ := List.mem_iff_getElem.1 hy
      exact h.ln i hi hi
    · exact h.ri.cl j hj (by omega) o' ho' e y hy⟩

theorem RI.fin {os : List Ob} {fr l : List Int} (h : RI os fr l l.length) : sortedTo l 991 = rcL os fr := by
  refine pw_ext (sortedTo_pw _ _) (rcL_pw _ _) fun n => ?_
  rw [mem_sortedTo, mem_rcL]
  constructor
  · rintro ⟨h1, h2, h3⟩
    exact ⟨⟨h2, by omega⟩, h.rc n h1⟩
  · rintro ⟨⟨h1, h2⟩, h3⟩
    refine ⟨h3.closed h.fr fun x hx o ho e y hy => ?_, h1, by omega⟩
    obtain ⟨j, hj, rfl⟩ := List.mem_iff_getElem.1 hx
    exact h.cl j hj hj o ho e y hy

end Go.Proofs.YtjgbconlpolddaaGreat

/- The reference's l1Reach. -/
namespace Go.Proofs.YtjgbconlpolddaaGreat
open Go.RowKit
set_option linter.unusedVariables false

theorem ownInts_push {w : World} {lo : Nat} {v : Value} {l : List Int} {n : Int} (h : w.ownsRow lo 3 1 v (l.length + 1) (l.map (Value.int .i64) ++ [.int .i64 n])) : w.ownsRow lo 3 1 v (l ++ [n]).length ((l ++ [n]).map (Value.int .i64)) := by
  rw [List.map_append, List.length_append]
  exact h

set_option maxRecDepth 20000 in
set_option maxHeartbeats 4000000 in
theorem l1Reach_any (K K' : Nat → Bool → Prop) (v vf : Value) (os : List Ob) (fr : List Int) (w : World) (hv : ObsR K w v os) (hf : IntsR K' w vf fr) (hok : stOk os = true) (hfr : asc fr = true) :
    Calls Tryz.prog 53 #[v, vf] w fun e w' => ∃ v', e = .returned v' ∧ w'.ownsRow w.heap.size 3 1 v' (rcL os fr).length ((rcL os fr).map (Value.int .i64)) ∧ Fr w.heap.size [] w w' := by
  obtain ⟨a, cap, rfl, hcap, hcell⟩ := hv.shape
  obtain ⟨fa, fcap, rfl, _, _⟩ := hf.shape
  obtain ⟨i0, hi, hz0, hz1, hz2⟩ := info_parts infoI
  have HV := hid hv
  have HF := hid hf
  have HC := hid hcell
  have OK := hid hok
  have RS := hid (RI.start (os := os) hfr)
  have hl16 : os.length ≤ 16 := (stOk_iff.1 hok).1
  have hfl := RS.out.len
  clear hv hf hok hfr hcell
  go_enter Tryz.func53, Tryz.ntmps53
  go_wp2_with (at_builtin; go_must (refine wpList_clone rfl (.tmp 9) (.tmp 10) 24 rfl 3 i0 (.int .i64 0) 1 8 Tryz.underlying24 hi hz0 hz1 hz2 rfl (by decide) _ (by rfl) (by simp) K' 3 _ _ _ (by rfl) HF.out (oneI _) (by unfold maxLen; omega) (by omega) ?_; intro v1 w1 own1 fr1; have F1 := hid fr1; have O1 := hid own1; clear own1 fr1))
  go_loopw [5, 6] (fun vo vi wx => ∃ (l : List Int) (k : Nat), k ≤ l.length ∧ vi = .int .i64 k ∧ RI os fr l k ∧ wx.ownsRow w.heap.size 3 1 vo l.length (l.map (Value.int .i64)) ∧ Fr w.heap.size [] w wx) (fun _ vi _ => 991 - (intOf vi).toNat)
  case atStart => exact ⟨fr, 0, Nat.zero_le _, rfl, RS.out, O1.out, F1.out⟩
  case round =>
    obtain ⟨l, k, hk, rfl, hri, hown, hfr⟩ := hrel
    have RIH := hid hri
    have OWN := hid hown
    have FR := hid hfr
    obtain ⟨oa, ocap, rfl⟩ := own_any hown
    have hlen := hri.len
    have hls := hfr.size
    clear hri hfr
    by_cases hlt : k < l.length
    · obtain ⟨g, gcap, he, hg, _⟩ := own_shape OWN.out (by omega)
      cases he
      have ck : wr.cell? ⟨g, k, none⟩ = some (.int .i64 l[k]) := by
        have := OWN.out.cellAt k (by omega)
        rw [List.getElem?_map, List.getElem?_eq_getElem hlt] at this
        exact this
      clear hown
      have hki : (k : Int) < (l.length : Int) := by omega
      obtain ⟨nk, hnk⟩ : ∃ nk, nk = l[k] := ⟨_, rfl⟩
      rw [← hnk] at ck
      have NK := hid hnk
      clear hnk
      go_wp2_with (go_at_call 22; go_must (refine (l1Get_any K _ os nk _ (HV.out.grow FR.out) OK.out).mono ?_; rintro e w2 ⟨z, rfl, hix, fr2⟩; have IX := hid hix; have F2 := hid (FR.out.trans fr2.nil); have O2 := hid (ownsRow_grow OWN.out fr2); clear hix fr2))
      clear ck
      rcases IX.out with ⟨m, hm, rfl, hoid⟩ | ⟨rfl, hno⟩
      · have hm0 : (0 : Int) ≤ (m : Int) := by omega
        have hmi : (m : Int) < (os.length : Int) := by omega
        rcases HC.out with h | ⟨b, off, rfl, hbs, hcell⟩
        · rw [h] at hm; simp at hm
        obtain ⟨u, x0, x1, x2, hu⟩ := hcell m hm
        obtain ⟨ua, ucap, rfl, _, hul⟩ := hu.shape
        have hlk := (obOk_len (stOk_at OK.out hm)).1
        have RJ0 := hid (RIH.out.some hlt (List.getElem_mem hm) (by rw [hoid, NK.out]))
        have X1 := hid x1
        have UL := hid hul
        clear x0 x1 x2 hu hcell hul IX RIH
        obtain ⟨W2, rfl⟩ : ∃ W : World, W = w2 := ⟨_, rfl⟩
        obtain ⟨ok, hok⟩ : ∃ o, o = os[m] := ⟨_, rfl⟩
        rw [← hok] at RJ0 X1 UL hlk
        clear hoid NK hok
        go_loopw [5, 8] (fun vo vj wx => ∃ (l' : List Int) (j : Nat), j ≤ ok.links.length ∧ vj = .int .i64 j ∧ RJ os fr l' k ok j ∧ wx.ownsRow w.heap.size 3 1 vo l'.length (l'.map (Value.int .i64)) ∧ Fr w.heap.size [] w wx) (fun _ vj _ => ok.links.length - (intOf vj).toNat)
        case atStart => exact ⟨l, 0, Nat.zero_le _, rfl, RJ0.out, O2.out, F2.out⟩
        case round =>
          obtain ⟨l', j, hj, rfl, hrj, hown, hfr⟩ := hrel
          have RJH := hid hrj
          have OW := hid hown
          have FR3 := hid hfr
          obtain ⟨na, ncap, rfl⟩ := own_any hown
          have hlen' := hrj.ri.len
          have c1 := hfr.cell hbs X1.out
          have hls3 := hfr.size
          clear hrj hown hfr
          by_cases hjl : j < ok.links.length
          · rcases UL.out with h | ⟨lb, lo, rfl, hlbs, hlc⟩
            · rw [h] at hjl; simp at hjl
            have cl := FR3.out.cell hlbs (hlc j hjl)
            clear hlc
            have hji : (j : Int) < (ok.links.length : Int) := by omega
            obtain ⟨x, hx⟩ : ∃ x, x = ok.links[j] := ⟨_, rfl⟩
            rw [← hx] at cl
            by_cases hc : l'.contains x = true
            · have HX := hid hc
              have NX := hid (RJH.out.skip hjl (by rw [← hx]; simpa using hc))
              clear hc hx
              go_wp2_with (go_at_call 54; go_must (refine (l1Has_any (new w.heap.size) _ l' _ _ (SlR.ofOwns OW.out) (by omega)).mono ?_; rintro e w4 ⟨rfl, rfl⟩; rw [HX.out]))
              go_roundw
              case rel => exact ⟨l', j + 1, by omega, by go_num, NX.out, OW.out, FR3.out⟩
              case measure => simp [intOf]; omega
            · have hc2 : l'.contains x = false := by simpa using hc
              have HX := hid hc2
              have NX := hid (RJH.out.push OK.out hjl (by rw [← hx]; simpa using hc))
              rw [← hx] at NX
              clear hc hc2 hx
              go_wp2_with (first
                | (go_at_call 54; go_must (refine (l1Has_any (new w.heap.size) _ l' _ _ (SlR.ofOwns OW.out) (by omega)).mono ?_; rintro e w4 ⟨rfl, rfl⟩; rw [HX.out]))
                | (at_builtin; go_must (refine wpList_push rfl (.tmp 49) (.tmp 58) 24 rfl w.heap.size 3 i0 (.int .i64 0) 1 8 Tryz.underlying24 hi hz0 hz1 hz2 rfl (by decide) _ _ _ OW.out rfl (oneInt _) (by unfold maxLen; omega) (by omega) (by omega) (by rfl) _ (by rfl) (by simp [World.setCell]) ?_; intro v4 w4 own4 fr4 _; have O4 := hid (ownInts_push own4); have F4 := hid (FR3.out.after fr4); clear own4 fr4)))
              go_roundw
              case rel => exact ⟨l' ++ [x], j + 1, by omega, by go_num, NX.out, O4.out, F4.out⟩
              case measure => simp [intOf]; omega
          · obtain rfl : j = ok.links.length := by omega
            have NX := hid (RJH.out.fin OK.out)
            have hk1 := RJH.out.lt
            go_wp2
            go_roundw
            case rel => exact ⟨l', k + 1, hk1, by go_num, NX.out, OW.out, FR3.out⟩
            case measure => simp [intOf]; omega
      · have NO := hid (RIH.out.none hlt (by rw [← NK.out]; exact hno))
        clear hno IX
        refine wp_loop_rounds 1 ?_
        rw [rounds_succ]
        go_wp2
        go_roundw
        case rel => exact ⟨l, k + 1, hlt, by go_num, NO.out, O2.out, F2.out⟩
        case measure => simp [intOf]; omega
    · obtain rfl : k = l.length := by omega
      go_wp2_with (go_at_call 69; go_must (refine (l1Sorted_any (new w.heap.size) _ l _ (SlR.ofOwns OWN.out) (by omega)).mono ?_; rintro e w2 ⟨v2, rfl, own2, fr2⟩; rw [RIH.out.fin] at own2; have O2 := hid (ownsRow_lo own2 hls); have F2 := hid (FR.out.trans fr2.nil); clear own2 fr2))
      go_ret
      exact ⟨_, rfl, O2.out, F2.out⟩

end Go.Proofs.YtjgbconlpolddaaGreat

/- What the program's reach goes through: plain facts. -/
namespace Go.Proofs.YtjgbconlpolddaaGreat
open Go.RowKit
set_option linter.unusedVariables false

structure RQ (os : List Ob) (fr q st ms : List Int) : Prop where
  nd1 : st.Nodup
  nd2 : ms.Nodup
  h1 : ∀ x ∈ st, hasId os x = true
  h2 : ∀ x ∈ ms, hasId os x = false
  rq : ∀ x ∈ q, Rc os fr x
  r1 : ∀ x ∈ st, Rc os fr x
  r2 : ∀ x ∈ ms, Rc os fr x
  fm : ∀ x ∈ fr, x ∈ st ∨ x ∈ ms ∨ x ∈ q
  cl : ∀ x ∈ st, ∀ o ∈ os, oid o = x → ∀ y ∈ o.links, y ∈ st ∨ y ∈ ms ∨ y ∈ q
  sz : q.length ≤ fr.length + 4 * st.length

theorem RQ.start (os : List Ob) (fr : List Int) : RQ os fr fr [] [] :=
  ⟨List.nodup_nil, List.nodup_nil, fun x h => (by cases h), fun x h => (by cases h), fun x h => .base h, fun x h => (by cases h), fun x h => (by cases h), fun x h => .inr (.inr h), fun x h => (by cases h), Nat.le_refl _⟩

theorem RQ.len1 {os : List Ob} {fr q st ms : List Int} (h : RQ os fr q st ms) : st.length ≤ os.length := by
  have := nodup_len (m := os.map oid) h.nd1 fun x hx => by
    obtain ⟨o, h1, h2⟩ := hasId_iff.1 (h.h1 x hx)
    exact List.mem_map.2 ⟨o, h1, h2⟩
  simpa using this

theorem RQ.len2 {os : List Ob} {fr q st ms : List Int} (h : RQ os fr q st ms) (ho : stOk os = true) (hf : ∀ x ∈ fr, 0 ≤ x ∧ x ≤ 990) : ms.length ≤ 991 := bd_len h.nd2 fun x hx => (h.r2 x hx).inside ho hf

theorem RQ.skip {os : List Ob} {fr q st ms : List Int} {x : Int} (h : RQ os fr (x :: q) st ms) (hx : x ∈ st ∨ x ∈ ms) : RQ os fr q st ms := by
  have go : ∀ y, y ∈ st ∨ y ∈ ms ∨ y ∈ x :: q → y ∈ st ∨ y ∈ ms ∨ y ∈ q := fun y hy => by
    rcases hy with hy | hy | hy
    · exact .inl hy
    · exact .inr (.inl hy)
    · rcases List.mem_cons.1 hy with rfl | hy
      · rcases hx with hx | hx
        · exact .inl hx
        · exact .inr (.inl hx)
      · exact .inr (.inr hy)
  have hs := h.sz
  simp only [List.length_cons] at hs
  exact ⟨h.nd1, h.nd2, h.h1, h.h2, fun y hy => h.rq y (List.mem_cons_of_mem _ hy), h.r1, h.r2, fun y hy => go y (h.fm y hy), fun y hy o ho e z hz => go z (h.cl y hy o ho e z hz), by omega⟩

theorem RQ.miss {os : List Ob} {fr q st ms : List Int} {x : Int} (h : RQ os fr (x :: q) st ms) (h1 : x ∉ st) (h2 : x ∉ ms) (hn : hasId os x = false) : RQ os fr q st (ms ++ [x]) := by
  have go : ∀ y, y ∈ st ∨ y ∈ ms ∨ y ∈ x :: q → y ∈ st ∨ y ∈ ms ++ [x] ∨ y ∈ q := fun y hy => by
    rcases hy with hy | hy | hy
    · exact .inl hy
    · exact .inr (.inl (List.mem_append_left _ hy))
    · rcases List.mem_cons.1 hy with rfl | hy
      · exact .inr (.inl (by simp))
      · exact .inr (.inr hy)
  have hs := h.sz
  simp only [List.length_cons] at hs
  refine ⟨h.nd1, ?_, h.h1, fun y hy => ?_, fun y hy => h.rq y (List.mem_cons_of_mem _ hy), h.r1, fun y hy => ?_, fun y hy => go y (h.fm y hy), fun y hy o ho e z hz => go z (h.cl y hy o ho e z hz), by omega⟩
  · rw [List.nodup_append]
    exact ⟨h.nd2, by simp, fun a ha b hb => by simp at hb; subst hb; exact fun e => h2 (e ▸ ha)⟩
  · rcases List.mem_append.1 hy with hy | hy
    · exact h.h2 y hy
    · simp at hy; subst hy; exact hn
  · rcases List.mem_append.1 hy with hy | hy
    · exact h.r2 y hy
    · simp at hy; subst hy; exact h.rq _ (List.mem_cons_self ..)

theorem RQ.hit {os : List Ob} {fr q st ms : List Int} {x : Int} {o : Ob} (hok : stOk os = true) (h : RQ os fr (x :: q) st ms) (h1 : x ∉ st) (h2 : x ∉ ms) (hn : obId os x = some o) : RQ os fr (q ++ o.links) (st ++ [x]) ms := by
  obtain ⟨ho, hoid⟩ := obId_some hn
  have go : ∀ y, y ∈ st ∨ y ∈ ms ∨ y ∈ x :: q → y ∈ st ++ [x] ∨ y ∈ ms ∨ y ∈ q ++ o.links := fun y hy => by
    rcases hy with hy | hy | hy
    · exact .inl (List.mem_append_left _ hy)
    · exact .inr (.inl hy)
    · rcases List.mem_cons.1 hy with rfl | hy
      · exact .inl (by simp)
      · exact .inr (.inr (List.mem_append_left _ hy))
  have hs := h.sz
  have hl := (obOk_len ((stOk_iff.1 hok).2.1 _ ho)).1
  simp only [List.length_cons] at hs
  refine ⟨?_, h.nd2, fun y hy => ?_, h.h2, fun y hy => ?_, fun y hy => ?_, h.r2, fun y hy => go y (h.fm y hy), fun y hy o' ho' e z hz => ?_, by simp; omega⟩
  · rw [List.nodup_append]
    exact ⟨h.nd1, by simp, fun a ha b hb => by simp at hb; subst hb; exact fun e => h1 (e ▸ ha)⟩
  · rcases List.mem_append.1 hy with hy | hy
    · exact h.h1 y hy
    · simp at hy; subst hy; exact hasId_iff.2 ⟨o, ho, hoid⟩
  · rcases List.mem_append.1 hy with hy | hy
    · exact h.rq y (List.mem_cons_of_mem _ hy)
    · exact .step (h.rq _ (List.mem_cons_self ..)) ho hoid hy
  · rcases List.mem_append.1 hy with hy | hy
    · exact h.r1 y hy
    · simp at hy; subst hy; exact h.rq _ (List.mem_cons_self ..)
  · rcases List.mem_append.1 hy with hy | hy
    · exact go z (h.cl y hy o' ho' e z hz)
    · simp at hy; subst hy
      have : o' = o := oid_inj hok ho' ho (by rw [e, hoid])
      subst this
      exact .inr (.inr (List.mem_append_right _ hz))

/-- Sorted as the library sorts. -/
def msort (l : List Int) : List Int := l.mergeSort fun x y => decide (x ≤ y)

theorem msort_mem {l : List Int} {n : Int} : n ∈ msort l ↔ n ∈ l := List.mem_mergeSort

theorem msort_pw {l : List Int} (h : l.Nodup) : (msort l).Pairwise (· < ·) := by
  have h1 : (msort l).Pairwise (fun x y => decide (x ≤ y) = true) := List.pairwise_mergeSort (fun a b c h1 h2 => by simp at *; omega) (fun a b => by simp; omega) l
  have h2 : (msort l).Nodup := ((List.mergeSort_perm l _).nodup_iff).2 h
  have h3 := List.Pairwise.and h1 h2
  exact h3.imp fun ⟨a, b⟩ => by simp at a; omega

theorem RQ.closed {os : List Ob} {fr st ms : List Int} (h : RQ os fr [] st ms) {n : Int} (hn : Rc os fr n) : n ∈ st ∨ n ∈ ms := by
  have := hn.closed (l := st ++ ms) (fun x hx => by
    rcases h.fm x hx with h | h | h
    · exact List.mem_append_left _ h
    · exact List.mem_append_right _ h
    · cases h) (fun x hx o ho e y hy => by
    rcases List.mem_append.1 hx with hx | hx
    · rcases h.cl x hx o ho e y hy with h | h | h
      · exact List.mem_append_left _ h
      · exact List.mem_append_right _ h
      · cases h
    · have := h.h2 x hx
      rw [hasId_iff.2 ⟨o, ho, e⟩] at this; cases this)
  exact List.mem_append.1 this

theorem RQ.fin {os : List Ob} {fr st ms : List Int} (hok : stOk os = true) (hf : ∀ x ∈ fr, 0 ≤ x ∧ x ≤ 990) (h : RQ os fr [] st ms) : msort st = rcS os fr ∧ msort ms = rcM os fr := by
  refine ⟨pw_ext (msort_pw h.nd1) (rcS_pw _ _) fun n => ?_, pw_ext (msort_pw h.nd2) (rcM_pw _ _) fun n => ?_⟩
  · rw [msort_mem, mem_rcS hok]
    constructor
    · exact fun hn => ⟨h.r1 n hn, h.h1 n hn⟩
    · rintro ⟨h3, h4⟩
      rcases h.closed h3 with h5 | h5
      · exact h5
      · rw [h.h2 n h5] at h4; cases h4
  · rw [msort_mem, mem_rcM hok hf]
    constructor
    · exact fun hn => ⟨h.r2 n hn, h.h2 n hn⟩
    · rintro ⟨h3, h4⟩
      rcases h.closed h3 with h5 | h5
      · rw [h.h1 n h5] at h4; cases h4
      · exact h5

end Go.Proofs.YtjgbconlpolddaaGreat

/- Rows of one's own that lie apart. -/
namespace Go.Proofs.YtjgbconlpolddaaGreat
open Go.RowKit
set_option linter.unusedVariables false

/-- Two values do not lie in the same block. -/
def SepV (u v : Value) : Prop := ∀ k, u.ownBlock = some k → v.ownBlock ≠ some k

theorem SepV.symm {u v : Value} (h : SepV u v) : SepV v u := fun k hk hu => h k hu hk

theorem SepV.none (v : Value) : SepV (.slice none 0 0) v := fun k hk => by simp [Value.ownBlock] at hk

theorem SepV.fresh {w : World} {lo E sz n : Nat} {u v : Value} {cs : List Value} (hu : w.ownsRow lo E sz u n cs) (hv : ∀ k, v.ownBlock = some k → w.heap.size ≤ k) : SepV v u := fun k hk he => by
  have := (hu.lt k he).2
  have := hv k hk
  omega

theorem SepV.keep {w w' : World} {lo E sz n : Nat} {u v : Value} {cs : List Value} (hs : SepV v u) (hu : w.ownsRow lo E sz u n cs) (hg : w.grownBy w' v.ownBlock) : w'.ownsRow lo E sz u n cs := by
  refine hu.kept hg ?_
  cases h : u.ownBlock with
  | none => exact .inl rfl
  | some k => exact .inr fun e => hs k e.symm h

theorem SepV.moved {w : World} {lo E sz n : Nat} {u v v' : Value} {cs : List Value} (hs : SepV v u) (hu : w.ownsRow lo E sz u n cs) (hb : v'.ownBlock = v.ownBlock ∨ ∀ k, v'.ownBlock = some k → w.heap.size ≤ k) : SepV v' u := by
  rcases hb with hb | hb
  · intro k hk; exact hs k (hb ▸ hk)
  · exact SepV.fresh hu hb

/-- A row of ints of one's own. -/
def OwnI (lo : Nat) (w : World) (v : Value) (l : List Int) : Prop := w.ownsRow lo 3 1 v l.length (l.map (Value.int .i64))

theorem OwnI.reads {lo : Nat} {w : World} {v : Value} {l : List Int} (h : OwnI lo w v l) : IntsR (new lo) w v l := SlR.ofOwns h
theorem OwnI.grow {lo B : Nat} {w w' : World} {v : Value} {l : List Int} (h : OwnI lo w v l) (hf : Fr B [] w w') : OwnI lo w' v l := ownsRow_grow h hf
theorem OwnI.lower {lo lo' : Nat} {w : World} {v : Value} {l : List Int} (h : OwnI lo w v l) (hl : lo' ≤ lo) : OwnI lo' w v l := ownsRow_lo h hl
theorem OwnI.any {lo : Nat} {w : World} {v : Value} {l : List Int} (h : OwnI lo w v l) : ∃ a cap, v = .slice a l.length cap := by
  obtain ⟨a, cap, h1, _⟩ := h.reads.shape
  exact ⟨a, cap, h1⟩

/-- Where a cell of it lies. -/
theorem OwnI.at {lo : Nat} {w : World} {v : Value} {l : List Int} (h : OwnI lo w v l) {k : Nat} (hk : k < l.length) : ∃ g cap, v = .slice (some ⟨g, 0, none⟩) l.length cap ∧ lo ≤ g ∧ g < w.heap.size ∧ w.cell? ⟨g, k, none⟩ = some (.int .i64 l[k]) := by
  obtain ⟨g, cap, rfl, hg, _⟩ := own_shape h (by omega)
  refine ⟨g, cap, rfl, hg, (h.lt g rfl).2, ?_⟩
  have := World.ownsRow.cellAt h k (by omega)
  rw [List.getElem?_map, List.getElem?_eq_getElem hk] at this
  exact this

theorem OwnI.pushed {w : World} {lo : Nat} {v : Value} {l : List Int} {n : Int} (h : w.ownsRow lo 3 1 v (l.length + 1) (l.map (Value.int .i64) ++ [.int .i64 n])) : OwnI lo w v (l ++ [n]) := by
  unfold OwnI
  rw [List.map_append, List.length_append]
  exact h

theorem OwnI.lit {w : World} : OwnI w.heap.size (w.alloc (.cells #[] 3)) (.slice (some ⟨w.heap.size, 0, none⟩) 0 0) [] :=
  World.ownsRow_lit (base := w.heap.size) (e := 3) (size := 1) w #[] 0 (Nat.le_refl _) (by decide) rfl

theorem OwnI.nil (lo : Nat) (w : World) : OwnI lo w (.slice none 0 0) [] := World.ownsRow_nil _ _ _ _

end Go.Proofs.YtjgbconlpolddaaGreat

/- The library's sort, at ints in memory of one's own. -/
namespace Go.Proofs.YtjgbconlpolddaaGreat
open Go.RowKit Go.Sort
set_option linter.unusedVariables false

theorem putCells_takeI (d : Array Int) (cur : Array Value) (h : d.size ≤ cur.size) : (putCells (Value.int .i64) 0 d cur).toList.take d.size = d.toList.map (Value.int .i64) := by
  apply List.ext_getElem
  · simp [putCells]; omega
  · intro i h1 h2
    have hi : i < d.size := by simpa using h2
    rw [List.getElem_take]
    simp [putCells, hi, getElem!_pos d i hi]

theorem sortI_any {lo : Nat} {w : World} {v : Value} {l : List Int} (h : OwnI lo w v l) (hb : l.length ≤ 1000000000) :
    Calls Tryz.prog 60 #[v] w fun e w' => e = .returned (.tuple #[]) ∧ OwnI lo w' v (msort l) ∧ w.grownBy w' v.ownBlock ∧ Fr lo [3] w w' := by
  have hml : (msort l).length = l.length := List.length_mergeSort l
  by_cases hn : l = []
  · subst hn
    obtain ⟨a, cap, rfl⟩ := h.any
    refine (Tryz.slices_Sort_int_none a cap w).mono ?_
    rintro e w' ⟨rfl, rfl⟩
    have : msort [] = [] := List.eq_nil_of_length_eq_zero hml
    rw [this]
    exact ⟨rfl, h, ⟨rfl, rfl, rfl, Nat.le_refl _, fun _ _ _ => rfl⟩, Fr.refl _ _ _⟩
  · have hp : 0 < l.length := List.length_pos_iff.2 hn
    obtain ⟨g, cap, rfl, hg, _⟩ := own_shape h hp
    have hlt := (h.lt g rfl).2
    have hH : Holds (Value.int .i64) w g 0 l.toArray := by
      intro j hj
      have hj' : j < l.length := by simpa using hj
      have := World.ownsRow.cellAt h j (by omega)
      rw [List.getElem?_map, List.getElem?_eq_getElem hj'] at this
      rw [Nat.zero_add, this, getElem!_pos l.toArray j hj]
      exact ⟨by simp, World.ownsRow.frozenAt h j⟩
    refine (Tryz.slices_Sort_int g 0 cap l w hH hlt (by omega)).mono ?_
    rintro e w' ⟨rfl, n, os, rfl⟩
    have hx := h.1
    rcases h.2 with ⟨hh, _⟩ | ⟨g', cap', cur, hh, h1, h2, h3, h4, h5, h6⟩
    · cases hh
    · cases hh
      have hheap : ∀ j, j < w.heap.size → (Sort.grow (putRow (Value.int .i64) (Sort.ahead w n) g 0 (msort l).toArray) os).heap[j]? = if g = j then (w.heap[j]?).map (onCells (putCells (Value.int .i64) 0 (msort l).toArray)) else w.heap[j]? := fun j hj => by
        show ((w.heap.modify g _) ++ os)[j]? = _
        rw [Array.getElem?_append_left (by simpa using hj), Array.getElem?_modify]
      have hgr : w.grownBy (Sort.grow (putRow (Value.int .i64) (Sort.ahead w n) g 0 (msort l).toArray) os) (some g) := by
        refine ⟨rfl, rfl, rfl, ?_, fun k hk hne => ?_⟩
        · show w.heap.size ≤ ((w.heap.modify g _) ++ os).size
          simp
        · rw [hheap k hk, if_neg (fun e => hne (by rw [e]))]
      refine ⟨rfl, ⟨by simp, .inr ⟨g, cap, putCells (Value.int .i64) 0 (msort l).toArray cur, by rw [hml], h1, ?_, by omega, h4, by simp [putCells, h5], ?_⟩⟩, hgr, Fr.ofGrown hgr fun k o hk ho => ?_⟩
      · exact (hheap g hlt).trans (by rw [if_pos rfl, h2]; rfl)
      · rw [Nat.mul_one]
        have := putCells_takeI (msort l).toArray cur (by simp; omega)
        simpa using this
      · cases hk
        rw [h2] at ho
        cases ho
        exact ⟨hg, by simp [otag]⟩

end Go.Proofs.YtjgbconlpolddaaGreat

/- The reference's l1From, l1Missing, l32Ok, l32Need. -/
namespace Go.Proofs.YtjgbconlpolddaaGreat
open Go.RowKit
set_option linter.unusedVariables false

theorem filter_take {l : List Int} (p : Int → Bool) {k : Nat} (hk : k < l.length) : (l.take (k + 1)).filter p = if p l[k] = true then (l.take k).filter p ++ [l[k]] else (l.take k).filter p := by
  rw [List.take_add_one, List.getElem?_eq_getElem hk, List.filter_append]
  simp only [Option.toList_some, List.filter_cons, List.filter_nil]
  split <;> simp

theorem filter_take_len (l : List Int) (p : Int → Bool) (k : Nat) : ((l.take k).filter p).length ≤ l.length :=
  Nat.le_trans (List.length_filter_le _ _) (by simp; omega)

theorem Ix.yes {os : List Ob} {n z : Int} (h : Ix os n z) (hh : hasId os n = true) : ∃ m : Nat, z = (m : Int) := by
  rcases h with ⟨k, _, h, _⟩ | ⟨_, h⟩
  · exact ⟨k, h⟩
  · rw [hh] at h; cases h

theorem Ix.no {os : List Ob} {n z : Int} (h : Ix os n z) (hh : hasId os n = false) : z = -1 := by
  rcases h with ⟨k, hk, _, h⟩ | ⟨h, _⟩
  · rw [hasId_iff.2 ⟨os[k], List.getElem_mem hk, h⟩] at hh; cases hh
  · exact h

set_option maxRecDepth 20000 in
set_option maxHeartbeats 2000000 in
theorem l1From_any (K K' : Nat → Bool → Prop) (v vf : Value) (os : List Ob) (fr : List Int) (w : World) (hv : ObsR K w v os) (hf : IntsR K' w vf fr) (hb : ObsB os) (hfl : fr.length ≤ 1000000000) :
    Calls Tryz.prog 51 #[v, vf] w fun e w' => e = .returned (.bool (stOk os && idsB fr)) ∧ Fr w.heap.size [] w w' := by
  obtain ⟨a, cap, rfl, hcap, hcell⟩ := hv.shape
  obtain ⟨fa, fcap, rfl, _, _⟩ := hf.shape
  have HV := hid hv
  have HF := hid hf
  have HB := hid hb
  have hB2 : ∀ o ∈ os, o.links.length ≤ 1000000000 := fun o ho => hb.2 o ho
  have HB2 := hid hB2
  have hol := hb.1
  clear hv hf hcell hb hB2
  unfold idsB
  go_enter Tryz.func51, Tryz.ntmps51
  by_cases h1 : stOk os = true
  · have H1 := hid h1
    clear h1
    by_cases h2 : asc fr = true
    · have H2 := hid h2
      clear h2
      by_cases h3 : fr.length ≤ 4
      · have i3 : (fr.length : Int) ≤ 4 := by omega
        go_wp2_with (first
          | (go_at_call 77; go_must (refine (specStoreValid_any K _ os _ HV.out HB2.out (by omega)).mono ?_; rintro e w1 ⟨rfl, fr1⟩; rw [H1.out]; have F1 := hid fr1; clear fr1))
          | (go_at_call 78; go_must (refine (l1Ids_any K' _ fr _ (HF.out.grow F1.out) hfl).mono ?_; rintro e w2 ⟨rfl, fr2⟩; rw [H2.out]; have F2 := hid (F1.out.trans fr2.nil); clear fr2)))
        go_ret
        exact ⟨ret_bool (by rw [H1.out, H2.out]; simp [h3]), F2.out⟩
      · have i3 : ¬ (fr.length : Int) ≤ 4 := by omega
        have d3 : decide (fr.length ≤ 4) = false := decide_eq_false h3
        go_wp2_with (first
          | (go_at_call 77; go_must (refine (specStoreValid_any K _ os _ HV.out HB2.out (by omega)).mono ?_; rintro e w1 ⟨rfl, fr1⟩; rw [H1.out]; have F1 := hid fr1; clear fr1))
          | (go_at_call 78; go_must (refine (l1Ids_any K' _ fr _ (HF.out.grow F1.out) hfl).mono ?_; rintro e w2 ⟨rfl, fr2⟩; rw [H2.out]; have F2 := hid (F1.out.trans fr2.nil); clear fr2)))
        go_ret
        exact ⟨ret_bool (by rw [H1.out, H2.out, d3]; simp; omega), F2.out⟩
    · have h2' : asc fr = false := by simpa using h2
      have H2 := hid h2'
      clear h2 h2'
      go_wp2_with (first
        | (go_at_call 77; go_must (refine (specStoreValid_any K _ os _ HV.out HB2.out (by omega)).mono ?_; rintro e w1 ⟨rfl, fr1⟩; rw [H1.out]; have F1 := hid fr1; clear fr1))
        | (go_at_call 78; go_must (refine (l1Ids_any K' _ fr _ (HF.out.grow F1.out) hfl).mono ?_; rintro e w2 ⟨rfl, fr2⟩; rw [H2.out]; have F2 := hid (F1.out.trans fr2.nil); clear fr2)))
      go_ret
      exact ⟨ret_bool (by rw [H1.out, H2.out]; rfl), F2.out⟩
  · have h1' : stOk os = false := by simpa using h1
    have H1 := hid h1'
    clear h1 h1'
    go_wp2_with (go_at_call 77; go_must (refine (specStoreValid_any K _ os _ HV.out HB2.out (by omega)).mono ?_; rintro e w1 ⟨rfl, fr1⟩; rw [H1.out]; have F1 := hid fr1; clear fr1))
    go_ret
    exact ⟨ret_bool (by rw [H1.out]; rfl), F1.out⟩

set_option maxRecDepth 20000 in
set_option maxHeartbeats 2000000 in
theorem l1Missing_any (K K' : Nat → Bool → Prop) (v vf : Value) (os : List Ob) (fr : List Int) (w : World) (hv : ObsR K w v os) (hf : IntsR K' w vf fr) (hok : stOk os = true) (hfr : asc fr = true) :
    Calls Tryz.prog 52 #[v, vf] w fun e w' => ∃ v', e = .returned v' ∧ w'.ownsRow w.heap.size 3 1 v' (rcM os fr).length ((rcM os fr).map (Value.int .i64)) ∧ Fr w.heap.size [] w w' := by
  obtain ⟨a, cap, rfl, hcap, hcell⟩ := hv.shape
  obtain ⟨fa, fcap, rfl, _, _⟩ := hf.shape
  obtain ⟨i0, hi, hz0, hz1, hz2⟩ := info_parts infoI
  have F0 := hid ((Fr.refl w.heap.size [] w).alloc (.cells #[] 3))
  have O0 := hid (OwnI.lit (w := w))
  have HV := hid hv
  have HF := hid hf
  have OK := hid hok
  have AS := hid hfr
  have hL := rcL_len os fr
  obtain ⟨L, hLe⟩ : ∃ L, L = rcL os fr := ⟨_, rfl⟩
  have LE := hid hLe
  rw [← hLe] at hL
  obtain ⟨p, hp⟩ : ∃ p : Int → Bool, p = fun n => !hasId os n := ⟨_, rfl⟩
  have hM : rcM os fr = L.filter p := by rw [hp, hLe]; rfl
  rw [hM]
  have PE := hid hp
  clear hv hf hcell hok hfr hLe hp hM
  go_enter Tryz.func52, Tryz.ntmps52
  go_wp2_with (go_at_call 53; go_must (refine (l1Reach_any K K' _ _ os fr _ (HV.out.grow F0.out) (HF.out.grow F0.out) OK.out AS.out).mono ?_; rintro e w1 ⟨v1, rfl, own1, fr1⟩; rw [← LE.out] at own1; replace own1 : OwnI _ w1 v1 L := own1; have hs1 := F0.out.size; have F1 := hid (F0.out.trans fr1.nil); have L1 := hid (own1.lower hs1); have O1 := hid (O0.out.grow fr1); have S1 := hid (SepV.fresh (v := v1) O0.out fun k hk => (own1.lt k hk).1); obtain ⟨la, lcap, rfl⟩ := own1.any; clear fr1 own1 hs1))
  go_loopw [5, 7] (fun vo vi wx => ∃ k : Nat, k ≤ L.length ∧ vi = .int .i64 k ∧ OwnI w.heap.size wx vo ((L.take k).filter p) ∧ OwnI w.heap.size wx (.slice la L.length lcap) L ∧ SepV vo (.slice la L.length lcap) ∧ Fr w.heap.size [] w wx) (fun _ vi _ => L.length - (intOf vi).toNat)
  case atStart => exact ⟨0, Nat.zero_le _, rfl, O1.out, L1.out, S1.out.symm, F1.out⟩
  case round =>
    obtain ⟨k, hk, rfl, hown, hlr, hsp, hfr⟩ := hrel
    have OW := hid hown
    have LR := hid hlr
    have SP := hid hsp
    have FR := hid hfr
    have hls := hfr.size
    have hfl := filter_take_len L p k
    obtain ⟨oa, ocap, rfl⟩ := hown.any
    clear hown hlr hsp hfr
    by_cases hlt : k < L.length
    · obtain ⟨g, gcap, he, _, _, ck⟩ := LR.out.at hlt
      cases he
      have hki : (k : Int) < (L.length : Int) := by omega
      have FT := hid (filter_take p hlt)
      obtain ⟨x, hx⟩ : ∃ x, x = L[k] := ⟨_, rfl⟩
      rw [← hx] at ck FT
      clear hx
      by_cases hh : hasId os x = true
      · have HH := hid hh
        have PX := hid (show p x = false by rw [PE.out]; simp [hh])
        clear hh
        go_wp2_with (go_at_call 22; go_must (refine (l1Get_any K _ os x _ (HV.out.grow FR.out) OK.out).mono ?_; rintro e w2 ⟨z, rfl, hix, fr2⟩; obtain ⟨m, rfl⟩ := hix.yes HH.out; have m0 : ¬ (m : Int) < 0 := (by omega); have F2 := hid (FR.out.trans fr2.nil); have O2 := hid (OW.out.grow fr2); have LR2 := hid (LR.out.grow fr2); clear hix fr2))
        go_roundw
        case rel =>
          refine ⟨k + 1, by omega, by go_num, ?_, LR2.out, SP.out, F2.out⟩
          rw [FT.out, PX.out]
          exact O2.out
        case measure => simp [intOf]; omega
      · have hh' : hasId os x = false := by simpa using hh
        have HH := hid hh'
        have PX := hid (show p x = true by rw [PE.out]; simp [hh'])
        clear hh hh'
        go_wp2_with (first
          | (go_at_call 22; go_must (refine (l1Get_any K _ os x _ (HV.out.grow FR.out) OK.out).mono ?_; rintro e w2 ⟨z, rfl, hix, fr2⟩; obtain rfl := hix.no HH.out; have F2 := hid (FR.out.trans fr2.nil); have O2 := hid (OW.out.grow fr2); have LR2 := hid (LR.out.grow fr2); have ck2 := fr2.cell (by assumption) ck; have hls2 := Nat.le_trans hls fr2.size; clear hix fr2))
          | (at_builtin; go_must (refine wpList_push rfl (.tmp 25) (.tmp 30) 24 rfl w.heap.size 3 i0 (.int .i64 0) 1 8 Tryz.underlying24 hi hz0 hz1 hz2 rfl (by decide) _ _ _ O2.out rfl (oneInt _) (by unfold maxLen; omega) (by omega) (by omega) (by rfl) _ (by rfl) (by simp [World.setCell]) ?_; intro v4 w4 own4 fr4 gr4; have O4 := hid (OwnI.pushed own4); have F4 := hid (F2.out.after fr4); have LR4 := hid (SP.out.keep LR2.out gr4.1); have SP4 := hid (SP.out.moved LR2.out gr4.2); clear own4 fr4 gr4)))
        go_roundw
        case rel =>
          refine ⟨k + 1, by omega, by go_num, ?_, LR4.out, SP4.out, F4.out⟩
          rw [FT.out, PX.out]
          exact O4.out
        case measure => simp [intOf]; omega
    · obtain rfl : k = L.length := by omega
      rw [List.take_length] at OW
      go_wp2
      go_ret
      exact ⟨_, rfl, by rw [List.take_length]; exact OW.out, FR.out⟩

end Go.Proofs.YtjgbconlpolddaaGreat

/- The reference's l32Ok, l32Need. -/
namespace Go.Proofs.YtjgbconlpolddaaGreat
open Go.RowKit
set_option linter.unusedVariables false

theorem need_spec {os : List Ob} {ws hs : List Int} (ho : stOk os = true) (hw : ∀ x ∈ ws, 0 ≤ x ∧ x ≤ 990) (hm : rcM os ws = []) :
    (rcL os ws).filter (fun n => !(rcL os hs).contains n) = need os ws hs := by
  refine pw_ext ((rcL_pw _ _).filter _) (need_pw _ _ _) fun n => ?_
  rw [List.mem_filter, mem_need ho, mem_rcL]
  constructor
  · rintro ⟨⟨h1, h2⟩, h3⟩
    refine ⟨h2, (rcM_nil ho hw).1 hm n h2, fun h4 => ?_⟩
    have : n ∈ rcL os hs := mem_rcL.2 ⟨h1, h4⟩
    simp [this] at h3
  · rintro ⟨h1, h2, h3⟩
    refine ⟨⟨h1.inside ho hw, h1⟩, ?_⟩
    have : n ∉ rcL os hs := fun h => h3 (mem_rcL.1 h).2
    simpa using this

theorem isEmpty_len {l : List Int} : l.isEmpty = decide (l.length = 0) := by cases l <;> simp

set_option maxRecDepth 20000 in
set_option maxHeartbeats 2000000 in
theorem l32Ok_any (K K1 K2 : Nat → Bool → Prop) (v vw vh : Value) (os : List Ob) (ws hs : List Int) (w : World) (hv : ObsR K w v os) (h1 : IntsR K1 w vw ws) (h2 : IntsR K2 w vh hs) (hb : ObsB os) (hl1 : ws.length ≤ 1000000000) (hl2 : hs.length ≤ 1000000000) :
    Calls Tryz.prog 20 #[v, vw, vh] w fun e w' => e = .returned (.bool (needOk os ws hs)) ∧ Fr w.heap.size [] w w' := by
  obtain ⟨a, cap, rfl, hcap, hcell⟩ := hv.shape
  obtain ⟨wa, wcap, rfl, _, _⟩ := h1.shape
  obtain ⟨ha, hcap', rfl, _, _⟩ := h2.shape
  have HV := hid hv
  have HW := hid h1
  have HH := hid h2
  have HB := hid hb
  clear hv h1 h2 hcell hb
  unfold needOk
  go_enter Tryz.func20, Tryz.ntmps20
  by_cases c1 : (stOk os && idsB ws) = true
  · have C1 := hid c1
    have OK := hid (show stOk os = true by simp at c1; exact c1.1)
    have IW := hid (show idsB ws = true by simp at c1; exact c1.2)
    clear c1
    by_cases c2 : idsB hs = true
    · have C2 := hid (show (stOk os && idsB hs) = true by rw [OK.out, c2]; rfl)
      have IH := hid c2
      clear c2
      have AW := hid (idsB_asc IW.out).1
      by_cases c3 : (rcM os ws).length = 0
      · have d3 : decide ((rcM os ws).length = 0) = true := decide_eq_true c3
        have C3 := hid (show (rcM os ws).isEmpty = true by rw [isEmpty_len]; exact d3)
        obtain ⟨mL, hmL⟩ : ∃ l, l = rcM os ws := ⟨_, rfl⟩
        have ML := hid hmL
        rw [← hmL] at c3 d3
        clear hmL
        go_wp2_with (first
          | (go_at_call 51; (with_reducible refine (l1From_any K K1 _ _ os ws _ HV.out HW.out HB.out hl1).mono ?_); go_must (rintro e w1 ⟨rfl, fr1⟩; rw [C1.out]; have F1 := hid fr1; clear fr1))
          | (go_at_call 51; go_must (refine (l1From_any K K2 _ _ os hs _ (HV.out.grow F1.out) (HH.out.grow F1.out) HB.out hl2).mono ?_; rintro e w2 ⟨rfl, fr2⟩; rw [C2.out]; have F2 := hid (F1.out.trans fr2.nil); clear fr2))
          | (go_at_call 52; go_must (refine (l1Missing_any K K1 _ _ os ws _ (HV.out.grow F2.out) (HW.out.grow F2.out) OK.out AW.out).mono ?_; rintro e w3 ⟨v3, rfl, own3, fr3⟩; rw [← ML.out] at own3; replace own3 : OwnI _ w3 v3 mL := own3; obtain ⟨_, _, rfl⟩ := own3.any; have F3 := hid (F2.out.trans fr3.nil); clear fr3 own3)))
        go_ret
        exact ⟨ret_bool (by rw [OK.out, IW.out, IH.out, C3.out]; simp [c3]), F3.out⟩
      · have d3 : decide ((rcM os ws).length = 0) = false := decide_eq_false c3
        have C3 := hid (show (rcM os ws).isEmpty = false by rw [isEmpty_len]; exact d3)
        obtain ⟨mL, hmL⟩ : ∃ l, l = rcM os ws := ⟨_, rfl⟩
        have ML := hid hmL
        rw [← hmL] at c3 d3
        clear hmL
        go_wp2_with (first
          | (go_at_call 51; (with_reducible refine (l1From_any K K1 _ _ os ws _ HV.out HW.out HB.out hl1).mono ?_); go_must (rintro e w1 ⟨rfl, fr1⟩; rw [C1.out]; have F1 := hid fr1; clear fr1))
          | (go_at_call 51; go_must (refine (l1From_any K K2 _ _ os hs _ (HV.out.grow F1.out) (HH.out.grow F1.out) HB.out hl2).mono ?_; rintro e w2 ⟨rfl, fr2⟩; rw [C2.out]; have F2 := hid (F1.out.trans fr2.nil); clear fr2))
          | (go_at_call 52; go_must (refine (l1Missing_any K K1 _ _ os ws _ (HV.out.grow F2.out) (HW.out.grow F2.out) OK.out AW.out).mono ?_; rintro e w3 ⟨v3, rfl, own3, fr3⟩; rw [← ML.out] at own3; replace own3 : OwnI _ w3 v3 mL := own3; obtain ⟨_, _, rfl⟩ := own3.any; have F3 := hid (F2.out.trans fr3.nil); clear fr3 own3)))
        go_ret
        exact ⟨ret_bool (by rw [OK.out, IW.out, IH.out, C3.out]; simp; intro h; rw [h] at c3; exact c3 rfl), F3.out⟩
    · have c2' : idsB hs = false := by simpa using c2
      have C2 := hid (show (stOk os && idsB hs) = false by rw [OK.out, c2']; rfl)
      have IH := hid c2'
      clear c2 c2'
      go_wp2_with (first
        | (go_at_call 51; (with_reducible refine (l1From_any K K1 _ _ os ws _ HV.out HW.out HB.out hl1).mono ?_); go_must (rintro e w1 ⟨rfl, fr1⟩; rw [C1.out]; have F1 := hid fr1; clear fr1))
        | (go_at_call 51; go_must (refine (l1From_any K K2 _ _ os hs _ (HV.out.grow F1.out) (HH.out.grow F1.out) HB.out hl2).mono ?_; rintro e w2 ⟨rfl, fr2⟩; rw [C2.out]; have F2 := hid (F1.out.trans fr2.nil); clear fr2)))
      go_ret
      exact ⟨ret_bool (by rw [OK.out, IW.out, IH.out]; rfl), F2.out⟩
  · have c1' : (stOk os && idsB ws) = false := by simpa using c1
    have C1 := hid c1'
    clear c1 c1'
    go_wp2_with (go_at_call 51; go_must (refine (l1From_any K K1 _ _ os ws _ HV.out HW.out HB.out hl1).mono ?_; rintro e w1 ⟨rfl, fr1⟩; rw [C1.out]; have F1 := hid fr1; clear fr1))
    go_ret
    exact ⟨ret_bool (by rw [C1.out]; rfl), F1.out⟩

set_option maxRecDepth 20000 in
set_option maxHeartbeats 2000000 in
theorem l32Need_any (K K1 K2 : Nat → Bool → Prop) (v vw vh : Value) (os : List Ob) (ws hs : List Int) (w : World) (hv : ObsR K w v os) (h1 : IntsR K1 w vw ws) (h2 : IntsR K2 w vh hs) (hok : needOk os ws hs = true) :
    Calls Tryz.prog 21 #[v, vw, vh] w fun e w' => ∃ v', e = .returned v' ∧ OwnI w.heap.size w' v' (need os ws hs) ∧ Fr w.heap.size [] w w' := by
  obtain ⟨a, cap, rfl, hcap, hcell⟩ := hv.shape
  obtain ⟨wa, wcap, rfl, _, _⟩ := h1.shape
  obtain ⟨ha, hcap', rfl, _, _⟩ := h2.shape
  obtain ⟨i0, hi, hz0, hz1, hz2⟩ := info_parts infoI
  obtain ⟨k1, k2, k3, k4⟩ := needOk_iff.1 hok
  have F0 := hid ((Fr.refl w.heap.size [] w).alloc (.cells #[] 3))
  have O0 := hid (OwnI.lit (w := w))
  have HV := hid hv
  have HW := hid h1
  have HH := hid h2
  have OK := hid k1
  have AW := hid (idsB_asc k2).1
  have AH := hid (idsB_asc k3).1
  have hL := rcL_len os ws
  have hM := rcL_len os hs
  have hN := need_spec (hs := hs) k1 (asc_in (idsB_asc k2).1) k4
  obtain ⟨L, hLe⟩ : ∃ L, L = rcL os ws := ⟨_, rfl⟩
  obtain ⟨M, hMe⟩ : ∃ M, M = rcL os hs := ⟨_, rfl⟩
  have LE := hid hLe
  have ME := hid hMe
  rw [← hLe] at hL hN
  rw [← hMe] at hM hN
  obtain ⟨p, hp⟩ : ∃ p : Int → Bool, p = fun n => !M.contains n := ⟨_, rfl⟩
  rw [← hN, ← hp]
  have PE := hid hp
  clear hv h1 h2 hcell hok k1 k2 k3 k4 hLe hMe hp hN
  go_enter Tryz.func21, Tryz.ntmps21
  go_wp2_with (first
    | (go_at_call 53; (with_reducible refine (l1Reach_any K K1 _ _ os ws _ (HV.out.grow F0.out) (HW.out.grow F0.out) OK.out AW.out).mono ?_); go_must (rintro e w1 ⟨v1, rfl, own1, fr1⟩; rw [← LE.out] at own1; replace own1 : OwnI _ w1 v1 L := own1; have hs1 := F0.out.size; have F1 := hid (F0.out.trans fr1.nil); have L1 := hid (own1.lower hs1); have O1 := hid (O0.out.grow fr1); have S1 := hid (SepV.fresh (v := v1) O0.out fun k hk => (own1.lt k hk).1); obtain ⟨la, lcap, rfl⟩ := own1.any; clear fr1 own1 hs1))
    | (go_at_call 53; go_must (refine (l1Reach_any K K2 _ _ os hs _ (HV.out.grow F1.out) (HH.out.grow F1.out) OK.out AH.out).mono ?_; rintro e w2 ⟨v2, rfl, own2, fr2⟩; rw [← ME.out] at own2; replace own2 : OwnI _ w2 v2 M := own2; have hs2 := F1.out.size; have F2 := hid (F1.out.trans fr2.nil); have M2 := hid (own2.lower hs2); have O2 := hid (O1.out.grow fr2); have L2 := hid (L1.out.grow fr2); have T2 := hid (SepV.fresh (v := v2) O1.out fun k hk => (own2.lt k hk).1); obtain ⟨ma, mcap, rfl⟩ := own2.any; clear fr2 own2 hs2)))
  go_loopw [7, 10] (fun vo vi wx => ∃ k : Nat, k ≤ L.length ∧ vi = .int .i64 k ∧ OwnI w.heap.size wx vo ((L.take k).filter p) ∧ OwnI w.heap.size wx (.slice la L.length lcap) L ∧ OwnI w.heap.size wx (.slice ma M.length mcap) M ∧ SepV vo (.slice la L.length lcap) ∧ SepV vo (.slice ma M.length mcap) ∧ Fr w.heap.size [] w wx) (fun _ vi _ => L.length - (intOf vi).toNat)
  case atStart => exact ⟨0, Nat.zero_le _, rfl, O2.out, L2.out, M2.out, S1.out.symm, T2.out.symm, F2.out⟩
  case round =>
    obtain ⟨k, hk, rfl, hown, hlr, hmr, hsp, htp, hfr⟩ := hrel
    have OW := hid hown
    have LR := hid hlr
    have MR := hid hmr
    have SP := hid hsp
    have TP := hid htp
    have FR := hid hfr
    have hls := hfr.size
    have hfl := filter_take_len L p k
    obtain ⟨oa, ocap, rfl⟩ := hown.any
    clear hown hlr hmr hsp htp hfr
    by_cases hlt : k < L.length
    · obtain ⟨g, gcap, he, _, _, ck⟩ := LR.out.at hlt
      cases he
      have hki : (k : Int) < (L.length : Int) := by omega
      have FT := hid (filter_take p hlt)
      obtain ⟨x, hx⟩ : ∃ x, x = L[k] := ⟨_, rfl⟩
      rw [← hx] at ck FT
      clear hx
      by_cases hh : M.contains x = true
      · have HX := hid hh
        have PX := hid (show p x = false by rw [PE.out]; show (!M.contains x) = false; rw [hh]; rfl)
        clear hh
        go_wp2_with (go_at_call 54; go_must (refine (l1Has_any _ _ M _ _ MR.out.reads (by omega)).mono ?_; rintro e w4 ⟨rfl, rfl⟩; rw [HX.out]))
        go_roundw
        case rel =>
          refine ⟨k + 1, by omega, by go_num, ?_, LR.out, MR.out, SP.out, TP.out, FR.out⟩
          rw [FT.out, PX.out]
          exact OW.out
        case measure => simp [intOf]; omega
      · have hh' : M.contains x = false := by simpa using hh
        have HX := hid hh'
        have PX := hid (show p x = true by rw [PE.out]; show (!M.contains x) = true; rw [hh']; rfl)
        clear hh hh'
        go_wp2_with (first
          | (go_at_call 54; go_must (refine (l1Has_any _ _ M _ _ MR.out.reads (by omega)).mono ?_; rintro e w4 ⟨rfl, rfl⟩; rw [HX.out]))
          | (at_builtin; go_must (refine wpList_push rfl (.tmp 31) (.tmp 36) 24 rfl w.heap.size 3 i0 (.int .i64 0) 1 8 Tryz.underlying24 hi hz0 hz1 hz2 rfl (by decide) _ _ _ OW.out rfl (oneInt _) (by unfold maxLen; omega) (by omega) (by omega) (by rfl) _ (by rfl) (by simp [World.setCell]) ?_; intro v4 w4 own4 fr4 gr4; have O4 := hid (OwnI.pushed own4); have F4 := hid (FR.out.after fr4); have LR4 := hid (SP.out.keep LR.out gr4.1); have MR4 := hid (TP.out.keep MR.out gr4.1); have SP4 := hid (SP.out.moved LR.out gr4.2); have TP4 := hid (TP.out.moved MR.out gr4.2); clear own4 fr4 gr4)))
        go_roundw
        case rel =>
          refine ⟨k + 1, by omega, by go_num, ?_, LR4.out, MR4.out, SP4.out, TP4.out, F4.out⟩
          rw [FT.out, PX.out]
          exact O4.out
        case measure => simp [intOf]; omega
    · obtain rfl : k = L.length := by omega
      rw [List.take_length] at OW
      go_wp2
      go_ret
      exact ⟨_, rfl, by rw [List.take_length]; exact OW.out, FR.out⟩

end Go.Proofs.YtjgbconlpolddaaGreat

/- The reference's copies of objects. -/
namespace Go.Proofs.YtjgbconlpolddaaGreat
open Go.RowKit
set_option linter.unusedVariables false

theorem twoBoxes (w : World) (a b : Obj) : ((w.alloc a).alloc b).heap[w.heap.size]? = some a ∧ ((w.alloc a).alloc b).heap[w.heap.size + 1]? = some b :=
  ⟨heap_up (heap_alloc_new w a) b, by have := heap_alloc_new (w.alloc a) b; simpa using this⟩

set_option maxRecDepth 20000 in
set_option maxHeartbeats 4000000 in
theorem l1One_any (K : Nat → Bool → Prop) (v : Value) (o : Ob) (w : World) (hv : IntsR K w v o.links) (hl : o.links.length ≤ 1000000000) :
    Calls Tryz.prog 118 #[.agg #[.int .i64 o.kind, v, .string (tx o.text)]] w fun e w' => ∃ v', e = .returned (.agg #[.int .i64 o.kind, v', .string (tx o.text)]) ∧ IntsR (new w.heap.size) w' v' o.links ∧ Fr w.heap.size [] w w' := by
  obtain ⟨a, cap, rfl, hcap, -⟩ := hv.shape
  obtain ⟨i0, hi, hz0, hz1, hz2⟩ := info_parts infoI
  have F0 := hid (((Fr.refl w.heap.size [] w).alloc (.cells #[.int .i64 o.kind, .slice a o.links.length cap, .string (tx o.text)] 37)).alloc (.cells #[.int .i64 0, .slice none 0 0, .string ⟨#[]⟩] 37))
  have B0 := hid (twoBoxes w (.cells #[.int .i64 o.kind, .slice a o.links.length cap, .string (tx o.text)] 37) (.cells #[.int .i64 0, .slice none 0 0, .string ⟨#[]⟩] 37))
  have HV := hid (hv.grow F0.out)
  clear hv
  go_enter Tryz.func118, Tryz.ntmps118
  go_wp2_with (at_builtin; go_must (refine wpList_clone rfl (.tmp 3) (.tmp 5) 24 rfl 3 i0 (.int .i64 0) 1 8 Tryz.underlying24 hi hz0 hz1 hz2 rfl (by decide) _ (by rfl) (by simp) K 3 _ _ _ (by rfl) HV.out (oneI _) (by unfold maxLen; omega) (by omega) ?_; intro v1 w1 own1 fr1; obtain ⟨ca, ccap, rfl⟩ := own_any own1; have F1 := hid (F0.out.trans fr1.nil); have BA := hid (fr1.keep _ _ B0.out.1 (.inr (by simp))); have BB := hid (fr1.keep _ _ B0.out.2 (.inr (by simp))); have OWN1 := hid (ownsRow_lo own1 (lo' := w.heap.size) F0.out.size); have a0 := cell_of (o := 0) BA.out rfl; have a1 := cell_of (o := 1) BA.out rfl; have a2 := cell_of (o := 2) BA.out rfl; have af := fun o => free_of (o := o) BA.out; have b0 := cell_of (o := 0) BB.out rfl; have b1 := cell_of (o := 1) BB.out rfl; have b2 := cell_of (o := 2) BB.out rfl; have bf := fun o => free_of (o := o) BB.out; have hbb := lt_of_get BB.out; clear own1 fr1))
  have e := fill3 (x0 := .int .i64 o.kind) (x1 := .slice ca o.links.length ccap) (x2 := .string (tx o.text)) (block_setne (p := ⟨w.heap.size, 1, none⟩) (u := .slice ca o.links.length ccap) BB.out (by dsimp only; omega))
  have e0 := cell_of (o := 0) e rfl
  have e1 := cell_of (o := 1) e rfl
  have e2 := cell_of (o := 2) e rfl
  have FS := (Fr.refl 0 [37] w1).setOld (p := ⟨w.heap.size, 1, none⟩) BA.out (Nat.zero_le _) (by simp [otag]) (.slice ca o.links.length ccap)
  have FT := FS.fill3 (x0 := .int .i64 o.kind) (x1 := .slice ca o.links.length ccap) (x2 := .string (tx o.text)) (block_setne (p := ⟨w.heap.size, 1, none⟩) (u := .slice ca o.links.length ccap) BB.out (by dsimp only; omega)) (Nat.zero_le _)
  exact bodyPost_ret (v := .agg #[.int .i64 o.kind, .slice ca o.links.length ccap, .string (tx o.text)]) (by simp [results, Tryz.results118, go_sem, e0, e1, e2]) rfl
    ⟨_, rfl, (show IntsR (new w.heap.size) w1 (.slice ca o.links.length ccap) o.links from SlR.ofOwns OWN1.out).keep FT (Safe.new (by simp)), (F1.out.setNew (p := ⟨w.heap.size, 1, none⟩) (by dsimp only; omega) _).new3 (by omega)⟩

/-- A list of one object and its value, as a source. -/
theorem take_snoc {os : List Ob} {k : Nat} (hk : k < os.length) : os.take (k + 1) = os.take k ++ [os[k]] := by rw [List.take_add_one, List.getElem?_eq_getElem hk]; rfl

set_option maxRecDepth 20000 in
set_option maxHeartbeats 4000000 in
theorem l1Copy_any (K : Nat → Bool → Prop) (v : Value) (os : List Ob) (w : World) (hv : ObsR K w v os) (hb : ∀ o ∈ os, o.links.length ≤ 1000000000) (hl : os.length ≤ 1000000000) :
    Calls Tryz.prog 107 #[v] w fun e w' => ∃ v', e = .returned v' ∧ ObsOwn w.heap.size w' v' os ∧ v' ≠ .slice none 0 0 ∧ Fr w.heap.size [] w w' := by
  obtain ⟨a, cap, rfl, hcap, hcell⟩ := hv.shape
  obtain ⟨i0, hi, hz0, hz1, hz2⟩ := info_parts infoOb
  have HC := hid hcell
  have HB := hid hb
  have OE := hid (ObsOwn.empty (w := w) rfl)
  clear hv hcell hb
  go_enter Tryz.func107, Tryz.ntmps107
  go_wp2
  go_loopw [3, 4] (fun vo vi wx => ∃ (k : Nat) (xs : List Ob), k ≤ os.length ∧ vi = .int .i64 k ∧ xs = os.take k ∧ xs.length = k ∧ ObsOwn w.heap.size wx vo xs ∧ vo ≠ .slice none 0 0 ∧ Fr w.heap.size [] w wx) (fun _ vi _ => os.length - (intOf vi).toNat)
  case atStart => exact ⟨0, [], Nat.zero_le _, rfl, by simp, rfl, OE.out, (by simp), (Fr.refl _ _ _).alloc _⟩
  case round =>
    obtain ⟨k, xs, hk, rfl, hxs, hxl, hown, hvn, hfr⟩ := hrel
    have XS := hid hxs
    have XL := hid hxl
    have hs := hfr.size
    have VN := hid hvn
    clear hxs hvn
    obtain ⟨zs, z1, z2, z3⟩ := hown
    rw [hxl] at z2
    have Z1 := hid z1
    have Z3 := hid z3
    have Z2 := hid z2
    clear z1 z3
    obtain ⟨oa, ocap, rfl⟩ := own_any z2
    clear z2 hxl
    by_cases hlt : k < os.length
    · rcases HC.out with hh | ⟨b, off, rfl, hbs, hcell⟩
      · rw [hh] at hlt; cases hlt
      · obtain ⟨u, h0, h1, h2, hu⟩ := hcell k hlt
        obtain ⟨ua, ucap, rfl, _, _⟩ := hu.shape
        have c0 := hfr.cell hbs h0
        have c1 := hfr.cell hbs h1
        have c2 := hfr.cell hbs h2
        have HU := hid (hu.grow hfr)
        have hki : (k : Int) < (os.length : Int) := by omega
        have hil := HB.out _ (List.getElem_mem hlt)
        have TS := hid (take_snoc hlt)
        clear h0 h1 h2 hu hcell
        generalize os[k] = o at *
        go_wp2_with (first
          | (go_at_call 118; go_must (refine (l1One_any _ _ o _ HU.out hil).mono ?_; rintro e w1 ⟨u1, rfl, hu1, fr1⟩; obtain ⟨va, vcap, rfl, _, _⟩ := hu1.shape; have HU1 := hid (hu1.weak (K' := new w.heap.size) (fun b t _ hb => ⟨Nat.le_trans hs hb.1, hb.2⟩)); have F1 := hid (hfr.trans fr1.nil); have FR1 := hid fr1; have hs1 := fr1.size; clear hu1 fr1))
          | (at_builtin; go_must (refine wpList_push rfl (.tmp 12) (.tmp 18) 23 rfl w.heap.size 37 i0 (.agg #[.int .i64 0, .slice none 0 0, .string ⟨#[]⟩]) 3 48 Tryz.underlying23 hi hz0 hz1 hz2 rfl (by decide) _ _ _ (ownsRow_grow Z2.out FR1.out) rfl (oneOb3 _ _ _ _ _) (by unfold maxLen; omega) (by omega) (by omega) (by rfl) _ (by rfl) (by simp [World.setCell]) ?_; intro v7 w7 own7 fr7 _; have OWN7 := hid own7; have F7 := hid fr7; clear own7 fr7)))
        go_roundw
        case rel => exact ⟨k + 1, xs ++ [o], by omega, by go_num, by rw [TS.out, XS.out], by simp [XL.out], ObsOwn.snoc Z1.out (fun z hz => ((Z3.out z hz).grow FR1.out).keep F7.out (Safe.new (by simp))) (HU1.out.keep F7.out (Safe.new (by simp))) XL.out.symm OWN7.out, (by obtain ⟨g, cap, e, _⟩ := own_shape OWN7.out (by omega); rw [e]; simp), F1.out.after F7.out⟩
        case measure => simp [intOf]; omega
    · obtain rfl : k = os.length := by omega
      go_wp2
      go_ret
      have e1 : xs = os := by rw [XS.out, List.take_length]
      subst e1
      exact ⟨_, rfl, ⟨zs, Z1.out, Z2.out, Z3.out⟩, VN.out, hfr⟩

end Go.Proofs.YtjgbconlpolddaaGreat

/- The program's copyObjects. -/
namespace Go.Proofs.YtjgbconlpolddaaGreat
open Go.RowKit
set_option linter.unusedVariables false

set_option maxRecDepth 20000 in
set_option maxHeartbeats 1000000 in
theorem cloneOb_any (K : Nat → Bool → Prop) (E' : Nat) (v : Value) (n : Nat) (cs : List Value) (w : World) (hv : SlR K E' 3 w v n cs) (h1 : ∀ u ∈ cs, u.oneCell' = true) (hn : n ≤ 1000000000) :
    Calls Tryz.prog 73 #[v] w fun e w' => ∃ v', e = .returned v' ∧ w'.ownsRow w.heap.size 37 3 v' n cs ∧ Fr w.heap.size [] w w' := by
  obtain ⟨a, cap, rfl, h2, h3, h4, h5⟩ := id hv
  obtain ⟨iu, hui, huz0, huz1, huz2⟩ := info_parts infoOb
  have heq := fun (w : World) (a : Option Addr) (n c : Nat) => Lib.run_eql_slice_nil (P := Tryz.prog) w 23 37 a n c 0 0 Tryz.underlying23
  have HV := hid hv
  clear hv h5
  cases a with
  | none =>
    obtain ⟨rfl, rfl⟩ := h4 rfl
    have hcs : cs = [] := List.eq_nil_of_length_eq_zero (by simpa using h2)
    subst hcs
    clear h4 h2
    go_enter Tryz.func73, Tryz.ntmps73
    go_wp2
    go_ret
    exact ⟨_, rfl, World.ownsRow_nil _ _ _ _, Fr.refl _ _ _⟩
  | some ad =>
    have H2 := hid h2
    clear h4 h2
    go_enter Tryz.func73, Tryz.ntmps73
    go_wp2_with (at_builtin; go_must (refine wpList_clone rfl (.tmp 5) (.tmp 6) 23 rfl 37 iu (.agg #[.int .i64 0, .slice none 0 0, .string ⟨#[]⟩]) 3 48 Tryz.underlying23 hui huz0 huz1 huz2 rfl (by decide) _ (by rfl) (by simp [World.setCell]) K E' _ _ _ (by rfl) HV.out h1 (by unfold maxLen; omega) (by omega) ?_; intro v2 w2 own2 fr2))
    go_ret
    exact ⟨_, rfl, own2, fr2⟩

theorem fmOb_set1 (zs : List (Ob × Value)) {k : Nat} (hk : k < zs.length) (u : Value) : (zs.flatMap encOb).set (k * 3 + 1) u = (zs.set k (zs[k].1, u)).flatMap encOb := by
  induction zs generalizing k with
  | nil => simp at hk
  | cons z zs ih =>
    cases k with
    | zero => simp [encOb]
    | succ k =>
      have h3 : (k + 1) * 3 + 1 = k * 3 + 1 + 1 + 1 + 1 := by omega
      rw [h3]
      have := ih (k := k) (by simpa using hk)
      simp [encOb] at this ⊢
      exact this

theorem fmOb (zs : List (Ob × Value)) (i j : Nat) (hj : j < 3) (hi : i < zs.length) : (zs.flatMap encOb)[i * 3 + j]? = (encOb zs[i])[j]? := fm_get encOb 3 (fun _ => rfl) zs i j hj hi

theorem own_tag {lo E sz g n cap : Nat} {w : World} {cs : List Value} (h : w.ownsRow lo E sz (.slice (some ⟨g, 0, none⟩) n cap) n cs) : ∃ cur, w.heap[g]? = some (.cells cur E (0, 0)) := by
  rcases h.2 with ⟨h1, _⟩ | ⟨g', cap', cur, h1, hg, hh, _⟩
  · cases h1
  · cases h1; exact ⟨cur, hh⟩

theorem Fr.free {B : Nat} {T : List Nat} {w w' : World} (h : Fr B T w w') {b off : Nat} {u : Value} (hb : b < B) (hc : w.cell? ⟨b, off, none⟩ = some u) (hf : w.frozen? ⟨b, off, none⟩ = false) : w'.frozen? ⟨b, off, none⟩ = false := by
  have hl := World.block_lt_of_cell? _ _ hc
  have := h.keep b w.heap[b] (by simp [hl]) (.inl hb)
  unfold World.frozen? at hf ⊢
  rw [this]
  simpa [hl] using hf

theorem map_set_fstOb (zs : List (Ob × Value)) {k : Nat} (hk : k < zs.length) (u : Value) : (zs.set k (zs[k].1, u)).map (·.1) = zs.map (·.1) := by
  rw [List.map_set]
  apply List.ext_getElem (by simp)
  intro i h1 h2
  rw [List.getElem_set]
  split
  · rename_i e; subst e; simp
  · rfl

/-- Objects of which the first k have their links in memory of the call's own. -/
def HalfOb (lo k : Nat) (w : World) (v : Value) (os : List Ob) : Prop :=
  ∃ zs : List (Ob × Value), zs.map (·.1) = os ∧ w.ownsRow lo 37 3 v os.length (zs.flatMap encOb) ∧ ∀ j (hj : j < zs.length), (j < k → IntsR (new lo) w zs[j].2 zs[j].1.links) ∧ (k ≤ j → IntsR (old lo) w zs[j].2 zs[j].1.links)

theorem HalfOb.grow {lo k B : Nat} {w w' : World} {v : Value} {os : List Ob} (h : HalfOb lo k w v os) (hf : Fr B [] w w') : HalfOb lo k w' v os := by
  obtain ⟨zs, h1, h2, h3⟩ := h
  exact ⟨zs, h1, ownsRow_grow h2 hf, fun j hj => ⟨fun h => ((h3 j hj).1 h).grow hf, fun h => ((h3 j hj).2 h).grow hf⟩⟩

theorem HalfOb.all {lo k : Nat} {w : World} {v : Value} {os : List Ob} (h : HalfOb lo k w v os) (hk : k = os.length) : ObsOwn lo w v os := by
  obtain ⟨zs, h1, h2, h3⟩ := h
  refine ⟨zs, h1, h2, fun z hz => ?_⟩
  obtain ⟨j, hj, rfl⟩ := List.mem_iff_getElem.1 hz
  exact (h3 j hj).1 (by rw [hk, ← h1]; simpa using hj)

/-- Object k's links, and the row behind a store there. -/
theorem HalfOb.step {lo k g cap : Nat} {w : World} {os : List Ob} (h : HalfOb lo k w (.slice (some ⟨g, 0, none⟩) os.length cap) os) (hk : k < os.length) :
    ∃ u : Value, w.cell? ⟨g, k * 3 + 1, none⟩ = some u ∧ w.frozen? ⟨g, k * 3 + 1, none⟩ = false ∧ IntsR (old lo) w u os[k].links ∧ lo ≤ g ∧ g < w.heap.size ∧
      ∀ (w1 : World) (u' : Value), Fr w.heap.size [] w w1 → IntsR (new lo) w1 u' os[k].links → HalfOb lo (k + 1) (w1.setCell ⟨g, k * 3 + 1, none⟩ u') (.slice (some ⟨g, 0, none⟩) os.length cap) os := by
  obtain ⟨zs, h1, h2, h3⟩ := h
  have hl : zs.length = os.length := by rw [← h1]; simp
  have hkz : k < zs.length := by omega
  have e : os[k] = zs[k].1 := by
    have : (zs.map (·.1))[k]? = os[k]? := by rw [h1]
    rw [List.getElem?_map, List.getElem?_eq_getElem hkz, List.getElem?_eq_getElem hk] at this
    simpa using this.symm
  refine ⟨zs[k].2, ?_, h2.frozenAt _, by rw [e]; exact (h3 k hkz).2 (Nat.le_refl _), (h2.lt g rfl).1, (h2.lt g rfl).2, fun w1 u' hf hu => ?_⟩
  · rw [h2.cellAt (k * 3 + 1) (by omega)]
    have := fmOb zs k 1 (by omega) hkz
    simpa [encOb] using this
  · have h2' := ownsRow_grow h2 hf
    obtain ⟨cur, hcur⟩ := own_tag h2'
    have hT := (Fr.refl lo [37] w1).setOld (p := ⟨g, k * 3 + 1, none⟩) hcur ((h2.lt g rfl).1) (by simp [otag]) u'
    have ⟨st1, _⟩ := h2'.stored (k * 3 + 1) u'
    rw [fmOb_set1 zs hkz] at st1
    refine ⟨_, (map_set_fstOb zs hkz u').trans h1, st1, fun j hj => ?_⟩
    have hj' : j < zs.length := by simpa using hj
    rw [List.getElem_set]
    by_cases ej : k = j
    · subst ej
      simp only [if_true]
      refine ⟨fun _ => ?_, fun h => by omega⟩
      rw [← e]
      exact hu.keep hT (Safe.new (by simp))
    · simp only [if_neg ej]
      exact ⟨fun h => (((h3 j hj').1 (by omega)).grow hf).keep hT (Safe.new (by simp)), fun h => (((h3 j hj').2 (by omega)).grow hf).keep hT (Safe.old (Nat.le_refl _))⟩

set_option maxRecDepth 20000 in
set_option maxHeartbeats 2000000 in
theorem copyObjects_any (K : Nat → Bool → Prop) (v : Value) (os : List Ob) (w : World) (hv : ObsR K w v os) (hb : ∀ o ∈ os, o.links.length ≤ 1000000000) (hl : os.length ≤ 1000000000) :
    Calls Tryz.prog 46 #[v] w fun e w' => ∃ v', e = .returned v' ∧ ObsOwn w.heap.size w' v' os ∧ Fr w.heap.size [] w w' := by
  have hv' := hv.weak (K' := old w.heap.size) (fun b t hb _ => hb)
  obtain ⟨a, cap, rfl, hcap, -⟩ := hv'.shape
  obtain ⟨zs, z1, z2, z3⟩ := hv'
  have Z1 := hid z1
  have Z2 := hid z2
  have Z3 := hid z3
  have HB := hid hb
  have hone := oneObs z3
  clear hv z1 z2 z3 hb
  go_enter Tryz.func46, Tryz.ntmps46
  go_wp2_with (go_at_call 73; go_must (refine (cloneOb_any (old w.heap.size) _ _ _ _ _ Z2.out hone hl).mono ?_; rintro e w1 ⟨v1, rfl, own1, fr1⟩; obtain ⟨a1, cap1, rfl⟩ := own_any own1; have O1 := hid own1; have F1 := hid fr1; clear own1 fr1))
  have H1 : HalfOb w.heap.size 0 w1 (.slice a1 os.length cap1) os :=
    ⟨zs, Z1.out, O1.out, fun j hj => ⟨fun h => absurd h (Nat.not_lt_zero _), fun _ => (Z3.out _ (List.getElem_mem hj)).grow F1.out⟩⟩
  have HH1 := hid H1
  have hw1 := F1.out.size
  clear H1
  go_loopw [9] (fun i wr => ∃ k : Nat, k ≤ os.length ∧ i = .int .i64 k ∧ HalfOb w.heap.size k wr (.slice a1 os.length cap1) os ∧ Fr w.heap.size [] w wr) (fun i _ => os.length - (intOf i).toNat)
  case atStart => exact ⟨0, Nat.zero_le _, rfl, HH1.out, F1.out⟩
  case round =>
    obtain ⟨k, hk, rfl, hh, hfr⟩ := hrel
    have HH := hid hh
    clear hh
    by_cases hlt : k < os.length
    · obtain ⟨g, gcap, hg⟩ : ∃ g gcap, Value.slice a1 os.length cap1 = .slice (some ⟨g, 0, none⟩) os.length gcap := by
        obtain ⟨zs', y1, y2, y3⟩ := HH.out
        obtain ⟨g, gcap, hg, _⟩ := own_shape y2 (by omega)
        exact ⟨g, gcap, hg⟩
      cases hg
      obtain ⟨u, u1, u2, u3, u4, u5, u6⟩ := HH.out.step hlt
      obtain ⟨ua, ucap, rfl, _, _⟩ := u3.shape
      have hul := HB.out _ (List.getElem_mem hlt)
      have U3 := hid u3
      have U6 := hid u6
      have hki : (k : Int) < (os.length : Int) := by omega
      have hwr := hfr.size
      clear u3 u6
      go_wp2_with (go_at_call 36; go_must (refine (cloneI_any (old w.heap.size) _ _ _ _ _ U3.out (oneI _) hul).mono ?_; rintro e w2 ⟨v2, rfl, own2, fr2⟩; obtain ⟨a2, cap2, rfl⟩ := own_any own2; have FW := hid fr2; have OWN2 := hid own2; have d1 := FW.out.cell u5 u1; have d2 := FW.out.free u5 u1 u2; have d4 := Nat.lt_of_lt_of_le u5 FW.out.size; clear own2 fr2))
      go_roundw
      case rel =>
        have ST := U6.out w2 (.slice a2 os[k].links.length cap2) FW.out (SlR.ofOwns (ownsRow_lo OWN2.out hwr))
        exact ⟨k + 1, by omega, by go_num, ST, (hfr.trans FW.out.nil).setNew u4 _⟩
      case measure => simp [intOf]; omega
    · obtain rfl : k = os.length := by omega
      have RO := HH.out.all rfl
      go_wp2
      go_ret
      exact ⟨_, rfl, RO, hfr⟩

end Go.Proofs.YtjgbconlpolddaaGreat

/- slices.Insert at objects: one object. -/
namespace Go.Proofs.YtjgbconlpolddaaGreat
open Go.RowKit
set_option linter.unusedVariables false
set_option linter.unusedSimpArgs false

theorem run_copy_sz {P : Program} (w : World) (dT sT ty elem : TypeId) (i : TypeInfo) (b o dLen dCap : Nat) (a : Addr) (sLen sCap n : Nat) (cs : List Value)
    (hu : P.underlying dT = some (.slice elem)) (hi : P.info? elem = some i) (hn : n = Nat.min sLen dLen) (hl : cs.length = n * i.size)
    (hsrc : ∀ j v, cs[j]? = some v → w.cell? (a.add j) = some v) (hc : ∀ j, j < cs.length → (w.cell? ⟨b, o + j, none⟩).isSome = true) (hf : ∀ j, j < cs.length → w.frozen? ⟨b, o + j, none⟩ = false) (h1 : ∀ v ∈ cs, v.oneCell' = true) :
    (Builtin.copy_ #[dT, sT] ty #[.slice (some ⟨b, o, none⟩) dLen dCap, .slice (some a) sLen sCap]).run P w = .ok (goInt n) (w.setCells b o cs) := by
  have hl' := run_loadCells_list (P := P) w a cs hsrc
  have hst := run_storeCells_cells (P := P) b o cs 0 w (by simpa using hc) (by simpa using hf) h1
  simp [Builtin.copy_, run_underlying hu, Builtin.lenOf, Builtin.firstCells, sizeOf, typeInfo, hi, ← hn, ← hl, hl', hst]

theorem set_mid (l : List Value) (o : Nat) (v : Value) (r : List Value) (h : o < l.length) : (l.set o v).take (o + 1) ++ r ++ (l.set o v).drop (o + 1 + r.length) = l.take o ++ (v :: r) ++ l.drop (o + (r.length + 1)) := by
  have ho : (l.take o).length = o := by rw [List.length_take]; omega
  rw [List.set_eq_take_append_cons_drop, if_pos h]
  have e1 : (l.take o ++ v :: l.drop (o + 1)).take (o + 1) = l.take o ++ [v] := by
    rw [List.take_append, ho, List.take_of_length_le (by omega), show o + 1 - o = 1 by omega]; rfl
  have e2 : (l.take o ++ v :: l.drop (o + 1)).drop (o + 1 + r.length) = l.drop (o + (r.length + 1)) := by
    rw [List.drop_append, ho, show (l.take o).drop (o + 1 + r.length) = [] from List.drop_eq_nil_of_le (by omega), show o + 1 + r.length - o = r.length + 1 by omega, List.nil_append, List.drop_succ_cons, List.drop_drop]
    congr 1; omega
  rw [e1, e2]
  simp

theorem heap_setCells {b : Nat} {e : TypeId} : ∀ (vs : List Value) (o : Nat) (w : World) (cur : Array Value), w.heap[b]? = some (.cells cur e (0, 0)) → o + vs.length ≤ cur.size → (w.setCells b o vs).heap[b]? = some (.cells (cur.toList.take o ++ vs ++ cur.toList.drop (o + vs.length)).toArray e (0, 0))
  | [], o, w, cur, h, _ => by simp [World.setCells, h]
  | v :: r, o, w, cur, h, hf => by
    rw [World.setCells]
    have hf' : o + (r.length + 1) ≤ cur.size := by simpa using hf
    rw [heap_setCells r (o + 1) _ _ (block_set h o v) (by simp; omega), Array.toList_setIfInBounds, set_mid _ _ _ _ (by simpa using (show o < cur.size by omega))]
    rfl

theorem Fr.setCells {B b : Nat} {T : List Nat} {a : World} {e : TypeId} {f : Nat × Nat} : ∀ (vs : List Value) (o : Nat) (w : World) (cur : Array Value), Fr B T a w → w.heap[b]? = some (.cells cur e f) → B ≤ b → e ∈ T → Fr B T a (w.setCells b o vs)
  | [], o, w, cur, h, _, _, _ => h
  | v :: r, o, w, cur, h, hb, hB, hT => by
    rw [World.setCells]
    exact Fr.setCells r (o + 1) _ _ (h.setOld (p := ⟨b, o, none⟩) hb hB (by simpa [otag] using hT) v) (block_set hb o v) hB hT

theorem apart_ov (w : World) (vb b lb cb m vc voff o : Nat) (hvb : vb ≠ b) (tA tB kA kB : Nat) (hsa : w.shape? vb = some (tA, kA)) (hsb : w.shape? b = some (tB, kB)) (hkB : kB ≠ 0) (hfa : w.frozen? ⟨vb, voff, none⟩ = false) (hfe : w.frozen? ⟨vb, kA, none⟩ = false) : (callFunc 104 #[.slice (some ⟨vb, voff, none⟩) m vc, .slice (some ⟨b, o, none⟩) lb cb]).run Tryz.prog w = .ok (.value (.bool false)) w := by
  rw [run_callFunc_extern Tryz.func104 (by kernel_rfl) (by kernel_rfl) (by kernel_rfl) (e := Extern.SlicesOverlaps.overlaps #[23, 23] #[4]) (by kernel_rfl),
      Lib.run_overlaps_apart w 23 4 37 Tryz.underlying23 3 (fun w => by kernel_rfl) ⟨vb, voff, none⟩ ⟨b, o, none⟩ m vc lb cb hvb tA tB kA kB hsa hsb hkB hfa hfe]
  rfl

set_option maxRecDepth 100000 in
set_option maxHeartbeats 4000000 in
/-- There is room, and the place is not the end. -/
theorem insert_shift {lo : Nat} (b n c i vb : Nat) (cs vs : List Value) (w : World) (hown : w.ownsRow lo 37 3 (.slice (some ⟨b, 0, none⟩) n c) n cs) (hi : i < n) (hroom : n + 1 ≤ c) (hn : n ≤ 1000)
    (hv : w.heap[vb]? = some (.cells vs.toArray 37 (0, 0))) (hvl : vs.length = 3) (hvb : vb ≠ b) (h1c : ∀ v ∈ cs, v.oneCell' = true) (h1v : ∀ v ∈ vs, v.oneCell' = true) :
    Calls Tryz.prog 86 #[.slice (some ⟨b, 0, none⟩) n c, .int .i64 i, .slice (some ⟨vb, 0, none⟩) 1 1] w fun e w' =>
      e = .returned (.slice (some ⟨b, 0, none⟩) (n + 1) c) ∧ w' = (w.drew.setCells b ((i + 1) * 3) (cs.drop (i * 3))).setCells b (i * 3) vs := by
  obtain ⟨hcl, hsh⟩ := hown
  rcases hsh with ⟨hh, _⟩ | ⟨g', cap', cur, hh, hlo, hcur, hnc, hcm, hcs, htake⟩
  · cases hh
  cases hh
  obtain ⟨i0, hi0, hz0, hz1, hz2⟩ := info_parts infoOb
  have hc63 : c ≤ 9223372036854775807 := by unfold maxLen at hcm; omega
  have hcell : ∀ j v, cs[j]? = some v → w.cell? ⟨b, j, none⟩ = some v := fun j v hj => by
    rw [← htake, List.getElem?_take] at hj
    split at hj
    · exact cell_of hcur (by simpa using hj)
    · cases hj
  have hsp : ∀ j, j < (n + 1) * 3 → (w.cell? ⟨b, j, none⟩).isSome = true := fun j hj => by
    have : j < cur.size := by rw [hcs]; omega
    rw [cell_of hcur (u := cur[j]) (by simp [this])]; rfl
  have hfz : ∀ j, w.frozen? ⟨b, j, none⟩ = false := fun j => free_of hcur
  have hvs : ∀ j v, vs[j]? = some v → w.cell? ⟨vb, j, none⟩ = some v := fun j v hj => cell_of hv (by simpa using hj)
  have hsa : w.shape? vb = some (37, 3) := by simp [World.shape?, hv, hvl]
  have hsb : w.shape? b = some (37, cur.size) := by simp [World.shape?, hcur]
  have hov := fun lb cb => apart_ov w vb b lb cb 1 1 0 ((i + 1) * 3) hvb _ _ _ _ hsa hsb (by rw [hcs]; omega) (free_of hv) (free_of hv)
  have hdl : (cs.drop (i * 3)).length = (n - i) * 3 := by rw [List.length_drop, hcl]; omega
  have hz2 : ¬ ((i : Int) = (n : Int)) := by omega
  have hw1 : IntKind.i64.wrap ((i : Int) + 1) = (i : Int) + 1 := by rw [IntKind.wrap_i64]; omega
  have hw2 : IntKind.i64.wrap ((n : Int) + 1) = (n : Int) + 1 := by rw [IntKind.wrap_i64]; omega
  have hb1 : (0 : Int) ≤ (i : Int) + 1 := by omega
  have hin : i ≤ n := by omega
  have htn : ((i : Int) + 1).toNat = i + 1 := by omega
  have htn2 : ((n : Int) + 1).toNat = n + 1 := by omega
  have hb2 : ¬ (c = i + 1) := by omega
  have hb3 : (i : Int) ≤ (n : Int) + 1 := by omega
  have hb4 : ¬ (c = i) := by omega
  have hb5 : ¬ (c : Int) < (n : Int) + 1 := by omega
  have hb6 : (n : Int) + 1 ≤ (c : Int) := by omega
  have hcp1 : ∀ ty dc sc, (Builtin.copy_ #[23, 23] ty #[.slice (some ⟨b, (i + 1) * 3, none⟩) (n - i) dc, .slice (some ⟨b, i * 3, none⟩) (n + 1 - i) sc]).run Tryz.prog w.drew = .ok (goInt (n - i : Nat)) (w.drew.setCells b ((i + 1) * 3) (cs.drop (i * 3))) := fun ty dc sc =>
    run_copy_sz w.drew _ _ ty 37 i0 b ((i + 1) * 3) (n - i) dc ⟨b, i * 3, none⟩ (n + 1 - i) sc (n - i) (cs.drop (i * 3)) Tryz.underlying23 hi0 (by simp only [Nat.min_def]; split <;> omega) (by rw [hdl, hz1])
      (fun j v hj => by rw [Addr.add_lit]; exact hcell (i * 3 + j) v (by rwa [List.getElem?_drop] at hj))
      (fun j hj => hsp _ (by rw [hdl] at hj; omega)) (fun j hj => hfz _) (fun v hv => h1c v (List.mem_of_mem_drop hv))
  obtain ⟨W1, hW1⟩ : ∃ W1, W1 = w.drew.setCells b ((i + 1) * 3) (cs.drop (i * 3)) := ⟨_, rfl⟩
  have hsp1 : ∀ k, k < (n + 1) * 3 → (W1.cell? ⟨b, k, none⟩).isSome = true := fun k hk => by
    rw [hW1]
    exact isSome_setCells b _ _ w.drew (fun j hj => hsp ((i + 1) * 3 + j) (by rw [hdl] at hj; omega)) _ (hsp k hk)
  have hcp2 : ∀ (W : World), (∀ x, W.cell? x = W1.cell? x) → (∀ x, W.frozen? x = W1.frozen? x) → ∀ ty dc, (Builtin.copy_ #[23, 23] ty #[.slice (some ⟨b, i * 3, none⟩) (n + 1 - i) dc, .slice (some ⟨vb, 0, none⟩) 1 1]).run Tryz.prog W = .ok (goInt (1 : Nat)) (W.setCells b (i * 3) vs) := fun W hWc hWf ty dc =>
    run_copy_sz W _ _ ty 37 i0 b (i * 3) (n + 1 - i) dc ⟨vb, 0, none⟩ 1 1 1 vs Tryz.underlying23 hi0 (by simp only [Nat.min_def]; split <;> omega) (by rw [hvl, hz1])
      (fun j v hj => by
        rw [Addr.add_lit, hWc, hW1, World.cell?_setCells_out b _ _ _ _ (fun h _ => absurd h hvb), Nat.zero_add]
        exact hvs j v hj)
      (fun j hj => by rw [hWc]; exact hsp1 _ (by rw [hvl] at hj; omega)) (fun j hj => by rw [hWf, hW1, World.frozen?_setCells]; exact hfz _) h1v
  rw [← hW1] at hcp1
  clear hcs hcl hdl htake
  go_enter Tryz.func86, Tryz.ntmps86
  go_wp2_with (simp only [hov])
  go_region_law (refine step_copy_runI rfl _ _ 23 23 rfl _ _ (by simp [Act.eval, Act.put]) (by simp [Act.eval, Act.put]) (hcp1 _ _ _) ?_)
  go_wp2_with (at_builtin; refine wpList_copy_runI _ rfl _ _ 23 23 rfl _ _ rfl rfl (hcp2 _ (fun _ => rfl) (fun _ => rfl) _ _) ?_)
  go_ret
  first | exact ⟨rfl, rfl⟩ | exact ⟨rfl, by rw [hW1]⟩

end Go.Proofs.YtjgbconlpolddaaGreat

/- A queue of ints in memory of one's own: a slice that is cut at its head and appended to. -/
namespace Go.Proofs.YtjgbconlpolddaaGreat
open Go.RowKit
set_option linter.unusedVariables false

def OwnQ (lo : Nat) (w : World) (v : Value) (xs : List Int) : Prop :=
  (v = .slice none 0 0 ∧ xs = []) ∨ ∃ g off cap cur, v = .slice (some ⟨g, off, none⟩) xs.length cap ∧ lo ≤ g ∧ w.heap[g]? = some (.cells cur 3 (0, 0)) ∧ xs.length ≤ cap ∧ cap ≤ maxLen ∧ off + cap ≤ cur.size ∧ (cur.toList.drop off).take xs.length = xs.map (Value.int .i64)

theorem OwnQ.ofOwn {lo : Nat} {w : World} {v : Value} {l : List Int} (h : OwnI lo w v l) : OwnQ lo w v l := by
  obtain ⟨h1, h2⟩ := h
  rcases h2 with ⟨rfl, h2⟩ | ⟨g, cap, cur, rfl, h3, h4, h5, h6, h7, h8⟩
  · exact .inl ⟨rfl, List.eq_nil_of_length_eq_zero h2⟩
  · exact .inr ⟨g, 0, cap, cur, rfl, h3, h4, h5, h6, by omega, by simpa using h8⟩

theorem OwnQ.any {lo : Nat} {w : World} {v : Value} {l : List Int} (h : OwnQ lo w v l) : ∃ a cap, v = .slice a l.length cap := by
  rcases h with ⟨rfl, rfl⟩ | ⟨g, off, cap, cur, rfl, _⟩
  · exact ⟨_, _, rfl⟩
  · exact ⟨_, _, rfl⟩

theorem OwnQ.lt {lo : Nat} {w : World} {v : Value} {l : List Int} (h : OwnQ lo w v l) : ∀ k, v.ownBlock = some k → lo ≤ k ∧ k < w.heap.size := by
  rcases h with ⟨rfl, rfl⟩ | ⟨g, off, cap, cur, rfl, h1, h2, _⟩
  · intro k hk; simp [Value.ownBlock] at hk
  · intro k hk
    simp [Value.ownBlock] at hk
    subst hk
    exact ⟨h1, lt_of_get h2⟩

theorem OwnQ.kept {lo : Nat} {w w' : World} {v u : Value} {l : List Int} (h : OwnQ lo w v l) (hg : w.grownBy w' u.ownBlock) (hs : SepV u v) : OwnQ lo w' v l := by
  rcases h with ⟨rfl, rfl⟩ | ⟨g, off, cap, cur, rfl, h1, h2, h3⟩
  · exact .inl ⟨rfl, rfl⟩
  · refine .inr ⟨g, off, cap, cur, rfl, h1, ?_, h3⟩
    rw [hg.block g (lt_of_get h2) fun e => hs g e.symm rfl]
    exact h2

theorem OwnQ.grow {lo B : Nat} {w w' : World} {v : Value} {l : List Int} (h : OwnQ lo w v l) (hf : Fr B [] w w') : OwnQ lo w' v l := by
  rcases h with ⟨rfl, rfl⟩ | ⟨g, off, cap, cur, rfl, h1, h2, h3⟩
  · exact .inl ⟨rfl, rfl⟩
  · exact .inr ⟨g, off, cap, cur, rfl, h1, hf.keep _ _ h2 (.inr (by simp)), h3⟩

theorem OwnQ.keep {lo B : Nat} {T : List Nat} {w w' : World} {v : Value} {l : List Int} (h : OwnQ lo w v l) (hf : Fr B T w w') (hT : 3 ∉ T) : OwnQ lo w' v l := by
  rcases h with ⟨rfl, rfl⟩ | ⟨g, off, cap, cur, rfl, h1, h2, h3⟩
  · exact .inl ⟨rfl, rfl⟩
  · exact .inr ⟨g, off, cap, cur, rfl, h1, hf.keep _ _ h2 (.inr hT), h3⟩

theorem OwnQ.lower {lo lo' : Nat} {w : World} {v : Value} {l : List Int} (h : OwnQ lo w v l) (hl : lo' ≤ lo) : OwnQ lo' w v l := by
  rcases h with ⟨rfl, rfl⟩ | ⟨g, off, cap, cur, rfl, h1, h2⟩
  · exact .inl ⟨rfl, rfl⟩
  · exact .inr ⟨g, off, cap, cur, rfl, Nat.le_trans hl h1, h2⟩

/-- The head, and what is left when it is cut off (a slice without capacity keeps its address). -/
theorem OwnQ.pop {lo : Nat} {w : World} {v : Value} {x : Int} {xs : List Int} (h : OwnQ lo w v (x :: xs)) :
    ∃ g off cap o', v = .slice (some ⟨g, off, none⟩) (xs.length + 1) (cap + 1) ∧ xs.length ≤ cap ∧ g < w.heap.size ∧ w.cell? ⟨g, off, none⟩ = some (.int .i64 x) ∧ (if cap = 0 then some (⟨g, off, none⟩ : Addr) else some ⟨g, off + 1, none⟩) = some ⟨g, o', none⟩ ∧ OwnQ lo w (.slice (some ⟨g, o', none⟩) xs.length cap) xs := by
  rcases h with ⟨_, h⟩ | ⟨g, off, cap, cur, rfl, h1, h2, h3, h4, h5, h6⟩
  · cases h
  · simp only [List.length_cons] at h3 h6 ⊢
    obtain ⟨c, rfl⟩ : ∃ c, cap = c + 1 := ⟨cap - 1, by omega⟩
    have hlen : off < cur.toList.length := by simp; omega
    have hd : cur.toList.drop off = cur.toList[off] :: cur.toList.drop (off + 1) := List.drop_eq_getElem_cons hlen
    rw [hd, List.take_succ_cons, List.map_cons] at h6
    injection h6 with e1 e2
    have hcell : w.cell? ⟨g, off, none⟩ = some (.int .i64 x) := by
      refine cell_of h2 ?_
      rw [← Array.getElem?_toList, List.getElem?_eq_getElem hlen, e1]
    by_cases hc : c = 0
    · subst hc
      obtain rfl : xs = [] := List.eq_nil_of_length_eq_zero (by omega)
      exact ⟨g, off, 0, off, rfl, by simp, lt_of_get h2, hcell, by simp, .inr ⟨g, off, 0, cur, rfl, h1, h2, by simp, by omega, by omega, by simp⟩⟩
    · exact ⟨g, off, c, off + 1, rfl, by omega, lt_of_get h2, hcell, by simp [hc], .inr ⟨g, off + 1, c, cur, rfl, h1, h2, by omega, by omega, by omega, e2⟩⟩

theorem SepV.movedQ {w : World} {lo : Nat} {u v v' : Value} {l : List Int} (hs : SepV v u) (hu : OwnQ lo w u l) (hb : v'.ownBlock = v.ownBlock ∨ ∀ k, v'.ownBlock = some k → w.heap.size ≤ k) : SepV v' u := by
  rcases hb with hb | hb
  · intro k hk; exact hs k (hb ▸ hk)
  · intro k hk he
    have := (hu.lt k he).2
    have := hb k hk
    omega

theorem grownBy_setCells (g : Nat) : ∀ (vs : List Value) (o : Nat) (w : World), w.grownBy (w.setCells g o vs) (some g)
  | [], _, w => ⟨rfl, rfl, rfl, Nat.le_refl _, fun _ _ _ => rfl⟩
  | v :: r, o, w => (grownBy_set w g o v).trans (grownBy_setCells g r (o + 1) _)

/-- 'append(queue, src...)'. -/
theorem wpList_apQ {w : World} {ops : Array Oper} {rest : List Oper} {o : Oper} {a : Act} {Q : Exit → Act → World → Prop} (hgd : o.guard = none) (s x : Operand)
    (ho : o.op = .call { callee := .builtin .append, args := #[s, x], argTypes := #[24, 24] })
    (lo : Nat) (v : Value) (xs : List Int) (hs : a.eval s = v) (hown : OwnQ lo w v xs)
    (K : Nat → Bool → Prop) (vx : Value) (ys : List Int) (hx : a.eval x = vx) (hsrc : IntsR K w vx ys)
    (h63 : xs.length + ys.length ≤ 1000000000) (hlo : lo ≤ w.heap.size)
    (h : ∀ v' w', OwnQ lo w' v' (xs ++ ys) → w.grownBy w' v.ownBlock → (v'.ownBlock = v.ownBlock ∨ ∀ k, v'.ownBlock = some k → w.heap.size ≤ k) → Fr lo [3] w w' → wpList Tryz.prog ops Q rest (a.put o.dst v') w') : wpList Tryz.prog ops Q (o :: rest) a w := by
  obtain ⟨i0, hi, hz0, hz1, hz2⟩ := info_parts infoI
  have hmx : 1000000000 ≤ maxLen := by decide
  have hFr : ∀ w', w.grownBy w' v.ownBlock → Fr lo [3] w w' := fun w' hg => Fr.ofGrown hg fun k ob hk hob => by
    refine ⟨(hown.lt k hk).1, ?_⟩
    rcases hown with ⟨rfl, _⟩ | ⟨g, off, cap, cur, rfl, _, h2, _⟩
    · simp [Value.ownBlock] at hk
    · simp [Value.ownBlock] at hk
      subst hk
      rw [h2] at hob
      cases hob
      simp [otag]
  rcases hown with ⟨rfl, rfl⟩ | ⟨g, off, cap, cur, rfl, h1, h2, h3, h4, h5, h6⟩
  · refine wpList_ap hgd s x 24 ho lo 3 i0 (.int .i64 0) 1 8 Tryz.underlying24 hi hz0 hz1 hz2 rfl (by decide) _ 0 [] hs (World.ownsRow_nil _ _ _ _) K 3 vx ys.length (ys.map (Value.int .i64)) hx hsrc (oneI _) (by omega) (by omega) hlo fun v' w' g1 g2 g3 => ?_
    refine h v' w' (OwnQ.ofOwn (by simpa [OwnI] using g1)) g2 ?_ (hFr w' g2)
    rcases g3 with g3 | g3
    · exact .inl g3
    · exact .inr fun k hk => by rw [g3] at hk; cases hk; exact Nat.le_refl _
  · obtain ⟨ad, c, rfl, hl, hc, hnone, hcl⟩ := hsrc
    have hcur : cur.toList.length = cur.size := by simp
    have hxl : (xs.map (Value.int .i64)).length = xs.length := by simp
    have hxc : ∀ j u, (xs.map (Value.int .i64))[j]? = some u → w.cell? ((⟨g, off, none⟩ : Addr).add j) = some u := by
      intro j u hu
      have hadd : (⟨g, off, none⟩ : Addr).add j = ⟨g, off + j, none⟩ := by unfold Addr.add; split <;> simp_all
      rw [hadd]
      refine cell_of h2 ?_
      have hj : j < xs.length := by
        have := (List.getElem?_eq_some_iff.1 hu).1
        simpa using this
      rw [← h6, List.getElem?_take_of_lt hj, List.getElem?_drop] at hu
      rw [← Array.getElem?_toList]
      exact hu
    cases ad with
    | none =>
      obtain ⟨h7, h8⟩ := hnone rfl
      obtain rfl : ys = [] := List.eq_nil_of_length_eq_zero h7
      refine wpList_plain hgd fun _ hK => ?_
      have hr := run_append_nothing (P := Tryz.prog) w 24 24 o.type 3 i0 Tryz.underlying24 hi (some ⟨g, off, none⟩) xs.length cap h3 (.slice none 0 c) (Src.ofNil w Tryz.underlying24 c)
      unfold Oper.wp execOp
      simp only [ho, resolve, invoke, builtin, Sem.run_bind, Sem.run_pure, Result.andThen_ok, List.map_toArray, List.map_cons, List.map_nil, hs, hx]
      rw [show (([] : List Int).length) = 0 from rfl, hr]
      have hgw : w.grownBy w (Value.slice (some ⟨g, off, none⟩) xs.length cap).ownBlock := ⟨rfl, rfl, rfl, Nat.le_refl _, fun _ _ _ => rfl⟩
      exact hK _ _ (h _ w (by rw [List.append_nil]; exact .inr ⟨g, off, cap, cur, rfl, h1, h2, h3, h4, h5, h6⟩) hgw (.inl rfl) (hFr w hgw))
    | some ad =>
      have hnews : ∀ j u, (ys.map (Value.int .i64))[j]? = some u → w.cell? (ad.add j) = some u := by
        intro j u hu
        have hm : 0 < ys.length := by
          have := (List.getElem?_eq_some_iff.1 hu).1
          simp at this; omega
        obtain ⟨b, off', cur', e2, fr, g1, g2, g3, g4⟩ := hcl hm
        cases g1
        have hadd : (⟨b, off', none⟩ : Addr).add j = ⟨b, off' + j, none⟩ := by unfold Addr.add; split <;> simp_all
        rw [hadd]; simp [World.cell?, g3]; exact g4 j u hu
      by_cases hroom : xs.length + ys.length ≤ cap
      · have hr := run_append_room_cells (P := Tryz.prog) w 24 o.type 3 i0 Tryz.underlying24 hi g off xs.length cap ad ys.length c (ys.map (Value.int .i64)) (by rw [hz1]; simp) hnews (oneI _) hroom
          (fun j hj => by
            rw [hz1]
            have hj' : j < ys.length := by simpa using hj
            have hk : off + xs.length * 1 + j < cur.size := by omega
            rw [cell_of h2 (Array.getElem?_eq_getElem hk)]; rfl)
          (fun j hj => free_of h2)
        rw [hz1] at hr
        refine wpList_plain hgd fun _ hK => ?_
        unfold Oper.wp execOp
        simp only [ho, resolve, invoke, builtin, Sem.run_bind, Sem.run_pure, Result.andThen_ok, List.map_toArray, List.map_cons, List.map_nil, hs, hx, hr]
        have hgw := grownBy_setCells g (ys.map (Value.int .i64)) (off + xs.length * 1) w
        have hh := heap_setCells (ys.map (Value.int .i64)) (off + xs.length * 1) w cur h2 (by simp; omega)
        refine hK _ _ (h _ _ (.inr ⟨g, off, cap, _, by rw [List.length_append], h1, hh, by simp; omega, h4, ?_, ?_⟩) hgw (.inl rfl) (hFr _ hgw))
        · simp; omega
        · simp only [Nat.mul_one, List.map_append]
          rw [List.append_assoc, List.drop_append_of_le_length (by simp; omega), List.drop_take, Nat.add_sub_cancel_left, h6, ← List.append_assoc]
          exact List.take_left' (by simp)
      · obtain ⟨v', w', hr, r1, r2⟩ := run_append_arg_grows (P := Tryz.prog) w 24 o.type 3 i0 (.int .i64 0) 1 8 Tryz.underlying24 hi hz0 hz1 hz2 rfl (by decide) ⟨g, off, none⟩ xs.length cap (xs.map (Value.int .i64)) (by simp) hxc ad ys.length c (ys.map (Value.int .i64)) (by simp) hnews (by omega) (by omega) (by omega)
        refine wpList_plain hgd fun _ hK => ?_
        unfold Oper.wp execOp
        simp only [ho, resolve, invoke, builtin, Sem.run_bind, Sem.run_pure, Result.andThen_ok, List.map_toArray, List.map_cons, List.map_nil, hs, hx, hr]
        have hgw : w.grownBy w' (Value.slice (some ⟨g, off, none⟩) xs.length cap).ownBlock := ⟨r2.os, r2.tape, r2.output, r2.size, fun k hk _ => r2.block k hk (by simp)⟩
        have r1' : OwnI w.heap.size w' v' (xs ++ ys) := by
          unfold OwnI
          rw [List.map_append, List.length_append]; exact r1
        exact hK _ _ (h v' w' (OwnQ.ofOwn (r1'.lower hlo)) hgw (.inr fun k hk => (r1'.lt k hk).1) (hFr w' hgw))

end Go.Proofs.YtjgbconlpolddaaGreat

/- idHeap's methods. -/
namespace Go.Proofs.YtjgbconlpolddaaGreat
open Go.RowKit
set_option linter.unusedVariables false

set_option maxRecDepth 20000 in
set_option maxHeartbeats 2000000 in
theorem less_any {lo : Nat} {w : World} {v : Value} {l : List Int} (h : OwnI lo w v l) (i j : Nat) (hi : i < l.length) (hj : j < l.length) :
    Calls Tryz.prog 143 #[v, .int .i64 i, .int .i64 j] w fun e w' => e = .returned (.bool (decide (l[i] < l[j]))) ∧ Fr w.heap.size [] w w' := by
  obtain ⟨g, cap, rfl, _, _, ci⟩ := h.at hi
  obtain ⟨g', cap', he, _, _, cj⟩ := h.at hj
  cases he
  have i1 : (i : Int) < (l.length : Int) := by omega
  have j1 : (j : Int) < (l.length : Int) := by omega
  clear h
  obtain ⟨x, hx⟩ : ∃ x, x = l[i] := ⟨_, rfl⟩
  obtain ⟨y, hy⟩ : ∃ y, y = l[j] := ⟨_, rfl⟩
  rw [← hx] at ci ⊢
  rw [← hy] at cj ⊢
  clear hx hy
  go_enter Tryz.func143, Tryz.ntmps143
  go_wp2
  go_quiet (fail)
  go_wp2
  go_ret
  exact ⟨rfl, (Fr.refl _ _ _).drewN _⟩

set_option maxRecDepth 20000 in
set_option maxHeartbeats 2000000 in
theorem swap_any {lo : Nat} {w : World} {v : Value} {l : List Int} (h : OwnI lo w v l) (i j : Nat) (hi : i < l.length) (hj : j < l.length) :
    Calls Tryz.prog 146 #[v, .int .i64 i, .int .i64 j] w fun e w' => e = .returned (.tuple #[]) ∧ OwnI lo w' v ((l.set i l[j]).set j l[i]) ∧ w.grownBy w' v.ownBlock ∧ Fr lo [3] w w' := by
  obtain ⟨g, cap, rfl, hlg, _, ci⟩ := h.at hi
  obtain ⟨g', cap', he, _, _, cj⟩ := h.at hj
  cases he
  have HO := hid h
  have i1 : (i : Int) < (l.length : Int) := by omega
  have j1 : (j : Int) < (l.length : Int) := by omega
  have fi := World.ownsRow.frozenAt h i
  have fj := World.ownsRow.frozenAt h j
  clear h
  obtain ⟨x, hx⟩ : ∃ x, x = l[i] := ⟨_, rfl⟩
  obtain ⟨y, hy⟩ : ∃ y, y = l[j] := ⟨_, rfl⟩
  rw [← hx] at ci ⊢
  rw [← hy] at cj ⊢
  have s1 : (w.setCell ⟨g, i, none⟩ (.int .i64 y)).cell? ⟨g, j, none⟩ = some (.int .i64 y) := by
    by_cases e : i = j
    · subst e; exact World.cell?_setCell_same' _ _ _ (by rw [ci]; rfl)
    · rw [World.cell?_setCell_other w (a := ⟨g, i, none⟩) (b := ⟨g, j, none⟩) _ (fun h => e (by injection h))]; exact cj
  have s2 : (w.setCell ⟨g, j, none⟩ (.int .i64 x)).cell? ⟨g, i, none⟩ = some (.int .i64 x) := by
    by_cases e : i = j
    · subst e; exact World.cell?_setCell_same' _ _ _ (by rw [ci]; rfl)
    · rw [World.cell?_setCell_other w (a := ⟨g, j, none⟩) (b := ⟨g, i, none⟩) _ (fun h => e (by injection h with _ h; exact h.symm))]; exact ci
  have HX := hid hx
  have HY := hid hy
  clear hx hy
  go_enter Tryz.func146, Tryz.ntmps146
  go_wp2
  go_region
  go_end0
  obtain ⟨o1, g1⟩ := World.ownsRow.stored HO.out i (.int .i64 y)
  obtain ⟨o2, g2⟩ := World.ownsRow.stored o1 j (.int .i64 x)
  have G : w.grownBy ((w.setCell ⟨g, i, none⟩ (.int .i64 y)).setCell ⟨g, j, none⟩ (.int .i64 x)) (some g) := g1.trans g2
  refine ⟨rfl, ?_, ⟨G.os, G.tape, G.output, G.size, G.block⟩, ?_⟩
  · unfold OwnI
    rw [List.length_set, List.length_set, List.map_set, List.map_set]
    exact o2
  · exact (Fr.ofOwnGrown (v := .slice (some ⟨g, 0, none⟩) l.length cap) HO.out G (Nat.le_refl _) (List.mem_singleton.2 rfl)).drew

end Go.Proofs.YtjgbconlpolddaaGreat

/- idHeap's methods through the interface: Len, Push, Pop. -/
namespace Go.Proofs.YtjgbconlpolddaaGreat
open Go.RowKit
set_option linter.unusedVariables false

/-- A heap behind a pointer: its box and its row. -/
def HeapAt (lo b : Nat) (w : World) (v : Value) (l : List Int) : Prop := lo ≤ b ∧ w.heap[b]? = some (.cells #[v] 59 (0, 0)) ∧ OwnI lo w v l

theorem meth_push (b : Nat) (w : World) : (method 274 58 (.pointer (some ⟨b, 0, none⟩)) "Push").run Tryz.prog w = .ok (145, .pointer (some ⟨b, 0, none⟩)) w := by kernel_rfl

theorem meth_pop (b : Nat) (w : World) : (method 274 58 (.pointer (some ⟨b, 0, none⟩)) "Pop").run Tryz.prog w = .ok (144, .pointer (some ⟨b, 0, none⟩)) w := by kernel_rfl

theorem meth_len (b : Nat) (a : Option Addr) (n c : Nat) (w : World) (hb : w.cell? ⟨b, 0, none⟩ = some (.slice a n c)) : (method 274 58 (.pointer (some ⟨b, 0, none⟩)) "Len").run Tryz.prog w = .ok (31, .slice a n c) w := by
  have e : (method 274 58 (.pointer (some ⟨b, 0, none⟩)) "Len").run Tryz.prog w = ((load ⟨b, 0, none⟩) >>= fun x => pure (31, x)).run Tryz.prog w := by kernel_rfl
  rw [e]
  go_simp

theorem meth_less (b : Nat) (a : Option Addr) (n c : Nat) (w : World) (hb : w.cell? ⟨b, 0, none⟩ = some (.slice a n c)) : (method 274 58 (.pointer (some ⟨b, 0, none⟩)) "Less").run Tryz.prog w = .ok (143, .slice a n c) w := by
  have e : (method 274 58 (.pointer (some ⟨b, 0, none⟩)) "Less").run Tryz.prog w = ((load ⟨b, 0, none⟩) >>= fun x => pure (143, x)).run Tryz.prog w := by kernel_rfl
  rw [e]
  go_simp

theorem meth_swap (b : Nat) (a : Option Addr) (n c : Nat) (w : World) (hb : w.cell? ⟨b, 0, none⟩ = some (.slice a n c)) : (method 274 58 (.pointer (some ⟨b, 0, none⟩)) "Swap").run Tryz.prog w = .ok (146, .slice a n c) w := by
  have e : (method 274 58 (.pointer (some ⟨b, 0, none⟩)) "Swap").run Tryz.prog w = ((load ⟨b, 0, none⟩) >>= fun x => pure (146, x)).run Tryz.prog w := by kernel_rfl
  rw [e]
  go_simp

set_option maxRecDepth 20000 in
theorem len_any (a : Option Addr) (n c : Nat) (w : World) :
    Calls Tryz.prog 31 #[.slice a n c] w fun e w' => e = .returned (.int .i64 n) ∧ w' = w := by
  go_enter Tryz.func31, Tryz.ntmps31
  go_wp2
  go_ret
  exact ⟨rfl, rfl⟩

/-- Only blocks in P may have changed. -/
structure Fx (P : Nat → Prop) (w w' : World) : Prop where
  os : w'.os = w.os
  tape : w'.tape = w.tape
  output : w'.output = w.output
  size : w.heap.size ≤ w'.heap.size
  keep : ∀ k o, w.heap[k]? = some o → ¬ P k → w'.heap[k]? = some o

theorem Fx.refl (P : Nat → Prop) (w : World) : Fx P w w := ⟨rfl, rfl, rfl, Nat.le_refl _, fun _ _ h _ => h⟩
theorem Fx.trans {P : Nat → Prop} {a b c : World} (h : Fx P a b) (k : Fx P b c) : Fx P a c :=
  ⟨k.os.trans h.os, k.tape.trans h.tape, k.output.trans h.output, Nat.le_trans h.size k.size, fun i o hi ho => k.keep i o (h.keep i o hi ho) ho⟩
theorem Fx.drew {P : Nat → Prop} {a w : World} (h : Fx P a w) : Fx P a w.drew := ⟨h.os, h.tape, h.output, h.size, h.keep⟩
theorem Fx.drewN {P : Nat → Prop} {a w : World} (h : Fx P a w) (n : Nat) : Fx P a (w.drewN n) := by
  induction n with
  | zero => exact h
  | succ n ih => exact ⟨h.os, h.tape, h.output, h.size, h.keep⟩
theorem Fx.ofGrown {P : Nat → Prop} {w w' : World} {row : Option Nat} (h : w.grownBy w' row) (hr : ∀ k, row = some k → P k) : Fx P w w' :=
  ⟨h.os, h.tape, h.output, h.size, fun k o hk hp => by rw [h.block k (lt_of_get hk) fun e => hp (hr k e.symm)]; exact hk⟩
theorem Fx.set {P : Nat → Prop} {a w : World} (h : Fx P a w) {p : Addr} (hp : P p.block) (u : Value) : Fx P a (w.setCell p u) :=
  ⟨h.os, h.tape, h.output, by have := h.size; simpa [World.setCell] using this, fun k o hk ho => by
    rw [Below.heap_setCell _ _ _ _ (fun e => ho (by rw [e]; exact hp))]; exact h.keep k o hk ho⟩
theorem Fx.fr {P : Nat → Prop} {w w' : World} (h : Fx P w w') {B : Nat} {T : List Nat} (hp : ∀ k o, P k → w.heap[k]? = some o → B ≤ k ∧ otag o ∈ T) : Fr B T w w' :=
  ⟨h.os, h.tape, h.output, h.size, fun k o hk ho => h.keep k o hk fun hpk => by
    obtain ⟨h1, h2⟩ := hp k o hpk hk
    rcases ho with ho | ho
    · omega
    · exact ho h2⟩
theorem Fx.own {P : Nat → Prop} {w w' : World} (h : Fx P w w') {lo : Nat} {v : Value} {l : List Int} (ho : OwnI lo w v l) (hp : ∀ k, v.ownBlock = some k → ¬ P k) : OwnI lo w' v l := by
  obtain ⟨h1, h2⟩ := ho
  refine ⟨h1, ?_⟩
  rcases h2 with h2 | ⟨g, cap, cur, rfl, h3, h4, h5⟩
  · exact .inl h2
  · exact .inr ⟨g, cap, cur, rfl, h3, h.keep g _ h4 (hp g rfl), h5⟩

/-- The blocks of a heap. -/
def hb2 (b : Nat) (v : Value) : Nat → Prop := fun k => k = b ∨ v.ownBlock = some k

theorem HeapAt.fr {lo b : Nat} {w w' : World} {v : Value} {l : List Int} (h : HeapAt lo b w v l) (hf : Fx (hb2 b v) w w') : Fr lo [3, 59] w w' := by
  obtain ⟨h1, h2, h3, h4⟩ := h
  refine hf.fr fun k o hk ho => ?_
  rcases hk with rfl | hk
  · rw [h2] at ho; cases ho; exact ⟨h1, by simp [otag]⟩
  · rcases h4 with ⟨rfl, _⟩ | ⟨g, cap, cur, rfl, h5, h6, _⟩
    · simp [Value.ownBlock] at hk
    · simp [Value.ownBlock] at hk
      subst hk
      rw [h6] at ho; cases ho; exact ⟨h5, by simp [otag]⟩

theorem oneI1 (n : Int) : ∀ u ∈ [Value.int .i64 n], u.oneCell' = true := by
  intro u hu; simp at hu; subst hu; rfl

theorem assertI (x : Int) (w : World) : (Instr.typeAssert (.iface 3 (.int .i64 x)) 20 3 false).run Tryz.prog w = .ok (.int .i64 x) w := by kernel_rfl

set_option maxRecDepth 20000 in
set_option maxHeartbeats 2000000 in
theorem pushM_any {lo b : Nat} {w : World} {v : Value} {l : List Int} (h : HeapAt lo b w v l) (hl : l.length ≤ 1000000) (x : Int) :
    Calls Tryz.prog 145 #[.pointer (some ⟨b, 0, none⟩), .iface 3 (.int .i64 x)] w fun e w' => e = .returned (.tuple #[]) ∧ ∃ v', HeapAt lo b w' v' (l ++ [x]) ∧ Fr lo [3, 59] w w' := by
  obtain ⟨h1, h2, h3⟩ := h
  obtain ⟨a, cap, rfl⟩ := OwnI.any h3
  obtain ⟨i0, hi, hz0, hz1, hz2⟩ := info_parts infoI
  have c0 := cell_of (o := 0) h2 rfl
  have f0 := free_of (o := 0) h2
  have hlt := lt_of_get h2
  have HB := hid h2
  have HO := hid h3
  have hta := assertI x
  clear h2 h3
  go_enter Tryz.func145, Tryz.ntmps145
  go_wp2
  go_region_law (refine step_ap rfl (.tmp 7) (.tmp 10) 59 rfl lo 3 i0 (.int .i64 0) 1 8 Tryz.underlying59 hi hz0 hz1 hz2 rfl (by decide) (.slice a l.length cap) l.length (l.map (Value.int .i64)) (by rfl) (ownsRow_grow HO.out ((Fr.refl 0 [] w).drew.alloc _)) (new w.heap.size) 3 _ 1 [.int .i64 x] (by rfl) (SlR.lit (w := w.drew) rfl) (oneI1 _) (by unfold maxLen; omega) (by omega) (by simp; omega) ?_; intro v6 w6 own6 fr6; obtain ⟨a6, cap6, rfl⟩ := own_any own6; have B6 := hid (fr6.keep _ _ (heap_up (show w.drew.heap[b]? = _ from HB.out) _) (.inr (by simp [otag]))); have c6 := cell_of (o := 0) B6.out rfl; have f6 := free_of (o := 0) B6.out; have hl6 := lt_of_get B6.out; have O6 := hid own6; have F6 := hid fr6; clear own6 fr6)
  all_goals
    go_end0
    have FT := (Fr.refl 0 [59] w6).setOld (p := ⟨b, 0, none⟩) B6.out (Nat.zero_le _) (by simp [otag]) (.slice a6 (l.length + 1) cap6)
    refine ⟨rfl, .slice a6 (l.length + 1) cap6, ⟨h1, block_set B6.out 0 _, ownsRow_keep (OwnI.pushed O6.out) FT (by simp)⟩, ?_⟩
    exact ((((Fr.refl lo [3, 59] w).alloc _).drew).trans (F6.out.mono (Nat.le_refl _) (by simp))).setOld (p := ⟨b, 0, none⟩) B6.out h1 (by simp [otag]) _

/-- A row that is cut at its end. -/
theorem OwnI.cut {lo n : Nat} {w : World} {a : Addr} {cap : Nat} {l : List Int} (h : OwnI lo w (.slice (some a) l.length cap) l) (hn : l.length = n + 1) : OwnI lo w (.slice (some a) n cap) (l.take n) := by
  obtain ⟨h1, h2⟩ := h
  have hl : (l.take n).length = n := by rw [List.length_take]; omega
  rcases h2 with ⟨h2, _⟩ | ⟨g, cap', cur, he, h3, h4, h5, h6, h7, h8⟩
  · cases h2
  · cases he
    refine ⟨by rw [List.length_map, Nat.mul_one], .inr ⟨g, cap, cur, by rw [hl], h3, h4, by omega, h6, h7, ?_⟩⟩
    rw [hl, List.map_take, ← h8, List.take_take]
    congr 1
    omega

set_option maxRecDepth 20000 in
set_option maxHeartbeats 2000000 in
theorem popM_any {lo b n : Nat} {w : World} {v : Value} {l : List Int} (h : HeapAt lo b w v l) (hn : l.length = n + 1) (hl : l.length ≤ 1000000) :
    Calls Tryz.prog 144 #[.pointer (some ⟨b, 0, none⟩)] w fun e w' => e = .returned (.iface 3 (.int .i64 (at0 l n))) ∧ ∃ v', HeapAt lo b w' v' (l.take n) ∧ v'.ownBlock = v.ownBlock ∧ Fx (hb2 b v) w w' := by
  obtain ⟨h1, h2, h3⟩ := h
  have hnl : n < l.length := by omega
  obtain ⟨g, cap, rfl, hg, hgs, cn⟩ := h3.at hnl
  have O2 := hid (h3.cut hn)
  obtain ⟨hcap, hcap2⟩ : l.length ≤ cap ∧ cap ≤ maxLen := by
    rcases h3.2 with ⟨h, _⟩ | ⟨_, _, _, h, _, _, h5, h6, _⟩
    · cases h
    · cases h; exact ⟨h5, h6⟩
  have c0 := cell_of (o := 0) h2 rfl
  have f0 := free_of (o := 0) h2
  have hlt := lt_of_get h2
  have HB := hid h2
  clear h2 h3
  rw [← at0_get hnl] at cn
  generalize at0 l n = x at *
  rw [hn] at c0 hcap
  simp only [hn] at HB ⊢
  have i1 : IntKind.i64.wrap (((n + 1 : Nat) : Int) - 1) = (n : Int) := by rw [IntKind.wrap_i64]; omega
  have i2 : (n : Int) < ((n + 1 : Nat) : Int) := by omega
  have i3 : (n : Int) ≤ (cap : Int) := by omega
  go_enter Tryz.func144, Tryz.ntmps144
  go_wp2
  go_quiet (fail)
  go_wp2
  go_region
  go_wp2
  go_ret
  have H2 := ((Fr.refl 0 [] w).drewN (nq + 1)).keep _ _ HB.out (.inr (by simp))
  have FT := ((Fr.refl 0 [59] w).drewN (nq + 1)).setOld (p := ⟨b, 0, none⟩) H2 (Nat.zero_le _) (by simp [otag]) (.slice (some ⟨g, 0, none⟩) n cap)
  refine ⟨rfl, .slice (some ⟨g, 0, none⟩) n cap, ⟨h1, block_set H2 0 _, ownsRow_keep O2.out FT (by simp)⟩, rfl, ?_⟩
  exact ((Fx.refl _ w).drewN _).set (p := ⟨b, 0, none⟩) (.inl rfl) _

end Go.Proofs.YtjgbconlpolddaaGreat

/- container/heap: Push of what is greater than all. -/
namespace Go.Proofs.YtjgbconlpolddaaGreat
open Go.RowKit
set_option linter.unusedVariables false

/-- A heap as an interface value. -/
abbrev hv (b : Nat) : Value := .iface 58 (.pointer (some ⟨b, 0, none⟩))

set_option maxRecDepth 20000 in
set_option maxHeartbeats 2000000 in
/-- Nothing moves. -/
theorem up_any {lo b : Nat} {w : World} {v : Value} {l : List Int} {x : Int} (h : HeapAt lo b w v (l ++ [x])) (hl : l.length ≤ 1000000) (hx : ∀ y ∈ l, y < x) :
    Calls Tryz.prog 62 #[hv b, .int .i64 l.length] w fun e w' => e = .returned (.tuple #[]) ∧ Fr w.heap.size [] w w' := by
  obtain ⟨h1, h2, h3⟩ := h
  obtain ⟨a, cap, rfl⟩ := OwnI.any h3
  have c0 := cell_of (o := 0) h2 rfl
  have hme := fun w' h => meth_less b a (l ++ [x]).length cap w' h
  rw [show (l ++ [x]).length = l.length + 1 by simp] at c0 hme h3
  have HO := hid h3
  clear h2 h3
  rcases Nat.eq_zero_or_pos l.length with h0 | h0
  · rw [h0]
    go_enter Tryz.func62, Tryz.ntmps62
    go_wp2
    go_loopw [1] (fun i wr => i = .int .i64 0 ∧ wr = w) (fun i _ => 0)
    case atStart => exact ⟨rfl, rfl⟩
    case round =>
      obtain ⟨rfl, rfl⟩ := hrel
      go_wp2
      go_end0
      exact ⟨rfl, Fr.refl _ _ _⟩
  · obtain ⟨p, hp⟩ : ∃ p, p = (l.length - 1) / 2 := ⟨_, rfl⟩
    have hpl : p < l.length := by omega
    have j1 : IntKind.i64.wrap ((l.length : Int) - 1) = (l.length : Int) - 1 := by rw [IntKind.wrap_i64]; omega
    have j2 : ((l.length : Int) - 1).tdiv 2 = (p : Int) := by rw [Int.tdiv_eq_ediv_of_nonneg (by omega)]; omega
    have j3 : ¬ (p : Int) = (l.length : Int) := by omega
    have hlt : ∀ (g1 : l.length < (l ++ [x]).length) (g2 : p < (l ++ [x]).length), decide ((l ++ [x])[l.length] < (l ++ [x])[p]) = false := fun g1 g2 => by
      have e1 : (l ++ [x])[l.length] = x := by simp
      have e2 : (l ++ [x])[p] = l[p] := List.getElem_append_left hpl
      rw [e1, e2]
      have := hx _ (List.getElem_mem hpl)
      simp; omega
    have HLT := hid hlt
    have hp1 : p < (l ++ [x]).length := by simp; omega
    have hp2 : l.length < (l ++ [x]).length := by simp
    clear hp hlt
    go_enter Tryz.func62, Tryz.ntmps62
    go_wp2
    go_loopw [1] (fun i wr => i = .int .i64 l.length ∧ wr = w) (fun i _ => 0)
    case atStart => exact ⟨rfl, rfl⟩
    case round =>
      obtain ⟨rfl, rfl⟩ := hrel
      go_wp2_with (go_at_call 143; go_must (refine (less_any HO.out l.length p hp2 hp1).mono ?_; rintro e w1 ⟨rfl, fr1⟩; rw [HLT.out]; have F1 := hid fr1; clear fr1))
      go_end0
      exact ⟨rfl, F1.out⟩

set_option maxRecDepth 20000 in
set_option maxHeartbeats 2000000 in
theorem heapPush_any {lo b : Nat} {w : World} {v : Value} {l : List Int} {x : Int} (h : HeapAt lo b w v l) (hl : l.length ≤ 1000000) (hx : ∀ y ∈ l, y < x) :
    Calls Tryz.prog 30 #[hv b, .iface 3 (.int .i64 x)] w fun e w' => e = .returned (.tuple #[]) ∧ ∃ v', HeapAt lo b w' v' (l ++ [x]) ∧ Fr lo [3, 59] w w' := by
  have H := hid h
  have HX := hid hx
  have hpu := meth_push b
  have i1 : IntKind.i64.wrap (((l.length + 1 : Nat) : Int) - 1) = (l.length : Int) := by rw [IntKind.wrap_i64]; omega
  clear h hx
  go_enter Tryz.func30, Tryz.ntmps30
  go_wp2_with (first
    | (go_at_call 145; (with_reducible refine (pushM_any H.out hl x).mono ?_); go_must (rintro e w1 ⟨rfl, v1, h1, fr1⟩; obtain ⟨a1, cap1, rfl⟩ := OwnI.any h1.2.2; rw [show (l ++ [x]).length = l.length + 1 by simp] at h1; have H1 := hid h1; have F1 := hid fr1; have hlen := meth_len b a1 (l.length + 1) cap1 w1 (cell_of (o := 0) h1.2.1 rfl); clear h1 fr1))
    | (go_at_call 31; (with_reducible refine (len_any _ _ _ _).mono ?_); go_must (rintro e w2 ⟨rfl, rfl⟩))
    | (go_at_call 62; go_must (refine (up_any H1.out hl HX.out).mono ?_; rintro e w3 ⟨rfl, fr3⟩; have F3 := hid fr3; clear fr3)))
  go_end0
  exact ⟨rfl, _, ⟨H1.out.1, F3.out.keep _ _ H1.out.2.1 (.inr (by simp)), ownsRow_grow H1.out.2.2 F3.out⟩, F1.out.trans F3.out.nil⟩

end Go.Proofs.YtjgbconlpolddaaGreat
