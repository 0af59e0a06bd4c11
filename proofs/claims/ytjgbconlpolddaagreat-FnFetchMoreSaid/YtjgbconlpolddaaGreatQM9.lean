/- The program's byId. -/
import Derived.Test.YtjgbconlpolddaaGreatQM1
import Derived.Test.YtjgbconlpolddaaGreatQFeReachI
import Derived.RangeFuncBox
import Derived.Maps.OwnIn
import Derived.Test.YtjgbconlpolddaaGreatQStValI
set_option linter.unusedVariables false
set_option linter.unusedSimpArgs false
namespace Go.Proofs.YtjgbconlpolddaaGreat
open Go.RowKit Go.Shelf
set_option linter.unusedVariables false

attribute [local go_sem] Oper.semAt_some

/-- A map's function, of the objects of a store by their ids; the links lie in w. -/
def ObF (K : Nat → Bool → Prop) (w : World) (os : List Ob) (f : Int → Option Value) : Prop :=
  ∀ x, match obId os x with | none => f x = none | some o => ∃ a cap, f x = some (.agg #[.int .i64 o.kind, .slice a o.links.length cap, .string (tx o.text)]) ∧ IntsR K w (.slice a o.links.length cap) o.links

theorem Fr.more {B : Nat} {T : List Nat} {w A A' : World} {row : Option Nat} (h : Fr B T w A) (hg : A.grownBy A' row) (hr : ∀ r, row = some r → w.heap.size ≤ r) : Fr B T w A' :=
  ⟨hg.os.trans h.os, hg.tape.trans h.tape, hg.output.trans h.output, Nat.le_trans h.size hg.size, fun k o hk ho => by
    have h1 := h.keep k o hk ho
    rw [hg.block k (lt_of_get h1) fun e => by have := hr k e.symm; have := lt_of_get hk; omega]
    exact h1⟩

theorem Fr.grown {B : Nat} {w w' : World} {row : Option Nat} (h : Fr B [] w w') : w.grownBy w' row :=
  ⟨h.os, h.tape, h.output, h.size, fun k hk _ => by
    have h1 := Array.getElem?_eq_getElem hk
    rw [h1]
    exact h.keep k _ h1 (.inr (by simp))⟩

theorem obId_take {os : List Ob} (hok : stOk os = true) {k : Nat} (hk : k < os.length) (x : Int) : obId (os.take (k + 1)) x = if x = oid os[k] then some os[k] else obId (os.take k) x := by
  unfold obId
  rw [List.take_add_one, List.getElem?_eq_getElem hk, List.find?_append]
  by_cases e : x = oid os[k]
  · subst e
    rw [if_pos rfl]
    have : (os.take k).find? (fun o => decide (oid o = oid os[k])) = none := by
      rw [List.find?_eq_none]
      intro o ho
      obtain ⟨j, hj, rfl⟩ := List.mem_iff_getElem.1 ho
      simp at hj
      rw [List.getElem_take]
      have := stOk_lt hok (i := j) (j := k) (by omega) hk
      simp; omega
    rw [this]
    simp
  · rw [if_neg e]
    have : ([os[k]].find? (fun o => decide (oid o = x))) = none := by
      simp; exact fun h => e h.symm
    simp only [Option.toList_some, this, Option.or_none]

theorem ObF.step {K : Nat → Bool → Prop} {w : World} {os : List Ob} {k : Nat} {f : Int → Option Value} {ua : Option Addr} {ucap : Nat} (h : ObF K w (os.take k) f) (hok : stOk os = true) (hk : k < os.length) (hu : IntsR K w (.slice ua os[k].links.length ucap) os[k].links) :
    ObF K w (os.take (k + 1)) (upd f (oid os[k]) (.agg #[.int .i64 os[k].kind, .slice ua os[k].links.length ucap, .string (tx os[k].text)])) := by
  intro x
  rw [obId_take hok hk]
  unfold upd
  by_cases e : x = oid os[k]
  · rw [if_pos e, if_pos e]
    exact ⟨ua, ucap, rfl, hu⟩
  · rw [if_neg e, if_neg e]
    exact h x

/-- Between two rounds. -/
def ById (K : Nat → Bool → Prop) (w : World) (os : List Ob) (pre : List Unit) (W : World) : Prop :=
  W.heap[w.heap.size + 1]? = some (.cells #[.map (some w.heap.size)] 54 (0, 0)) ∧ Fr w.heap.size [] w W ∧
    (pre = [] → MapF W w.heap.size 0 (fun _ => none)) ∧ (pre ≠ [] → ∃ n f, MapF W w.heap.size n f ∧ ObF K w os f)

theorem ById.grown {K : Nat → Bool → Prop} {w A A' : World} {os : List Ob} {pre : List Unit} {row : Option Nat} (h : ById K w os pre A) (hg : A.grownBy A' row) (hr : ∀ r, row = some r → w.heap.size + 2 ≤ r) : ById K w os pre A' := by
  obtain ⟨h1, h2, h3, h4⟩ := h
  have hb : ∀ k o, k ≤ w.heap.size + 1 → A.heap[k]? = some o → A'.heap[k]? = some o := fun k o hk ho => by
    rw [hg.block k (lt_of_get ho) fun e => by have := hr k e.symm; omega]
    exact ho
  refine ⟨hb _ _ (Nat.le_refl _) h1, h2.more hg fun r e => by have := hr r e; omega, fun e => (h3 e).block fun o ho => hb _ _ (by omega) ho, fun e => ?_⟩
  obtain ⟨n, f, h5, h6⟩ := h4 e
  exact ⟨n, f, h5.block fun o ho => hb _ _ (by omega) ho, h6⟩

set_option maxRecDepth 100000 in
set_option maxHeartbeats 2000000 in
theorem byId_any (K : Nat → Bool → Prop) (b : Nat) (v : Value) (os : List Ob) (w : World) (hb : w.cell? ⟨b, 0, none⟩ = some v) (hv : ObsR K w v os) (hok : stOk os = true) :
    Calls Tryz.prog 27 #[.slice (some ⟨b, 0, none⟩) 1 1] w fun e w' => ∃ m, e = .returned (.map (some m)) ∧ MapO K w' m os ∧ Fr w.heap.size [] w w' := by
  obtain ⟨a, cap, rfl, hcap, hcell⟩ := hv.shape
  have hmm := @run_makeMap Tryz.prog
  refine (callsIn_wide (n := 6)).1 ?_
  have h1 : 1 ≤ 6 := by omega
  refine callsIn_of_wp_marks Tryz.func27 rfl trivial ?_ rfl
  simp only [Tryz.ntmps27, List.size_toArray, List.length_cons, List.length_nil, Nat.reduceAdd, Nat.reduceSub, Array.replicate_succ, Array.replicate_zero, List.push_toArray, List.append_toArray, List.nil_append, List.cons_append]
  gi_wp2_with (refine ⟨trivial, ?_⟩; gi_at_call 59; refine (backward_in Fence.wide 5 trivial rfl _ _ _ _).mono ?_; rintro e w' ⟨rfl, rfl⟩)
  have hbs : b < w.heap.size := World.block_lt_of_cell? _ _ hb
  have hI0 : ById K w os [] (((w.alloc (.map #[] 0)).alloc (.cells #[.map (some w.heap.size)] 54)).alloc (.cells #[.slice (some ⟨b, 0, none⟩) 1 1] 92)) := by
    refine ⟨heap_up (by have := heap_alloc_new (w.alloc (.map #[] 0)) (.cells #[.map (some w.heap.size)] 54); simpa using this) _, (((Fr.refl _ _ _).alloc _).alloc _).alloc _, fun _ => ((MapF.made w).alloc _).alloc _, fun h => absurd rfl h⟩
  refine wpIn_rangeFunc_ownG (F := Fence.wide) (n := 6) rfl h1 (gf := 82) (lb := #[.pointer (some ⟨w.heap.size + 2, 0, none⟩)]) rfl trivial (enters_of Tryz.func82 (by kernel_rfl) rfl)
    (encs := fun _ : Unit => #[.int .i64 0, .slice a os.length cap]) (Kp := fun _ _ => True) (S := fun xs => xs = [()]) (Sp := fun xs => xs = [()]) (N := 1) ?seq (fun _ _ => trivial) (fun _ _ _ _ _ _ _ _ => trivial) (Below.refl _ _) (fun _ => rfl)
    (ById K w os) (fun _ _ _ => False) (fun s A B row hs hg hr => hs.grown hg fun r e => by have := (hr r e).1; simp at this; omega) (fun _ _ _ _ _ hs _ _ => hs) hI0 ?a1 ?assign ?body ?done ?stop
  case seq =>
    intro l J Jx W hW _ _ hY h0
    have c2 : W.cell? ⟨w.heap.size + 2, 0, none⟩ = some (.slice (some ⟨b, 0, none⟩) 1 1) := (hW.cell (p := ⟨w.heap.size + 2, 0, none⟩) (by simp)).trans (cell_of (by have := heap_alloc_new ((w.alloc (.map #[] 0)).alloc (.cells #[.map (some w.heap.size)] 54)) (.cells #[.slice (some ⟨b, 0, none⟩) 1 1] 92); simpa using this) rfl)
    have cb : W.cell? ⟨b, 0, none⟩ = some (.slice a os.length cap) := (hW.cell (p := ⟨b, 0, none⟩) (by simp; omega)).trans ((((Fr.refl w.heap.size [] w).alloc _).alloc _).alloc _ |>.cell hbs hb)
    exact (back1_in Fence.wide 5 trivial rfl (by omega) l (w.heap.size + 2) b a os.length cap J Jx hY W c2 cb h0).mono fun e W' ⟨he, hj⟩ => ⟨he, hj.imp (fun h => ⟨[()], rfl, h⟩) (fun h => ⟨[()], rfl, h⟩)⟩
  case a1 => exact fun _ => { tmps := #[.slice (some ⟨b, 0, none⟩) 1 1, undef, .map none, .pointer (some ⟨w.heap.size + 1, 0, none⟩), undef, .slice a os.length cap, undef, undef, .map (some w.heap.size), .slice (some ⟨b, 0, none⟩) 1 1, .func (.func 82) #[] #[.pointer (some ⟨w.heap.size + 2, 0, none⟩)], .int .i64 0, .slice a os.length cap, undef, undef, undef, undef, undef, undef, undef, undef, undef, undef, undef, undef], defers := [] }
  case assign =>
    intro l x W K hK
    gi_wp2
    exact hK
  case stop =>
    rintro D c pre W _ _ h _
    exact h.elim
  case done =>
    rintro D ys W hD rfl hI hK
    have cm := cell_of (o := 0) hI.1 rfl
    gi_wp2
    have hg := grownBy_putObj' W D (.deferred none)
    have hI2 := hI.grown hg fun r e => by cases e; simp at hD; omega
    obtain ⟨_, g2, _, g4⟩ := hI2
    obtain ⟨n, f, g5, g6⟩ := g4 (by simp)
    refine ⟨by simp, .inl ⟨_, _, rfl, run_takeDeferred hK, ?_⟩⟩
    refine ⟨_, results_tmp rfl _ _ _, w.heap.size, rfl, ⟨n, f, g5, fun x => ?_⟩, g2⟩
    have := g6 x
    cases hx : obId os x with
    | none => rw [hx] at this; exact this
    | some o =>
      rw [hx] at this
      obtain ⟨a', c', h3, h4⟩ := this
      exact ⟨a', c', h3, h4.grow g2⟩
  case body =>
    rintro l pre x W hI hpl
    obtain rfl : pre = [] := List.eq_nil_of_length_eq_zero (by omega)
    gi_wp2
    gi_loopw [15] (fun vi wx => ∃ (k n : Nat) (f : Int → Option Value), k ≤ os.length ∧ vi = .int .i64 k ∧ n ≤ k ∧ W.grownBy wx (some w.heap.size) ∧ MapF wx w.heap.size n f ∧ ObF K w (os.take k) f) (fun vi _ => os.length - (intOf vi).toNat)
    case atStart => exact ⟨0, 0, _, Nat.zero_le _, rfl, Nat.le_refl _, ⟨rfl, rfl, rfl, Nat.le_refl _, fun _ _ _ => rfl⟩, hI.2.2.1 rfl, fun x => rfl⟩
    case round =>
      obtain ⟨k, n, f, hk, rfl, hnk, hgr, hmf, hof⟩ := hrel
      have hF : Fr w.heap.size [] w wr := hI.2.1.more hgr (fun r e => by cases e; omega)
      have hbox : wr.heap[w.heap.size + 1]? = some (.cells #[.map (some w.heap.size)] 54 (0, 0)) := by
        rw [hgr.block _ (lt_of_get hI.1) (by simp)]; exact hI.1
      have HV := hid hv
      have OK := hid hok
      have FR := hid hF
      have MF := hid hmf
      have OF := hid hof
      have GR := hid hgr
      have HI := hid hI
      have BX := hid hbox
      have cm := cell_of (o := 0) hbox rfl
      have hms := lt_of_get hbox
      clear hbox hmf hof hgr hI hI0 hv hb
      by_cases hlt : k < os.length
      · rcases hcell with hh | ⟨b2, off, rfl, hbs2, hcell⟩
        · rw [hh] at hlt; cases hlt
        obtain ⟨u, x0, x1, x2, hu⟩ := hcell k hlt
        obtain ⟨ua, ucap, rfl, _, _⟩ := hu.shape
        have c0 := hF.cell hbs2 x0
        have c1 := hF.cell hbs2 x1
        have c2 := hF.cell hbs2 x2
        have HU := hid hu
        have hki : (k : Int) < (os.length : Int) := by omega
        have hobk := stOk_at OK.out hlt
        clear x0 x1 x2 hu hcell hF
        have hmx : Tryz.prog.follows .mixedOrders = true := by kernel_rfl
        have hd : 1 ≤ 6 - 1 - 1 := by omega
        have OB := hid (heap_alloc_new wr (.cells #[.int .i64 os[k].kind, .slice ua os[k].links.length ucap, .string (tx os[k].text)] 37))
        have BX2 := hid (heap_up BX.out (.cells #[.int .i64 os[k].kind, .slice ua os[k].links.length ucap, .string (tx os[k].text)] 37))
        have MF2 := hid (show MapF (wr.alloc (.cells #[.int .i64 os[k].kind, .slice ua os[k].links.length ucap, .string (tx os[k].text)] 37)).drew w.heap.size n f from (MF.out.alloc _).block fun o h => h)
        have hoi := oid_in hobk
        have hl16 : os.length ≤ 16 := (stOk_iff.1 OK.out).1
        have hn16 : n ≤ 1000000 := by have := (stOk_iff.1 OK.out).1; omega
        gi_wp2
        gi_region_with_o (refine ⟨trivial, ?_⟩; gi_at_call 39; go_must (refine (CallsIn.inRound l (callsIn_wide.2 (id_any K _ os[k] _ (HU.out.grow (FR.out.alloc _).drew) hobk))).mono ?_; rintro e w4 ⟨rfl, fr4⟩; have OB4 := hid (fr4.keep _ _ OB.out (.inr (by simp))); have d0 := cell_of (o := 0) OB4.out rfl; have d1 := cell_of (o := 1) OB4.out rfl; have d2 := cell_of (o := 2) OB4.out rfl; have d3 := cell_of (o := 0) (fr4.keep _ _ BX2.out (.inr (by simp))) rfl; have F4 := hid fr4; obtain ⟨w5, hup, hm5, hg5⟩ := (show MapF w4 w.heap.size n f from MF2.out.keep fr4 (by simp)).store 54 37 Tryz.underlying54 (by unfold maxLen; omega) (oid os[k]) (.agg #[.int .i64 os[k].kind, .slice ua os[k].links.length ucap, .string (tx os[k].text)]) (wf64 (by omega)); have M5 := hid hm5; have G5 := hid hg5; clear fr4 hm5 hg5))
        all_goals (
          gi_wp2
          go_roundw
          case rel => exact ⟨k + 1, n + 1, _, by omega, by go_num, by omega, (GR.out.trans (Fr.grown (((Fr.refl wr.heap.size [] wr).alloc _).drew.trans F4.out.nil))).trans G5.out, M5.out, OF.out.step OK.out hlt HU.out⟩
          case measure => simp [intOf]; omega)
      · obtain rfl : k = os.length := by omega
        rw [List.take_length] at OF
        clear hcell hF
        gi_wp2
        refine ⟨KeepsFrom.of_grownBy GR.out fun j e => (by cases e; simp; omega), trivial, BX.out, FR.out, fun h => (by cases h), fun _ => ⟨n, f, MF.out, OF.out⟩⟩

end Go.Proofs.YtjgbconlpolddaaGreat

/- The program's StoreReach and StoreMissing. -/
namespace Go.Proofs.YtjgbconlpolddaaGreat
open Go.RowKit
set_option linter.unusedVariables false

set_option maxRecDepth 20000 in
set_option maxHeartbeats 2000000 in
theorem storeReach_any (K K' : Nat → Bool → Prop) (v vf : Value) (os : List Ob) (fr : List Int) (w : World) (hv : ObsR K w v os) (hf : IntsR K' w vf fr) (hok : stOk os = true) (hfr : idsB fr = true) :
    Calls Tryz.prog 16 #[v, vf] w fun e w' => ∃ v', e = .returned v' ∧ OwnI w.heap.size w' v' (rcS os fr) ∧ Fr w.heap.size [] w w' := by
  obtain ⟨a, cap, rfl, hcap, hcell⟩ := hv.shape
  obtain ⟨fa, fcap, rfl, _, _⟩ := hf.shape
  have HV := hid hv
  have HF := hid hf
  have OK := hid hok
  have IB := hid hfr
  have hl16 : os.length ≤ 16 := (stOk_iff.1 hok).1
  have hl4 := (idsB_asc hfr).2
  have IN := hid (asc_in (idsB_asc hfr).1)
  have LB := hid (show ∀ p ∈ os, p.links.length ≤ 1000000000 from fun p hp => by have := (obOk_len ((stOk_iff.1 hok).2.1 p hp)).1; omega)
  clear hv hf hok hfr hcell
  go_enter Tryz.func16, Tryz.ntmps16
  go_wp2_with (first
    | (go_at_call 25; go_must (refine (implStoreValid_any K _ os _ HV.out LB.out (by omega)).mono ?_; rintro e w1 ⟨rfl, fr1⟩; rw [OK.out]; have F1 := hid fr1; clear fr1))
    | (go_at_call 26; go_must (refine (idsOk_any K' _ fr _ (HF.out.grow F1.out) (by omega)).mono ?_; rintro e w2 ⟨rfl, fr2⟩; rw [show (asc fr && decide (fr.length ≤ 4)) = true from IB.out]; have F2 := hid (F1.out.trans fr2.nil); clear fr2))
    | (go_at_call 27; go_must (have FB := hid (F2.out.alloc (.cells #[.slice a os.length cap] 23)); refine (byId_any K _ _ os _ (cell_of (heap_alloc_new w2 (.cells #[.slice a os.length cap] 23)) rfl) (HV.out.grow FB.out) OK.out).mono ?_; rintro e w3 ⟨m, rfl, hmo, fr3⟩; have MO := hid hmo; have F3 := hid (FB.out.trans fr3.nil); clear hmo fr3))
    | (go_at_call 28; go_must (refine (reach_any K K' _ _ os fr _ MO.out (HF.out.grow F3.out) OK.out IN.out (by omega)).mono ?_; rintro e w4 ⟨v1, v2, rfl, own1, own2, fr4⟩; have hs3 := F3.out.size; have R1 := hid (own1.lower hs3); have R2 := hid (own2.lower hs3); have F4 := hid (F3.out.trans fr4.nil); clear own1 own2 fr4)))
  go_ret
  exact ⟨_, rfl, R1.out, F4.out⟩

set_option maxRecDepth 20000 in
set_option maxHeartbeats 2000000 in
theorem storeMissing_any (K K' : Nat → Bool → Prop) (v vf : Value) (os : List Ob) (fr : List Int) (w : World) (hv : ObsR K w v os) (hf : IntsR K' w vf fr) (hok : stOk os = true) (hfr : idsB fr = true) :
    Calls Tryz.prog 14 #[v, vf] w fun e w' => ∃ v', e = .returned v' ∧ OwnI w.heap.size w' v' (rcM os fr) ∧ Fr w.heap.size [] w w' := by
  obtain ⟨a, cap, rfl, hcap, hcell⟩ := hv.shape
  obtain ⟨fa, fcap, rfl, _, _⟩ := hf.shape
  have HV := hid hv
  have HF := hid hf
  have OK := hid hok
  have IB := hid hfr
  have hl16 : os.length ≤ 16 := (stOk_iff.1 hok).1
  have hl4 := (idsB_asc hfr).2
  have IN := hid (asc_in (idsB_asc hfr).1)
  have LB := hid (show ∀ p ∈ os, p.links.length ≤ 1000000000 from fun p hp => by have := (obOk_len ((stOk_iff.1 hok).2.1 p hp)).1; omega)
  clear hv hf hok hfr hcell
  go_enter Tryz.func14, Tryz.ntmps14
  go_wp2_with (first
    | (go_at_call 25; go_must (refine (implStoreValid_any K _ os _ HV.out LB.out (by omega)).mono ?_; rintro e w1 ⟨rfl, fr1⟩; rw [OK.out]; have F1 := hid fr1; clear fr1))
    | (go_at_call 26; go_must (refine (idsOk_any K' _ fr _ (HF.out.grow F1.out) (by omega)).mono ?_; rintro e w2 ⟨rfl, fr2⟩; rw [show (asc fr && decide (fr.length ≤ 4)) = true from IB.out]; have F2 := hid (F1.out.trans fr2.nil); clear fr2))
    | (go_at_call 27; go_must (have FB := hid (F2.out.alloc (.cells #[.slice a os.length cap] 23)); refine (byId_any K _ _ os _ (cell_of (heap_alloc_new w2 (.cells #[.slice a os.length cap] 23)) rfl) (HV.out.grow FB.out) OK.out).mono ?_; rintro e w3 ⟨m, rfl, hmo, fr3⟩; have MO := hid hmo; have F3 := hid (FB.out.trans fr3.nil); clear hmo fr3))
    | (go_at_call 28; go_must (refine (reach_any K K' _ _ os fr _ MO.out (HF.out.grow F3.out) OK.out IN.out (by omega)).mono ?_; rintro e w4 ⟨v1, v2, rfl, own1, own2, fr4⟩; have hs3 := F3.out.size; have R1 := hid (own1.lower hs3); have R2 := hid (own2.lower hs3); have F4 := hid (F3.out.trans fr4.nil); clear own1 own2 fr4)))
  go_ret
  exact ⟨_, rfl, R2.out, F4.out⟩

end Go.Proofs.YtjgbconlpolddaaGreat
