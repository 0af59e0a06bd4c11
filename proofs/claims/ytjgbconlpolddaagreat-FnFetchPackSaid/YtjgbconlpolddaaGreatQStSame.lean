/- Objects compared: program and reference. -/
import Derived.Test.YtjgbconlpolddaaGreatQM5
set_option linter.unusedVariables false
set_option linter.unusedSimpArgs false
namespace Go.Proofs.YtjgbconlpolddaaGreat
open Go.RowKit
set_option linter.unusedVariables false

theorem take_all_eq {l l' : List Int} (hl : l'.length = l.length) (h : ∀ j, j < l.length → l[j]? = l'[j]?) : l = l' := List.ext_getElem? fun i => by
  by_cases hi : i < l.length
  · exact h i hi
  · rw [List.getElem?_eq_none (by omega), List.getElem?_eq_none (by omega)]

set_option maxRecDepth 20000 in
set_option maxHeartbeats 4000000 in
theorem equalI_any (K K' : Nat → Bool → Prop) (v v' : Value) (l l' : List Int) (w : World) (h1 : IntsR K w v l) (h2 : IntsR K' w v' l') (hl : l.length ≤ 1000000000) (hl' : l'.length ≤ 1000000000) :
    Calls Tryz.prog 103 #[v, v'] w fun e w' => e = .returned (.bool (decide (l = l'))) ∧ Fr w.heap.size [] w w' := by
  obtain ⟨a, cap, rfl, hc, hcell⟩ := h1.shape
  obtain ⟨a', cap', rfl, hc', hcell'⟩ := h2.shape
  clear h1 h2
  by_cases he : l'.length = l.length
  · rw [he]
    have HE := hid he
    have EX := hid (fun h => take_all_eq he h)
    have HC := hid hcell
    have HC' := hid hcell'
    rw [he] at hc' hl'
    clear he hcell hcell'
    go_enter Tryz.func103, Tryz.ntmps103
    go_wp2
    go_loopw [13] (fun vi wx => ∃ k : Nat, k ≤ l.length ∧ vi = .int .i64 k ∧ (∀ j, j < k → l[j]? = l'[j]?) ∧ Fr w.heap.size [] w wx) (fun vi _ => l.length - (intOf vi).toNat)
    case atStart => exact ⟨0, Nat.zero_le _, rfl, fun j h => absurd h (Nat.not_lt_zero _), Fr.refl _ _ _⟩
    case round =>
      obtain ⟨k, hk, rfl, hall, hfr⟩ := hrel
      have HA := hid hall
      clear hall
      by_cases hlt : k < l.length
      · rcases HC.out with hh | ⟨b, off, rfl, hbs, hcell⟩
        · rw [hh] at hlt; cases hlt
        rcases HC'.out with hh | ⟨b', off', rfl, hbs', hcell'⟩
        · have := HE.out; rw [hh] at this; simp at this; omega
        have hlt' : k < l'.length := by have := HE.out; omega
        have c0 := hfr.cell hbs (hcell k hlt)
        have d0 := hfr.cell hbs' (hcell' k hlt')
        have hki : (k : Int) < (l.length : Int) := by omega
        have NX := hid (fun (h : l[k] = l'[k]) => show ∀ j, j < k + 1 → l[j]? = l'[j]? from fun j hjk => by
          by_cases e : j = k
          · subst e; rw [List.getElem?_eq_getElem hlt, List.getElem?_eq_getElem hlt', h]
          · exact HA.out j (by omega))
        have NO := hid (fun (h : ¬ l[k] = l'[k]) => show decide (l = l') = false from by
          refine decide_eq_false fun e => h ?_
          subst e; rfl)
        clear hcell hcell'
        generalize l[k] = x at *
        generalize l'[k] = y at *
        by_cases hxy : x = y
        · subst hxy
          have NX2 := hid (NX.out rfl)
          go_wp2
          go_quiet (fail)
          go_wp2
          go_roundw
          case rel => exact ⟨k + 1, by omega, by go_num, NX2.out, hfr.drewN _⟩
          case measure => simp [intOf]; omega
        · have NO2 := hid (NO.out hxy)
          go_wp2
          go_quiet (fail)
          go_wp2
          go_ret
          exact ⟨ret_bool NO2.out.symm, hfr.drewN _⟩
      · obtain rfl : k = l.length := by omega
        have YES := hid (show decide (l = l') = true from decide_eq_true (EX.out (fun j hj => HA.out j hj)))
        go_wp2
        go_ret
        exact ⟨ret_bool YES.out.symm, hfr⟩
  · have i1 : ¬ (l.length : Int) = (l'.length : Int) := by omega
    have NO := hid (show decide (l = l') = false from decide_eq_false fun e => he (by rw [e]))
    clear he hcell hcell'
    go_enter Tryz.func103, Tryz.ntmps103
    go_wp2
    go_ret
    exact ⟨ret_bool NO.out.symm, Fr.refl _ _ _⟩

theorem twoBoxes' (w : World) (a b : Obj) : ((w.alloc a).alloc b).heap[w.heap.size]? = some a ∧ ((w.alloc a).alloc b).heap[w.heap.size + 1]? = some b :=
  ⟨heap_up (heap_alloc_new w a) b, by have := heap_alloc_new (w.alloc a) b; simpa using this⟩

theorem tx_ne {s t : Tx} (h : ¬ s = t) : ¬ (tx s).toList = (tx t).toList := by rw [tx_list, tx_list]; exact h

theorem tx_neb {s t : Tx} (h : ¬ s = t) : ((tx s).toList == (tx t).toList) = false := by simpa using tx_ne h

set_option maxRecDepth 20000 in
set_option maxHeartbeats 4000000 in
theorem implSame_any (K K' : Nat → Bool → Prop) (v v' : Value) (o p : Ob) (w : World) (h1 : IntsR K w v o.links) (h2 : IntsR K' w v' p.links) (hl : o.links.length ≤ 1000000000) (hl' : p.links.length ≤ 1000000000) :
    Calls Tryz.prog 85 #[.agg #[.int .i64 o.kind, v, .string (tx o.text)], .agg #[.int .i64 p.kind, v', .string (tx p.text)]] w fun e w' => e = .returned (.bool (decide (o = p))) ∧ Fr w.heap.size [] w w' := by
  obtain ⟨k, l, t⟩ := o
  obtain ⟨k', l', t'⟩ := p
  dsimp only at h1 h2 hl hl' ⊢
  obtain ⟨a, cap, rfl, hc, -⟩ := h1.shape
  obtain ⟨a', cap', rfl, hc', -⟩ := h2.shape
  have FA := hid (((Fr.refl w.heap.size [] w).alloc (.cells #[.int .i64 k, .slice a l.length cap, .string (tx t)] 37)).alloc (.cells #[.int .i64 k', .slice a' l'.length cap', .string (tx t')] 37))
  have BB := hid (twoBoxes' w (.cells #[.int .i64 k, .slice a l.length cap, .string (tx t)] 37) (.cells #[.int .i64 k', .slice a' l'.length cap', .string (tx t')] 37))
  have H1 := hid (h1.grow FA.out)
  have H2 := hid (h2.grow FA.out)
  clear h1 h2
  by_cases hk : k = k'
  · subst hk
    by_cases hll : l = l'
    · have HL := hid hll
      have DL := hid (show decide (l = l') = true from decide_eq_true hll)
      clear hll
      by_cases ht : t = t'
      · subst ht
        have R := hid (show decide ((⟨k, l, t⟩ : Ob) = ⟨k, l', t⟩) = true from decide_eq_true (by rw [HL.out]))
        go_enter Tryz.func85, Tryz.ntmps85
        go_wp2_with (go_at_call 103; go_must (refine (equalI_any _ _ _ _ l l' _ H1.out H2.out hl hl').mono ?_; rintro e w1 ⟨rfl, fr⟩; rw [DL.out]; have F1 := hid (FA.out.trans fr.nil); have B1 := hid (fr.keep _ _ BB.out.1 (.inr (by simp))); have B2 := hid (fr.keep _ _ BB.out.2 (.inr (by simp))); have c2 := cell_of (o := 2) B1.out rfl; have d2 := cell_of (o := 2) B2.out rfl; clear fr))
        go_ret
        exact ⟨ret_bool R.out.symm, F1.out⟩
      · have ht2 := tx_ne ht
        have ht3 := tx_neb ht
        have R := hid (show decide ((⟨k, l, t⟩ : Ob) = ⟨k, l', t'⟩) = false from decide_eq_false (by simp [ht]))
        clear ht
        go_enter Tryz.func85, Tryz.ntmps85
        go_wp2_with (go_at_call 103; go_must (refine (equalI_any _ _ _ _ l l' _ H1.out H2.out hl hl').mono ?_; rintro e w1 ⟨rfl, fr⟩; rw [DL.out]; have F1 := hid (FA.out.trans fr.nil); have B1 := hid (fr.keep _ _ BB.out.1 (.inr (by simp))); have B2 := hid (fr.keep _ _ BB.out.2 (.inr (by simp))); have c2 := cell_of (o := 2) B1.out rfl; have d2 := cell_of (o := 2) B2.out rfl; clear fr))
        go_ret
        exact ⟨ret_bool R.out.symm, F1.out⟩
    · have DL := hid (show decide (l = l') = false from decide_eq_false hll)
      have R := hid (show decide ((⟨k, l, t⟩ : Ob) = ⟨k, l', t'⟩) = false from decide_eq_false (by simp [hll]))
      clear hll
      go_enter Tryz.func85, Tryz.ntmps85
      go_wp2_with (go_at_call 103; go_must (refine (equalI_any _ _ _ _ l l' _ H1.out H2.out hl hl').mono ?_; rintro e w1 ⟨rfl, fr⟩; rw [DL.out]; have F1 := hid (FA.out.trans fr.nil); have B1 := hid (fr.keep _ _ BB.out.1 (.inr (by simp))); have B2 := hid (fr.keep _ _ BB.out.2 (.inr (by simp))); have c2 := cell_of (o := 2) B1.out rfl; have d2 := cell_of (o := 2) B2.out rfl; clear fr))
      go_ret
      exact ⟨ret_bool R.out.symm, F1.out⟩
  · have R := hid (show decide ((⟨k, l, t⟩ : Ob) = ⟨k', l', t'⟩) = false from decide_eq_false (by simp [hk]))
    go_enter Tryz.func85, Tryz.ntmps85
    go_wp2
    go_ret
    exact ⟨ret_bool R.out.symm, FA.out⟩

set_option maxRecDepth 20000 in
set_option maxHeartbeats 4000000 in
theorem l1Same_any (K K' : Nat → Bool → Prop) (v v' : Value) (o p : Ob) (w : World) (h1 : IntsR K w v o.links) (h2 : IntsR K' w v' p.links) (hl : o.links.length ≤ 1000000000) (hl' : p.links.length ≤ 1000000000) :
    Calls Tryz.prog 108 #[.agg #[.int .i64 o.kind, v, .string (tx o.text)], .agg #[.int .i64 p.kind, v', .string (tx p.text)]] w fun e w' => e = .returned (.bool (decide (o = p))) ∧ Fr w.heap.size [] w w' := by
  obtain ⟨kd, l, t⟩ := o
  obtain ⟨kd', l', t'⟩ := p
  dsimp only at h1 h2 hl hl' ⊢
  obtain ⟨a, cap, rfl, hc, hcell⟩ := h1.shape
  obtain ⟨a', cap', rfl, hc', hcell'⟩ := h2.shape
  clear h1 h2
  by_cases hk : kd = kd'
  · subst hk
    by_cases ht : t = t'
    · subst ht
      by_cases he : l'.length = l.length
      · rw [he]
        have FA := hid (((Fr.refl w.heap.size [] w).alloc (.cells #[.int .i64 kd, .slice a l.length cap, .string (tx t)] 37)).alloc (.cells #[.int .i64 kd, .slice a' l.length cap', .string (tx t)] 37))
        have BB := hid (twoBoxes' w (.cells #[.int .i64 kd, .slice a l.length cap, .string (tx t)] 37) (.cells #[.int .i64 kd, .slice a' l.length cap', .string (tx t)] 37))
        have HE := hid he
        have EX := hid (fun h => take_all_eq he h)
        have HC := hid hcell
        have HC' := hid hcell'
        rw [he] at hc' hl'
        clear he hcell hcell'
        go_enter Tryz.func108, Tryz.ntmps108
        go_wp2
        go_loopw [5] (fun vi wx => ∃ k : Nat, k ≤ l.length ∧ vi = .int .i64 k ∧ (∀ j, j < k → l[j]? = l'[j]?) ∧ wx.heap[w.heap.size]? = some (.cells #[.int .i64 kd, .slice a l.length cap, .string (tx t)] 37 (0, 0)) ∧ wx.heap[w.heap.size + 1]? = some (.cells #[.int .i64 kd, .slice a' l.length cap', .string (tx t)] 37 (0, 0)) ∧ Fr w.heap.size [] w wx) (fun vi _ => l.length - (intOf vi).toNat)
        case atStart => exact ⟨0, Nat.zero_le _, rfl, fun j h => absurd h (Nat.not_lt_zero _), BB.out.1, BB.out.2, FA.out⟩
        case round =>
          obtain ⟨k, hk, rfl, hall, hb1, hb2, hfr⟩ := hrel
          have HA := hid hall
          have x1 := cell_of (o := 1) hb1 rfl
          have x2 := cell_of (o := 1) hb2 rfl
          have HB1 := hid hb1
          have HB2 := hid hb2
          clear hall hb1 hb2
          by_cases hlt : k < l.length
          · rcases HC.out with hh | ⟨b, off, rfl, hbs, hcell⟩
            · rw [hh] at hlt; cases hlt
            rcases HC'.out with hh | ⟨b', off', rfl, hbs', hcell'⟩
            · have := HE.out; rw [hh] at this; simp at this; omega
            have hlt' : k < l'.length := by have := HE.out; omega
            have c0 := hfr.cell hbs (hcell k hlt)
            have d0 := hfr.cell hbs' (hcell' k hlt')
            have hki : (k : Int) < (l.length : Int) := by omega
            have NX := hid (fun (h : l[k] = l'[k]) => show ∀ j, j < k + 1 → l[j]? = l'[j]? from fun j hjk => by
              by_cases e : j = k
              · subst e; rw [List.getElem?_eq_getElem hlt, List.getElem?_eq_getElem hlt', h]
              · exact HA.out j (by omega))
            have NO := hid (fun (h : ¬ l[k] = l'[k]) => show decide ((⟨kd, l, t⟩ : Ob) = ⟨kd, l', t⟩) = false from by
              refine decide_eq_false fun e => h ?_
              simp at e
              subst e; rfl)
            clear hcell hcell'
            generalize l[k] = x at *
            generalize l'[k] = y at *
            by_cases hxy : x = y
            · subst hxy
              have NX2 := hid (NX.out rfl)
              go_wp2
              go_quiet (fail)
              go_wp2
              go_roundw
              case rel => exact ⟨k + 1, by omega, by go_num, NX2.out, HB1.out, HB2.out, hfr.drewN _⟩
              case measure => simp [intOf]; omega
            · have NO2 := hid (NO.out hxy)
              go_wp2
              go_quiet (fail)
              go_wp2
              go_ret
              exact ⟨ret_bool NO2.out.symm, hfr.drewN _⟩
          · obtain rfl : k = l.length := by omega
            have YES := hid (show decide ((⟨kd, l, t⟩ : Ob) = ⟨kd, l', t⟩) = true from decide_eq_true (by rw [EX.out (fun j hj => HA.out j hj)]))
            go_wp2
            go_ret
            exact ⟨ret_bool YES.out.symm, hfr⟩
      · have i1 : ¬ (l.length : Int) = (l'.length : Int) := by omega
        have NO := hid (show decide ((⟨kd, l, t⟩ : Ob) = ⟨kd, l', t⟩) = false from decide_eq_false fun e => he (by simp at e; rw [e]))
        clear he hcell hcell'
        go_enter Tryz.func108, Tryz.ntmps108
        go_wp2
        go_ret
        exact ⟨ret_bool NO.out.symm, ((Fr.refl _ _ _).alloc _).alloc _⟩
    · have ht2 := tx_ne ht
      have ht3 := tx_neb ht
      have R := hid (show decide ((⟨kd, l, t⟩ : Ob) = ⟨kd, l', t'⟩) = false from decide_eq_false (by simp [ht]))
      clear ht hcell hcell'
      go_enter Tryz.func108, Tryz.ntmps108
      go_wp2
      go_ret
      exact ⟨ret_bool R.out.symm, ((Fr.refl _ _ _).alloc _).alloc _⟩
  · have R := hid (show decide ((⟨kd, l, t⟩ : Ob) = ⟨kd', l', t'⟩) = false from decide_eq_false (by simp [hk]))
    clear hcell hcell'
    go_enter Tryz.func108, Tryz.ntmps108
    go_wp2
    go_ret
    exact ⟨ret_bool R.out.symm, ((Fr.refl _ _ _).alloc _).alloc _⟩

end Go.Proofs.YtjgbconlpolddaaGreat
