/- The small functions of objects and deltas, program and reference. -/
import Derived.Test.YtjgbconlpolddaaGreatQM2
set_option linter.unusedVariables false
set_option linter.unusedSimpArgs false
namespace Go.Proofs.YtjgbconlpolddaaGreat
open Go.RowKit
set_option linter.unusedVariables false

theorem quiet_eq {P : Program} {f : FuncId} {args : Array Value} {w : World} {n : Nat} {v : Value}
    (h : Calls P f args (w.drewN n) fun e w' => e = .returned v ∧ w.drewN n = w') : Calls P f args (w.drewN n) fun e w'' => e = .returned v ∧ ∃ m, w'' = w.drewN m :=
  h.mono fun _ _ ⟨he, hm⟩ => ⟨he, n, hm.symm⟩

theorem ret_bool {a b : Bool} (h : a = b) : Ending.returned (.bool a) = .returned (.bool b) := by rw [h]
theorem ret_int {k : IntKind} {a b : Int} (h : a = b) : Ending.returned (.int k a) = .returned (.int k b) := by rw [h]

set_option maxHeartbeats 400000 in
theorem inRange_any (n lo hi : Int) (w : World) :
    Calls Tryz.prog 64 #[.int .i64 n, .int .i64 lo, .int .i64 hi] w fun e w' => e = .returned (.bool (inR n lo hi)) ∧ w = w' := by
  go_enter Tryz.func64, Tryz.ntmps64
  go_wp2
  all_goals
    go_ret
    exact ⟨ret_bool (by unfold inR; rw [Bool.eq_iff_iff]; simp; try omega), rfl⟩

set_option maxHeartbeats 400000 in
theorem l6In_any (n lo hi : Int) (w : World) :
    Calls Tryz.prog 110 #[.int .i64 n, .int .i64 lo, .int .i64 hi] w fun e w' => e = .returned (.bool (inR n lo hi)) ∧ w = w' := by
  go_enter Tryz.func110, Tryz.ntmps110
  go_wp2
  all_goals
    go_ret
    exact ⟨ret_bool (by unfold inR; rw [Bool.eq_iff_iff]; simp; try omega), rfl⟩

set_option maxHeartbeats 400000 in
theorem isId_any (n : Int) (w : World) :
    Calls Tryz.prog 44 #[.int .i64 n] w fun e w' => e = .returned (.bool (inR n 0 990)) ∧ w = w' := by
  go_enter Tryz.func44, Tryz.ntmps44
  go_wp2_with (go_at_call 64; refine (inRange_any _ _ _ _).mono ?_; rintro e w' ⟨rfl, rfl⟩)
  go_ret
  exact ⟨rfl, rfl⟩

set_option maxHeartbeats 400000 in
theorem l1Id_any (n : Int) (w : World) :
    Calls Tryz.prog 91 #[.int .i64 n] w fun e w' => e = .returned (.bool (inR n 0 990)) ∧ w = w' := by
  go_enter Tryz.func91, Tryz.ntmps91
  go_wp2_with (go_at_call 110; refine (l6In_any _ _ _ _).mono ?_; rintro e w' ⟨rfl, rfl⟩)
  go_ret
  exact ⟨rfl, rfl⟩

theorem asc_false {l : List Int} {k : Nat} (hk : k < l.length) (h : ascAt l k = false) : asc l = false := ascTo_false h _ hk

set_option maxRecDepth 20000 in
set_option maxHeartbeats 2000000 in
theorem idsOk_any (K : Nat → Bool → Prop) (v : Value) (l : List Int) (w : World) (hv : IntsR K w v l) (hb : l.length ≤ 1000000000) :
    Calls Tryz.prog 26 #[v] w fun e w' => e = .returned (.bool (asc l && decide (l.length ≤ 4))) ∧ Fr w.heap.size [] w w' := by
  obtain ⟨a, cap, rfl, hcap, hcell⟩ := hv.shape
  clear hv
  go_enter Tryz.func26, Tryz.ntmps26
  go_wp2
  go_loopw [7] (fun i wr => ∃ k : Nat, k ≤ l.length ∧ i = .int .i64 k ∧ ascTo l k = true ∧ Fr w.heap.size [] w wr) (fun i _ => l.length - (intOf i).toNat)
  case atStart => exact ⟨0, Nat.zero_le _, rfl, rfl, Fr.refl _ _ _⟩
  case round =>
    obtain ⟨k, hk, rfl, hto, hfr⟩ := hrel
    have HT := hid hto
    clear hto
    by_cases hlt : k < l.length
    · rcases hcell with rfl | ⟨b, off, rfl, hbs, hcell⟩
      · simp at hlt
      · have c0 := hfr.cell hbs (hcell k hlt)
        have hki : (k : Int) < (l.length : Int) := by omega
        cases g1 : inR l[k] 0 990
        · have hz := hid (asc_false hlt (by simp [ascAt, List.getElem?_eq_getElem hlt, g1]))
          clear hcell
          go_wp2_with (go_at_call 44; go_must (refine (isId_any _ _).mono ?_; rintro e w' ⟨rfl, rfl⟩; rw [g1]))
          go_ret
          exact ⟨ret_bool (by rw [hz.out]; rfl), hfr⟩
        rcases Nat.eq_zero_or_pos k with hk0 | hk0
        · have hz := hid (show ascTo l (k + 1) = true by subst hk0; simp [ascTo, ascAt, List.getElem?_eq_getElem hlt, g1])
          have g5 : decide ((0 : Int) < (k : Int)) = false := by simp; omega
          have g6 : ¬ (0 : Int) < (k : Int) := by omega
          have g7 : ¬ 0 < k := by omega
          clear hk0 hcell
          go_wp2_with (go_at_call 44; go_must (refine (isId_any _ _).mono ?_; rintro e w' ⟨rfl, rfl⟩; rw [g1]))
          go_roundw
          case rel => exact ⟨k + 1, by omega, by go_num, hz.out, hfr⟩
          case measure => simp [intOf]; omega
        · obtain ⟨j, rfl⟩ : ∃ j, k = j + 1 := ⟨k - 1, by omega⟩
          have hj : j < l.length := by omega
          have e0 := hfr.cell hbs (hcell j hj)
          clear hcell
          cases g5 : decide (l[j] < l[j + 1])
          · have g6 : l[j + 1] ≤ l[j] := by simpa using g5
            have hz := hid (asc_false hlt (by simp [ascAt, List.getElem?_eq_getElem hlt, g1, List.getElem?_eq_getElem hj, g5]))
            go_wp2_with (go_at_call 44; go_must (refine (isId_any _ _).mono ?_; rintro e w' ⟨rfl, rfl⟩; rw [g1]))
            go_ret
            exact ⟨ret_bool (by rw [hz.out]; rfl), hfr⟩
          · have g6 : l[j] < l[j + 1] := by simpa using g5
            have g7 : ¬ l[j + 1] ≤ l[j] := by omega
            have hz := hid (show ascTo l (j + 1 + 1) = true by
              have h1 : ascAt l (j + 1) = true := by simp [ascAt, List.getElem?_eq_getElem hlt, List.getElem?_eq_getElem hj, g1, g6]
              show (ascTo l (j + 1) && ascAt l (j + 1)) = true
              rw [HT.out, h1]; rfl)
            clear g5
            go_wp2_with (go_at_call 44; go_must (refine (isId_any _ _).mono ?_; rintro e w' ⟨rfl, rfl⟩; rw [g1]))
            go_roundw
            case rel => exact ⟨j + 1 + 1, by omega, by go_num, hz.out, hfr⟩
            case measure => simp [intOf]; omega
    · obtain rfl : k = l.length := by omega
      clear hcell
      go_wp2
      go_ret
      exact ⟨ret_bool (by unfold asc; rw [HT.out]; simp; omega), hfr⟩

set_option maxRecDepth 20000 in
set_option maxHeartbeats 2000000 in
theorem l1Ids_any (K : Nat → Bool → Prop) (v : Value) (l : List Int) (w : World) (hv : IntsR K w v l) (hb : l.length ≤ 1000000000) :
    Calls Tryz.prog 78 #[v] w fun e w' => e = .returned (.bool (asc l)) ∧ Fr w.heap.size [] w w' := by
  obtain ⟨a, cap, rfl, hcap, hcell⟩ := hv.shape
  clear hv
  go_enter Tryz.func78, Tryz.ntmps78
  go_wp2
  go_loopw [3] (fun i wr => ∃ k : Nat, k ≤ l.length ∧ i = .int .i64 k ∧ ascTo l k = true ∧ Fr w.heap.size [] w wr) (fun i _ => l.length - (intOf i).toNat)
  case atStart => exact ⟨0, Nat.zero_le _, rfl, rfl, Fr.refl _ _ _⟩
  case round =>
    obtain ⟨k, hk, rfl, hto, hfr⟩ := hrel
    have HT := hid hto
    clear hto
    by_cases hlt : k < l.length
    · rcases hcell with rfl | ⟨b, off, rfl, hbs, hcell⟩
      · simp at hlt
      · have c0 := hfr.cell hbs (hcell k hlt)
        have hki : (k : Int) < (l.length : Int) := by omega
        cases g1 : inR l[k] 0 990
        · have hz := hid (asc_false hlt (by simp [ascAt, List.getElem?_eq_getElem hlt, g1]))
          clear hcell
          go_wp2
          go_quiet (first | (go_at_call 91; exact quiet_eq (l1Id_any _ _)))
          go_wp2
          go_ret
          exact ⟨ret_bool hz.out.symm, hfr.drewN _⟩
        rcases Nat.eq_zero_or_pos k with hk0 | hk0
        · have hz := hid (show ascTo l (k + 1) = true by subst hk0; simp [ascTo, ascAt, List.getElem?_eq_getElem hlt, g1])
          have g5 : decide ((0 : Int) < (k : Int)) = false := by simp; omega
          have g6 : ¬ (0 : Int) < (k : Int) := by omega
          have g7 : ¬ 0 < k := by omega
          clear hk0 hcell
          go_wp2
          go_quiet (first | (go_at_call 91; exact quiet_eq (l1Id_any _ _)))
          go_wp2
          go_roundw
          case rel => exact ⟨k + 1, by omega, by go_num, hz.out, hfr.drewN _⟩
          case measure => simp [intOf]; omega
        · obtain ⟨j, rfl⟩ : ∃ j, k = j + 1 := ⟨k - 1, by omega⟩
          have hj : j < l.length := by omega
          have e0 := hfr.cell hbs (hcell j hj)
          clear hcell
          cases g5 : decide (l[j] < l[j + 1])
          · have g6 : l[j + 1] ≤ l[j] := by simpa using g5
            have hz := hid (asc_false hlt (by simp [ascAt, List.getElem?_eq_getElem hlt, g1, List.getElem?_eq_getElem hj, g5]))
            go_wp2
            go_quiet (first | (go_at_call 91; exact quiet_eq (l1Id_any _ _)))
            go_wp2
            go_ret
            exact ⟨ret_bool hz.out.symm, hfr.drewN _⟩
          · have g6 : l[j] < l[j + 1] := by simpa using g5
            have g7 : ¬ l[j + 1] ≤ l[j] := by omega
            have hz := hid (show ascTo l (j + 1 + 1) = true by
              have h1 : ascAt l (j + 1) = true := by simp [ascAt, List.getElem?_eq_getElem hlt, List.getElem?_eq_getElem hj, g1, g6]
              show (ascTo l (j + 1) && ascAt l (j + 1)) = true
              rw [HT.out, h1]; rfl)
            clear g5
            go_wp2
            go_quiet (first | (go_at_call 91; exact quiet_eq (l1Id_any _ _)))
            go_wp2
            go_roundw
            case rel => exact ⟨j + 1 + 1, by omega, by go_num, hz.out, hfr.drewN _⟩
            case measure => simp [intOf]; omega
    · obtain rfl : k = l.length := by omega
      clear hcell
      go_wp2
      go_ret
      exact ⟨ret_bool (by unfold asc; rw [HT.out]), hfr⟩

theorem dsizeTo_le {ops : List Opn} (h : ∀ o ∈ ops, o.text.length ≤ 1000) : ∀ k, dsizeTo ops k ≤ k * 1001 := by
  intro k
  induction k with
  | zero => simp [dsizeTo]
  | succ k ih =>
    by_cases hk : k < ops.length
    · rw [dsizeTo_succ hk]
      have := h _ (List.getElem_mem hk)
      omega
    · have e : dsizeTo ops (k + 1) = dsizeTo ops k := by simp [dsizeTo, List.getElem?_eq_none (Nat.le_of_not_lt hk)]
      rw [e]
      exact Nat.le_trans ih (Nat.mul_le_mul_right _ (Nat.le_succ k))

set_option maxRecDepth 20000 in
set_option maxHeartbeats 2000000 in
theorem implDeltaSize_any (K : Nat → Bool → Prop) (v : Value) (ops : List Opn) (w : World) (hv : OpsR K w v ops) (hb : ops.length ≤ 1000) (ht : ∀ o ∈ ops, o.text.length ≤ 1000) :
    Calls Tryz.prog 50 #[v] w fun e w' => e = .returned (.int .i64 (dsize ops)) ∧ Fr w.heap.size [] w w' := by
  obtain ⟨a, cap, rfl, hcap, hcell⟩ := hv.shape
  clear hv
  go_enter Tryz.func50, Tryz.ntmps50
  go_wp2
  go_loopw [3, 10] (fun s i wr => ∃ k : Nat, k ≤ ops.length ∧ i = .int .i64 k ∧ s = .int .i64 ((dsizeTo ops k : Int) + ((ops.length : Int) - (k : Int))) ∧ Fr w.heap.size [] w wr) (fun _ i _ => ops.length - (intOf i).toNat)
  case atStart => exact ⟨0, Nat.zero_le _, rfl, by simp [dsizeTo], Fr.refl _ _ _⟩
  case round =>
    obtain ⟨k, hk, rfl, rfl, hfr⟩ := hrel
    have hle := dsizeTo_le ht k
    by_cases hlt : k < ops.length
    · rcases hcell with rfl | ⟨b, off, rfl, hbs, hcell⟩
      · simp at hlt
      · obtain ⟨h0, h1, h2⟩ := hcell k hlt
        have c0 := hfr.cell hbs h0
        have c1 := hfr.cell hbs h1
        have c2 := hfr.cell hbs h2
        have hts := ht _ (List.getElem_mem hlt)
        have HS := hid (dsizeTo_succ hlt)
        have hsz := tx_size ops[k].text
        have hki : (k : Int) < (ops.length : Int) := by omega
        clear hcell h0 h1 h2
        go_wp2
        go_roundw
        case rel => exact ⟨k + 1, by omega, by go_num, by rw [HS.out]; go_num, hfr.alloc _⟩
        case measure => simp [intOf]; omega
    · obtain rfl : k = ops.length := by omega
      clear hcell
      go_wp2
      go_ret
      exact ⟨ret_int (by unfold dsize; omega), hfr⟩

set_option maxRecDepth 20000 in
set_option maxHeartbeats 2000000 in
theorem specDeltaSize_any (K : Nat → Bool → Prop) (v : Value) (ops : List Opn) (w : World) (hv : OpsR K w v ops) (hb : ops.length ≤ 1000) (ht : ∀ o ∈ ops, o.text.length ≤ 1000) :
    Calls Tryz.prog 79 #[v] w fun e w' => e = .returned (.int .i64 (dsize ops)) ∧ Fr w.heap.size [] w w' := by
  obtain ⟨a, cap, rfl, hcap, hcell⟩ := hv.shape
  clear hv
  go_enter Tryz.func79, Tryz.ntmps79
  go_wp2
  go_loopw [3, 4] (fun s i wr => ∃ k : Nat, k ≤ ops.length ∧ i = .int .i64 k ∧ s = .int .i64 (dsizeTo ops k : Int) ∧ Fr w.heap.size [] w wr) (fun _ i _ => ops.length - (intOf i).toNat)
  case atStart => exact ⟨0, Nat.zero_le _, rfl, by simp [dsizeTo], Fr.refl _ _ _⟩
  case round =>
    obtain ⟨k, hk, rfl, rfl, hfr⟩ := hrel
    have hle := dsizeTo_le ht k
    by_cases hlt : k < ops.length
    · rcases hcell with rfl | ⟨b, off, rfl, hbs, hcell⟩
      · simp at hlt
      · obtain ⟨h0, h1, h2⟩ := hcell k hlt
        have c2 := hfr.cell hbs h2
        have hts := ht _ (List.getElem_mem hlt)
        have HS := hid (dsizeTo_succ hlt)
        have hsz := tx_size ops[k].text
        have hki : (k : Int) < (ops.length : Int) := by omega
        clear hcell h0 h1 h2
        go_wp2
        go_roundw
        case rel => exact ⟨k + 1, by omega, by go_num, by rw [HS.out]; go_num, hfr⟩
        case measure => simp [intOf]; omega
    · obtain rfl : k = ops.length := by omega
      clear hcell
      go_wp2
      go_ret
      exact ⟨rfl, hfr⟩

end Go.Proofs.YtjgbconlpolddaaGreat
