/- The longest part of a base with which a text begins: the walks. -/
import Derived.Test.YtjgbconlpolddaaGreatQM3
set_option linter.unusedVariables false
set_option linter.unusedSimpArgs false
namespace Go.Proofs.YtjgbconlpolddaaGreat
open Go.RowKit
set_option linter.unusedVariables false

theorem tx_extract (t : Tx) (a b : Nat) : (tx t).extract a b = tx ((t.drop a).take (b - a)) := by
  rw [Lib.extract_eq, tx_data]; rfl

/-- internal/bytealg.MaxLen holds some number. -/
def Glob (w : World) : Prop := ∃ m, w.cell? ⟨0, 0, none⟩ = some (.int .i64 m)

theorem Glob.keep {B : Nat} {T : List Nat} {w w' : World} (h : Glob w) (hf : Fr B T w w') (hB : 0 < B) : Glob w' := by
  obtain ⟨m, hm⟩ := h
  exact ⟨m, hf.cell hB hm⟩

theorem Glob.grow {w w' : World} (h : Glob w) (hf : Fr w.heap.size [] w w') : Glob w' := by
  obtain ⟨m, hm⟩ := h
  exact ⟨m, hf.cell (World.block_lt_of_cell? _ _ hm) hm⟩

theorem bestTo_le (b t : Tx) (k : Nat) : (bestTo b t k).2 ≤ t.length := by
  rcases (bestTo_spec b t k).2 with h | ⟨_, _, h, _⟩
  · rw [h]; simp
  · rw [← h]; exact pre_le_right _ _

theorem pre_lt : ∀ (n : Nat) (a t : Tx), n ≤ pre a t → ∀ (h1 : n < t.length) (h2 : n < a.length), (n < pre a t ↔ a[n] = t[n])
  | n, [], t, _, _, h2 => by simp at h2
  | n, x :: a, [], _, h1, _ => by simp at h1
  | 0, x :: a, y :: t, _, _, _ => by
    unfold pre
    split
    · rename_i e; simp [e]
    · rename_i e; simp [e]
  | n + 1, x :: a, y :: t, h, h1, h2 => by
    unfold pre at h ⊢
    split at h
    · rename_i e
      rw [if_pos e]
      have := pre_lt n a t (by omega) (by simpa using h1) (by simpa using h2)
      simp only [List.getElem_cons_succ]
      rw [Nat.add_lt_add_iff_right]
      exact this
    · omega

set_option maxRecDepth 20000 in
set_option maxHeartbeats 2000000 in
theorem longest_any (b t : Tx) (w : World) (hg : Glob w) (hb : b.length ≤ 8) (ht : t.length ≤ 8) :
    Calls Tryz.prog 75 #[.string (tx b), .string (tx t)] w fun e w' => e = .returned (.tuple #[.int .i64 (best b t).1, .int .i64 (best b t).2]) ∧ w' = w := by
  have hsb := tx_size b
  have hst := tx_size t
  obtain ⟨m, hm⟩ := hg
  go_enter Tryz.func75, Tryz.ntmps75
  go_wp2
  go_loopw [6] (fun v wx => ∃ s : Nat, s ≤ b.length ∧ s ≤ t.length ∧ v = .int .i64 s ∧ (∀ i, i < b.length → pre (b.drop i) t ≤ s) ∧ wx = w) (fun v _ => (intOf v).toNat)
  case atStart =>
    refine ⟨min b.length t.length, Nat.min_le_left _ _, Nat.min_le_right _ _, by congr 1; omega, fun i hi => ?_, rfl⟩
    have h1 := pre_le_left (b.drop i) t
    have h2 := pre_le_right (b.drop i) t
    rw [List.length_drop] at h1
    omega
  case round =>
    obtain ⟨s, hs1, hs2, rfl, hle, rfl⟩ := hrel
    have HLE := hid hle
    clear hle
    rcases Nat.eq_zero_or_pos s with h0 | h0
    · subst h0
      have HB := hid (best_none HLE.out)
      go_wp2
      go_ret2
      exact ⟨by rw [HB.out]; rfl, rfl⟩
    · have g0 : (0 : Int) < (s : Int) := by omega
      have g1 : (s : Int) ≤ (t.length : Int) := by omega
      have hex : (tx t).extract 0 s = tx (t.take s) := by rw [tx_extract]; simp
      have hocc : ∀ i, Lib.occAt b (t.take s) i = true ↔ s ≤ pre (b.drop i) t := fun i => pre_iff s (b.drop i) t hs2
      rcases Lib.index_spec b (t.take s) with ⟨hi, hno⟩ | ⟨i, hi, hil, hoc, hno⟩
      · have HI := hid hi
        have HNO := hid (show ∀ i, i < b.length → pre (b.drop i) t ≤ s - 1 from fun i hib => by
          have h1 := hno i (by omega)
          have h2 : ¬ s ≤ pre (b.drop i) t := fun h => by rw [(hocc i).2 h] at h1; cases h1
          omega)
        clear hi hno hocc
        go_wp2_with (go_at_call 89; go_must (refine (Tryz.strings_Index (tx b) (tx (t.take s)) m _ (by rw [hsb]; omega) hm).mono ?_; rintro e w' ⟨rfl, rfl⟩; rw [tx_data, tx_data, HI.out]))
        go_roundw
        case rel => exact ⟨s - 1, by omega, by omega, by congr 1; omega, HNO.out, (by first | rfl | trivial)⟩
        case measure => simp [intOf]; omega
      · have HI := hid hi
        have hib : i < b.length := by
          have h1 := (hocc i).1 hoc
          have h2 := pre_le_left (b.drop i) t
          rw [List.length_drop] at h2
          omega
        have HB := hid (best_at hib h0 HLE.out ((hocc i).1 hoc) (fun j hj => by
          have h1 := hno j hj
          have h2 : ¬ s ≤ pre (b.drop j) t := fun h => by rw [(hocc j).2 h] at h1; cases h1
          omega))
        clear hi hno hocc hoc
        go_wp2_with (go_at_call 89; go_must (refine (Tryz.strings_Index (tx b) (tx (t.take s)) m _ (by rw [hsb]; omega) hm).mono ?_; rintro e w' ⟨rfl, rfl⟩; rw [tx_data, tx_data, HI.out]))
        go_ret2
        exact ⟨by rw [HB.out]; rfl, rfl⟩

set_option maxRecDepth 20000 in
set_option maxHeartbeats 2000000 in
theorem l2Longest_any (b t : Tx) (w : World) (hb : b.length ≤ 8) (ht : t.length ≤ 8) :
    Calls Tryz.prog 81 #[.string (tx b), .string (tx t)] w fun e w' => e = .returned (.tuple #[.int .i64 (best b t).1, .int .i64 (best b t).2]) ∧ Fr w.heap.size [] w w' := by
  have hsb := tx_size b
  have hst := tx_size t
  go_enter Tryz.func81, Tryz.ntmps81
  go_wp2
  go_loopw [6, 7, 8] (fun va vm vi wx => ∃ k : Nat, k ≤ b.length ∧ vi = .int .i64 k ∧ va = .int .i64 (bestTo b t k).1 ∧ vm = .int .i64 (bestTo b t k).2 ∧ Fr w.heap.size [] w wx) (fun _ _ vi _ => b.length - (intOf vi).toNat)
  case atStart => exact ⟨0, Nat.zero_le _, rfl, rfl, rfl, Fr.refl _ _ _⟩
  case round =>
    obtain ⟨k, hk, rfl, rfl, rfl, hfr⟩ := hrel
    by_cases hlt : k < b.length
    · have hki : (k : Int) < (b.length : Int) := by omega
      have hbd : (bestTo b t k).2 ≤ 8 := Nat.le_trans (bestTo_le b t k) ht
      go_wp2
      go_loopw [9] (fun vn wx => ∃ n : Nat, n ≤ pre (b.drop k) t ∧ vn = .int .i64 n ∧ Fr w.heap.size [] w wx) (fun vn _ => t.length - (intOf vn).toNat)
      case atStart => exact ⟨0, Nat.zero_le _, rfl, hfr⟩
      case round =>
        obtain ⟨n, hn, rfl, hfx⟩ := hrel
        have hpl := pre_le_left (b.drop k) t
        have hpr := pre_le_right (b.drop k) t
        rw [List.length_drop] at hpl
        have hwr : IntKind.i64.wrap ((k : Int) + (n : Int)) = (k : Int) + (n : Int) := by rw [IntKind.wrap_i64]; omega
        by_cases h1 : n < t.length
        · have i1 : (n : Int) < (t.length : Int) := by omega
          by_cases h2 : k + n < b.length
          · have h3 := pre_lt n (b.drop k) t hn h1 (by rw [List.length_drop]; omega)
            rw [List.getElem_drop] at h3
            have i2 : (k : Int) + (n : Int) < (b.length : Int) := by omega
            have i3 : decide ((k : Int) + (n : Int) < (b.length : Int)) = true := by simp; omega
            have i4 : (0 : Int) ≤ (k : Int) + (n : Int) := by omega
            have i5 : ((k : Int) + (n : Int)).toNat = k + n := by omega
            have e1 : (tx b)[k + n]'(by rw [tx_size]; exact h2) = b[k + n] := rfl
            have e2 : (tx t)[n]'(by rw [tx_size]; exact h1) = t[n] := rfl
            have H3 := hid h3
            clear h3
            by_cases h4 : b[k + n] = t[n]
            · have e3 : (((b[k + n].toNat : Nat) : Int) == ((t[n].toNat : Nat) : Int)) = true := by rw [h4]; simp
              have hz := H3.out.2 h4
              go_wp2
              first | go_quiet (fail)
              go_wp2
              go_roundw
              case rel => exact ⟨n + 1, by omega, by go_num, hfx.drewN _⟩
              case measure => simp [intOf]; omega
            · have e3 : (((b[k + n].toNat : Nat) : Int) == ((t[n].toNat : Nat) : Int)) = false := by
                rw [beq_eq_false_iff_ne]
                intro h
                exact h4 (UInt8.toNat_inj.1 (by omega))
              have hz : n = pre (b.drop k) t := by
                have hnl : ¬ n < pre (b.drop k) t := fun h => h4 (H3.out.1 h)
                omega
              by_cases hgt : (bestTo b t k).2 < n
              · have HB := hid (show bestTo b t (k + 1) = (k, n) by unfold bestTo; rw [← hz, if_pos hgt])
                have g1 : ((bestTo b t k).2 : Int) < (n : Int) := by omega
                clear hz
                go_wp2
                first | go_quiet (fail)
                go_wp2
                go_roundw
                case rel => exact ⟨k + 1, by omega, by go_num, by rw [HB.out], by rw [HB.out], hfx.drewN _⟩
                case measure => simp [intOf]; omega
              · have HB := hid (show bestTo b t (k + 1) = bestTo b t k by show (if _ then _ else _) = _; rw [← hz, if_neg hgt])
                have g1 : ¬ ((bestTo b t k).2 : Int) < (n : Int) := by omega
                clear hz
                go_wp2
                first | go_quiet (fail)
                go_wp2
                go_roundw
                case rel => exact ⟨k + 1, by omega, by go_num, by rw [HB.out], by rw [HB.out], hfx.drewN _⟩
                case measure => simp [intOf]; omega
          · have i2 : ¬ (k : Int) + (n : Int) < (b.length : Int) := by omega
            have i3 : decide ((k : Int) + (n : Int) < (b.length : Int)) = false := by simp; omega
            have hz : n = pre (b.drop k) t := by omega
            by_cases hgt : (bestTo b t k).2 < n
            · have HB := hid (show bestTo b t (k + 1) = (k, n) by unfold bestTo; rw [← hz, if_pos hgt])
              have g1 : ((bestTo b t k).2 : Int) < (n : Int) := by omega
              clear hz
              go_wp2
              first | go_quiet (fail)
              go_wp2
              go_roundw
              case rel => exact ⟨k + 1, by omega, by go_num, by rw [HB.out], by rw [HB.out], hfx.drewN _⟩
              case measure => simp [intOf]; omega
            · have HB := hid (show bestTo b t (k + 1) = bestTo b t k by show (if _ then _ else _) = _; rw [← hz, if_neg hgt])
              have g1 : ¬ ((bestTo b t k).2 : Int) < (n : Int) := by omega
              clear hz
              go_wp2
              first | go_quiet (fail)
              go_wp2
              go_roundw
              case rel => exact ⟨k + 1, by omega, by go_num, by rw [HB.out], by rw [HB.out], hfx.drewN _⟩
              case measure => simp [intOf]; omega
        · have i1 : ¬ (n : Int) < (t.length : Int) := by omega
          have i3 : decide ((n : Int) < (t.length : Int)) = false := by simp; omega
          have hz : n = pre (b.drop k) t := by omega
          by_cases hgt : (bestTo b t k).2 < n
          · have HB := hid (show bestTo b t (k + 1) = (k, n) by unfold bestTo; rw [← hz, if_pos hgt])
            have g1 : ((bestTo b t k).2 : Int) < (n : Int) := by omega
            clear hz
            go_wp2
            first | go_quiet (fail)
            go_wp2
            go_roundw
            case rel => exact ⟨k + 1, by omega, by go_num, by rw [HB.out], by rw [HB.out], hfx.drewN _⟩
            case measure => simp [intOf]; omega
          · have HB := hid (show bestTo b t (k + 1) = bestTo b t k by show (if _ then _ else _) = _; rw [← hz, if_neg hgt])
            have g1 : ¬ ((bestTo b t k).2 : Int) < (n : Int) := by omega
            clear hz
            go_wp2
            first | go_quiet (fail)
            go_wp2
            go_roundw
            case rel => exact ⟨k + 1, by omega, by go_num, by rw [HB.out], by rw [HB.out], hfx.drewN _⟩
            case measure => simp [intOf]; omega
    · obtain rfl : k = b.length := by omega
      go_wp2
      go_ret2
      exact ⟨rfl, hfr⟩

end Go.Proofs.YtjgbconlpolddaaGreat
