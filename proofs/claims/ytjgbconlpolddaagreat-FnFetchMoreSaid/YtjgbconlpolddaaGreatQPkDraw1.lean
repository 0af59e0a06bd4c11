/- Draws of texts and ids; sorted ids. -/
import Derived.Test.YtjgbconlpolddaaGreatQM2
import Derived.Test.YtjgbconlpolddaaGreatQPkPackS2
import Derived.Laws.IdiomStrings
set_option linter.unusedVariables false
set_option linter.unusedSimpArgs false
namespace Go.Proofs.YtjgbconlpolddaaGreat
open Go.RowKit
set_option linter.unusedVariables false

set_option maxRecDepth 20000 in
set_option maxHeartbeats 2000000 in
theorem l1Has_any (K : Nat → Bool → Prop) (v : Value) (l : List Int) (n : Int) (w : World) (hv : IntsR K w v l) (hl : l.length ≤ 1000000000) :
    Calls Tryz.prog 54 #[v, .int .i64 n] w fun e w' => e = .returned (.bool (l.contains n)) ∧ w = w' := by
  obtain ⟨a, cap, rfl, hcap, hcell⟩ := hv.shape
  clear hv
  go_enter Tryz.func54, Tryz.ntmps54
  go_wp2
  go_loopw [5] (fun vi wx => ∃ k : Nat, k ≤ l.length ∧ vi = .int .i64 k ∧ n ∉ l.take k ∧ wx = w) (fun vi _ => l.length - (intOf vi).toNat)
  case atStart => exact ⟨0, Nat.zero_le _, rfl, by simp, rfl⟩
  case round =>
    obtain ⟨k, hk, rfl, hno, rfl⟩ := hrel
    have HN := hid hno
    clear hno
    by_cases hlt : k < l.length
    · rcases hcell with hh | ⟨b, off, rfl, hbs, hcell⟩
      · rw [hh] at hlt; cases hlt
      · have c0 := hcell k hlt
        have hki : (k : Int) < (l.length : Int) := by omega
        clear hcell
        by_cases he : l[k] = n
        · have e1 : (l[k] == n) = true := by simp [he]
          have HC := hid (show l.contains n = true by rw [List.contains_iff_mem, ← he]; exact List.getElem_mem hlt)
          clear he
          go_wp2
          go_ret
          exact ⟨ret_bool HC.out.symm, rfl⟩
        · have e1 : (l[k] == n) = false := by simp [he]
          have HN1 := hid (show n ∉ l.take (k + 1) by
            rw [List.take_succ_eq_append_getElem hlt, List.mem_append]
            rintro (h | h)
            · exact HN.out h
            · simp at h; exact he h.symm)
          clear he
          go_wp2
          go_roundw
          case rel => exact ⟨k + 1, by omega, by go_num, HN1.out, (by first | rfl | trivial)⟩
          case measure => simp [intOf]; omega
    · obtain rfl : k = l.length := by omega
      have HC := hid (show l.contains n = false by
        have := HN.out
        rw [List.take_length] at this
        simpa using this)
      clear hcell
      go_wp2
      go_ret
      exact ⟨ret_bool HC.out.symm, rfl⟩

/-- The ids below k that are in the list. -/
def sortedTo (l : List Int) : Nat → List Int
  | 0 => []
  | k + 1 => if l.contains (k : Int) then sortedTo l k ++ [(k : Int)] else sortedTo l k

theorem sortedTo_len (l : List Int) (k : Nat) : (sortedTo l k).length ≤ k := by
  induction k with
  | zero => simp [sortedTo]
  | succ k ih =>
    unfold sortedTo
    split
    · simp; omega
    · omega

theorem oneInt (n : Int) : ∀ u ∈ [Value.int .i64 n], u.oneCell' = true := by
  intro u hu
  simp at hu
  subst hu; rfl

set_option maxRecDepth 20000 in
set_option maxHeartbeats 2000000 in
theorem l1Sorted_any (K : Nat → Bool → Prop) (v : Value) (l : List Int) (w : World) (hv : IntsR K w v l) (hl : l.length ≤ 1000000000) :
    Calls Tryz.prog 69 #[v] w fun e w' => ∃ v', e = .returned v' ∧ w'.ownsRow w.heap.size 3 1 v' (sortedTo l 991).length ((sortedTo l 991).map (Value.int .i64)) ∧ Fr w.heap.size [] w w' := by
  obtain ⟨a, cap, rfl, hcap, hcell⟩ := hv.shape
  obtain ⟨i0, hi, hz0, hz1, hz2⟩ := info_parts infoI
  have HV := hid hv
  clear hv hcell
  go_enter Tryz.func69, Tryz.ntmps69
  go_wp2
  go_loopw [3, 4] (fun vo vi wx => ∃ k : Nat, k ≤ 991 ∧ vi = .int .i64 k ∧ wx.ownsRow w.heap.size 3 1 vo (sortedTo l k).length ((sortedTo l k).map (Value.int .i64)) ∧ Fr w.heap.size [] w wx) (fun _ vi _ => 991 - (intOf vi).toNat)
  case atStart => exact ⟨0, Nat.zero_le _, rfl, World.ownsRow_lit (e := 3) (size := 1) w #[] 0 (Nat.le_refl _) (by decide) rfl, (Fr.refl _ _ _).alloc _⟩
  case round =>
    obtain ⟨k, hk, rfl, hown, hfr⟩ := hrel
    have OWN := hid hown
    obtain ⟨oa, ocap, rfl⟩ := own_any hown
    have hls := hfr.size
    have hsl := sortedTo_len l k
    clear hown
    by_cases hlt : k < 991
    · have hki : (k : Int) < 991 := by omega
      by_cases hc : l.contains (k : Int) = true
      · have HC := hid hc
        have HS := hid (show sortedTo l (k + 1) = sortedTo l k ++ [(k : Int)] by show (if _ then _ else _) = _; rw [if_pos hc])
        clear hc
        go_wp2_with (first
          | (go_at_call 54; go_must (refine (l1Has_any K _ l _ _ (HV.out.grow hfr) hl).mono ?_; rintro e w1 ⟨rfl, rfl⟩; rw [HC.out]))
          | (at_builtin; go_must (refine wpList_push rfl (.tmp 13) (.tmp 15) 24 rfl w.heap.size 3 i0 (.int .i64 0) 1 8 Tryz.underlying24 hi hz0 hz1 hz2 rfl (by decide) _ _ _ OWN.out rfl (oneInt _) (by unfold maxLen; omega) (by omega) (by omega) (by rfl) _ (by rfl) (by simp [World.setCell]) ?_; intro v4 w4 own4 fr4 _; have OWN4 := hid own4; have F4 := hid (hfr.after fr4); clear own4 fr4)))
        go_roundw
        case rel => exact ⟨k + 1, by omega, by go_num, by rw [HS.out, List.map_append, List.length_append]; exact OWN4.out, F4.out⟩
        case measure => simp [intOf]; omega
      · have hc2 : l.contains (k : Int) = false := by simpa using hc
        have HC := hid hc2
        have HS := hid (show sortedTo l (k + 1) = sortedTo l k by show (if _ then _ else _) = _; rw [if_neg hc])
        clear hc hc2
        go_wp2_with (go_at_call 54; go_must (refine (l1Has_any K _ l _ _ (HV.out.grow hfr) hl).mono ?_; rintro e w1 ⟨rfl, rfl⟩; rw [HC.out]))
        go_roundw
        case rel => exact ⟨k + 1, by omega, by go_num, by rw [HS.out]; exact OWN.out, hfr⟩
        case measure => simp [intOf]; omega
    · obtain rfl : k = 991 := by omega
      go_wp2
      go_ret
      exact ⟨_, rfl, OWN.out, hfr⟩

theorem conv_one (w : World) (k : Nat) (hk : k ≤ 100) : ∃ b : UInt8, (convert 22 9 (.slice (some ⟨w.heap.size, 0, none⟩) 1 1)).run Tryz.prog (w.alloc (.cells #[.int .u8 (97 + (k : Int))] 5)) = .ok (.string (tx [b])) (w.alloc (.cells #[.int .u8 (97 + (k : Int))] 5)) := by
  have hb : (UInt8.ofNat (97 + k)).toNat = 97 + k := by rw [UInt8.toNat_ofNat']; omega
  refine ⟨UInt8.ofNat (97 + k), run_convert_bytes_back (P := Tryz.prog) (w.alloc (.cells #[.int .u8 (97 + (k : Int))] 5)) 22 9 5 ⟨w.heap.size, 0, none⟩ 1 [UInt8.ofNat (97 + k)] Tryz.underlying22 Tryz.underlying5 Tryz.underlying9 (fun j hj => ?_)⟩
  have hj0 : j = 0 := by simpa using hj
  subst hj0
  have hc := cell_of (o := 0) (heap_alloc_new w (.cells #[.int .u8 (97 + (k : Int))] 5)) rfl
  show (w.alloc (.cells #[.int .u8 (97 + (k : Int))] 5)).cell? ⟨w.heap.size, 0, none⟩ = some (.int .u8 (((UInt8.ofNat (97 + k)).toNat : Nat) : Int))
  rw [hb, hc]
  simp

set_option maxRecDepth 20000 in
set_option maxHeartbeats 2000000 in
theorem l91Text_any {B r p : Nat} {w : World} (hR : Rdr B w r p) (hp : p ≤ 999999000) :
    Calls Tryz.prog 106 #[.pointer (some ⟨r, 0, none⟩)] w fun e w' => ∃ (t : Tx) (q : Nat), e = .returned (.string (tx t)) ∧ t.length ≤ 9 ∧ Rdr B w' r q ∧ q ≤ p + 20 ∧ Fr B [110] w w' := by
  have hB : B ≤ w.heap.size := Nat.le_trans hR.1 (Nat.le_of_lt hR.lt)
  have HR0 := hid hR
  go_enter Tryz.func106, Tryz.ntmps106
  go_wp2_with (first
    | (go_at_call 68; (with_reducible refine (pick_at (n := 9) HR0.out (by omega)).mono ?_); go_must (rintro e w1 ⟨k1, rfl, hk1, hR1, hf1⟩; have HR1 := hid hR1))
    | (go_at_call 68; (with_reducible refine (pick_at (n := 24) HR1.out (by omega)).mono ?_); go_must (rintro e w2 ⟨k2, rfl, hk2, hR2, hf2⟩; have HR2 := hid hR2))
    | (go_at_call 68; (with_reducible refine (pick_at (n := 2) HR2.out (by omega)).mono ?_); go_must (rintro e w3 ⟨k3, rfl, hk3, hR3, hf3⟩; have HR3 := hid hR3)))
  · have hN : 8 + k3 ≤ 9 := by omega
    obtain ⟨N, hNe⟩ : ∃ N, 8 + k3 = N := ⟨_, rfl⟩
    have hNi : (8 : Int) + (k3 : Int) = (N : Int) := by omega
    have F0 := hid ((hf1.trans hf2).trans hf3)
    rw [hNi]
    clear hNi
    rw [hNe] at hN
    go_loopw [3, 5] (fun vo vi wx => ∃ (k q : Nat) (t : Tx), k ≤ N ∧ vi = .int .i64 k ∧ vo = .string (tx t) ∧ t.length = k ∧ Rdr B wx r q ∧ q ≤ p + 3 + k ∧ Fr B [110] w wx) (fun _ vi _ => N - (intOf vi).toNat)
    case atStart => exact ⟨0, _, [], Nat.zero_le _, rfl, rfl, rfl, HR3.out, by omega, F0.out⟩
    case round =>
      obtain ⟨k, q, t, hk, rfl, rfl, ht, hR5, hq, hfr⟩ := hrel
      have HR5 := hid hR5
      by_cases hlt : k < N
      · have hki : (k : Int) < (N : Int) := by omega
        have hst := tx_size t
        go_wp2_with (go_at_call 68; go_must (refine (pick_at (n := 3) HR5.out (by omega)).mono ?_; rintro e w6 ⟨k6, rfl, hk6, hR6, hf6⟩; have HR6 := hid hR6; have F6 := hid (hfr.trans hf6); obtain ⟨b6, hcv⟩ := conv_one w6 k6 (by omega); have hst1 := tx_size [b6]; have hap := tx_append t [b6]; have hsum : t.length + 1 ≤ 9223372036854775807 := (by omega); clear hR6))
        go_roundw
        case rel => exact ⟨k + 1, _, t ++ [b6], by omega, by go_num, rfl, by simp [ht], HR6.out.alloc _, by omega, F6.out.alloc _⟩
        case measure => simp [intOf]; omega
      · obtain rfl : k = N := by omega
        go_wp2
        go_ret
        exact ⟨t, _, rfl, by omega, HR5.out, by omega, hfr⟩
  · have hN : k1 ≤ 9 := by omega
    have F0 := hid (hf1.trans hf2)
    have hk20 : ((k2 : Int) == 0) = false := by assumption
    rw [hk20]
    go_loopw [3, 5] (fun vo vi wx => ∃ (k q : Nat) (t : Tx), k ≤ k1 ∧ vi = .int .i64 k ∧ vo = .string (tx t) ∧ t.length = k ∧ Rdr B wx r q ∧ q ≤ p + 3 + k ∧ Fr B [110] w wx) (fun _ vi _ => k1 - (intOf vi).toNat)
    case atStart => exact ⟨0, _, [], Nat.zero_le _, rfl, rfl, rfl, HR2.out, by omega, F0.out⟩
    case round =>
      obtain ⟨k, q, t, hk, rfl, rfl, ht, hR5, hq, hfr⟩ := hrel
      have HR5 := hid hR5
      by_cases hlt : k < k1
      · have hki : (k : Int) < (k1 : Int) := by omega
        have hst := tx_size t
        go_wp2_with (go_at_call 68; go_must (refine (pick_at (n := 3) HR5.out (by omega)).mono ?_; rintro e w6 ⟨k6, rfl, hk6, hR6, hf6⟩; have HR6 := hid hR6; have F6 := hid (hfr.trans hf6); obtain ⟨b6, hcv⟩ := conv_one w6 k6 (by omega); have hst1 := tx_size [b6]; have hap := tx_append t [b6]; have hsum : t.length + 1 ≤ 9223372036854775807 := (by omega); clear hR6))
        go_roundw
        case rel => exact ⟨k + 1, _, t ++ [b6], by omega, by go_num, rfl, by simp [ht], HR6.out.alloc _, by omega, F6.out.alloc _⟩
        case measure => simp [intOf]; omega
      · obtain rfl : k = k1 := by omega
        go_wp2
        go_ret
        exact ⟨t, _, rfl, by omega, HR5.out, by omega, hfr⟩

end Go.Proofs.YtjgbconlpolddaaGreat
