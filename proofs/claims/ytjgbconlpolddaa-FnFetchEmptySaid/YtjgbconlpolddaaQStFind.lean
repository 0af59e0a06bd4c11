/- The program's search for an id. -/
import Derived.Test.YtjgbconlpolddaaQPkStore
import Derived.Test.YtjgbconlpolddaaQM2
import Derived.Test.YtjgbconlpolddaaQPkId
import Derived.Test.YtjgbconlpolddaaQPkSum
set_option linter.unusedVariables false
set_option linter.unusedSimpArgs false
namespace Go.Proofs.Ytjgbconlpolddaa
open Go.RowKit
set_option linter.unusedVariables false

set_option maxRecDepth 20000 in
set_option maxHeartbeats 2000000 in
theorem findCmp_any (K : Nat → Bool → Prop) (v : Value) (o : Ob) (n : Int) (w : World) (hv : IntsR K w v o.links) (hok : obOk o = true) (h0 : 0 ≤ n) (h1 : n ≤ 990) :
    Calls Try.prog 92 #[.agg #[.int .i64 o.kind, v, .string (tx o.text)], .int .i64 n] w fun e w' => e = .returned (.int .i64 (oid o - n)) ∧ Fr w.heap.size [] w w' := by
  obtain ⟨a, cap, rfl, hcap, -⟩ := hv.shape
  have F0 := hid ((Fr.refl w.heap.size [] w).alloc (.cells #[.int .i64 o.kind, .slice a o.links.length cap, .string (tx o.text)] 40))
  have HV := hid (hv.grow F0.out)
  have hoi := oid_in hok
  have OK := hid hok
  clear hv hok
  go_enter Try.func92, Try.ntmps92
  go_wp2_with (go_at_call 51; go_must (refine (id_any _ _ o _ HV.out OK.out).mono ?_; rintro e w1 ⟨rfl, fr1⟩; have F1 := hid (F0.out.trans fr1.nil); clear fr1))
  go_ret
  exact ⟨rfl, F1.out⟩

theorem oid_mono {os : List Ob} (h : stOk os = true) {a b : Nat} (hab : a ≤ b) (hb : b < os.length) : oid (os[a]'(by omega)) ≤ oid os[b] := by
  by_cases e : a = b
  · subst e; exact Int.le_refl _
  · exact Int.le_of_lt (stOk_lt h (by omega) hb)

set_option maxRecDepth 20000 in
set_option maxHeartbeats 4000000 in
theorem bsearch_any (K : Nat → Bool → Prop) (v : Value) (os : List Ob) (n : Int) (w : World) (hv : ObsR K w v os) (hok : stOk os = true) (h0 : 0 ≤ n) (h1 : n ≤ 990) (f : Value) (hf : f = .func (.func 92) #[] #[]) :
    Calls Try.prog 91 #[v, .int .i64 n, f] w fun e w' => e = .returned (.tuple #[.int .i64 (findK os n), .bool (hasK os n)]) ∧ Fr w.heap.size [] w w' := by
  subst hf
  obtain ⟨a, cap, rfl, hcap, hcell⟩ := hv.shape
  have HC := hid hcell
  have OK := hid hok
  have hl16 := (stOk_iff.1 hok).1
  clear hv hcell hok
  go_enter Try.func91, Try.ntmps91
  go_wp2
  go_loopw [9, 10] (fun vl vh wx => ∃ lo hi : Nat, vl = .int .i64 lo ∧ vh = .int .i64 hi ∧ lo ≤ hi ∧ hi ≤ os.length ∧ (∀ j (hj : j < os.length), j < lo → oid os[j] < n) ∧ (∀ j (hj : j < os.length), hi ≤ j → n ≤ oid os[j]) ∧ Fr w.heap.size [] w wx) (fun vl vh _ => (intOf vh).toNat - (intOf vl).toNat)
  case atStart => exact ⟨0, os.length, rfl, rfl, Nat.zero_le _, Nat.le_refl _, fun j hj h => absurd h (Nat.not_lt_zero _), fun j hj h => absurd h (by omega), Fr.refl _ _ _⟩
  case round =>
    obtain ⟨lo, hi, rfl, rfl, hlh, hhn, hlo, hhi, hfr⟩ := hrel
    have LO := hid hlo
    have HI := hid hhi
    clear hlo hhi
    by_cases hlt : lo < hi
    · have hm : (lo + hi) / 2 < os.length := by omega
      rcases HC.out with hh | ⟨b, off, rfl, hbs, hcell⟩
      · rw [hh] at hm; cases hm
      · obtain ⟨u, x0, x1, x2, hu⟩ := hcell _ hm
        obtain ⟨ua, ucap, rfl, _, _⟩ := hu.shape
        have c0 := hfr.cell hbs x0
        have c1 := hfr.cell hbs x1
        have c2 := hfr.cell hbs x2
        have HU := hid (hu.grow hfr)
        have OKm := hid (stOk_at OK.out hm)
        have UP := hid (fun (h : oid os[(lo + hi) / 2] < n) => show ∀ j (hj : j < os.length), j < (lo + hi) / 2 + 1 → oid os[j] < n from fun j hj hjk => Int.lt_of_le_of_lt (oid_mono OK.out (show j ≤ (lo + hi) / 2 by omega) hm) h)
        have DN := hid (fun (h : ¬ oid os[(lo + hi) / 2] < n) => show ∀ j (hj : j < os.length), (lo + hi) / 2 ≤ j → n ≤ oid os[j] from fun j hj hjk => Int.le_trans (by omega) (oid_mono OK.out hjk hj))
        clear hcell x0 x1 x2 hu
        have hih : (lo : Int) < (hi : Int) := by omega
        generalize os[(lo + hi) / 2] = o at *
        have hoi := oid_in OKm.out
        by_cases hlow : oid o < n
        · have UP2 := hid (UP.out hlow)
          have i1 : oid o - n < 0 := by omega
          go_wp2_with (go_at_call 92; go_must (refine (findCmp_any _ _ o n _ HU.out OKm.out h0 h1).mono ?_; rintro e w1 ⟨rfl, fr1⟩; have F1 := hid (hfr.trans fr1.nil); clear fr1))
          go_roundw
          case rel => exact ⟨(lo + hi) / 2 + 1, hi, by rw [show ((lo : Int) + (hi : Int)) / 2 + 1 = (((lo + hi) / 2 + 1 : Nat) : Int) by omega], rfl, by omega, hhn, UP2.out, HI.out, F1.out⟩
          case measure => simp [intOf]; omega
        · have DN2 := hid (DN.out hlow)
          have i1 : ¬ oid o - n < 0 := by omega
          go_wp2_with (go_at_call 92; go_must (refine (findCmp_any _ _ o n _ HU.out OKm.out h0 h1).mono ?_; rintro e w1 ⟨rfl, fr1⟩; have F1 := hid (hfr.trans fr1.nil); clear fr1))
          go_roundw
          case rel => exact ⟨lo, (lo + hi) / 2, rfl, by rw [show ((lo : Int) + (hi : Int)) / 2 = (((lo + hi) / 2 : Nat) : Int) by omega], by omega, by omega, LO.out, DN2.out, F1.out⟩
          case measure => simp [intOf]; omega
    · obtain rfl : hi = lo := by omega
      have EK : findK os n = hi := findK_eq hhn (fun j hj h => LO.out j hj h) (fun h => HI.out hi h (Nat.le_refl _))
      by_cases hin : hi < os.length
      · have HK := hid (show hasK os n = decide (oid os[hi] = n) by
          have := hasK_lt (os := os) (id := n) (by rw [EK]; exact hin)
          simp only [EK] at this
          exact this)
        rcases HC.out with hh | ⟨b, off, rfl, hbs, hcell⟩
        · rw [hh] at hin; cases hin
        · obtain ⟨u, x0, x1, x2, hu⟩ := hcell _ hin
          obtain ⟨ua, ucap, rfl, _, _⟩ := hu.shape
          have c0 := hfr.cell hbs x0
          have c1 := hfr.cell hbs x1
          have c2 := hfr.cell hbs x2
          have HU := hid (hu.grow hfr)
          have OKm := hid (stOk_at OK.out hin)
          have hki : (hi : Int) < (os.length : Int) := by omega
          have EKH := hid EK
          clear hcell x0 x1 x2 hu EK
          generalize os[hi] = o at *
          have hoi := oid_in OKm.out
          by_cases heq : oid o = n
          · have HK2 := hid (show hasK os n = true by rw [HK.out]; simp [heq])
            have i1 : oid o - n = 0 := by omega
            have i2 : (oid o - n == 0) = true := by simp [i1]
            clear heq
            go_wp2_with (go_at_call 92; go_must (refine (findCmp_any _ _ o n _ HU.out OKm.out h0 h1).mono ?_; rintro e w1 ⟨rfl, fr1⟩; have F1 := hid (hfr.trans fr1.nil); clear fr1))
            go_ret2
            rw [HK2.out, EKH.out, ← i2]
            exact ⟨rfl, F1.out⟩
          · have HK2 := hid (show hasK os n = false by rw [HK.out]; simp [heq])
            have i1 : ¬ oid o - n = 0 := by omega
            have i2 : (oid o - n == 0) = false := by simp [i1]
            go_wp2_with (go_at_call 92; go_must (refine (findCmp_any _ _ o n _ HU.out OKm.out h0 h1).mono ?_; rintro e w1 ⟨rfl, fr1⟩; have F1 := hid (hfr.trans fr1.nil); clear fr1))
            go_ret2
            rw [HK2.out, EKH.out, ← i2]
            exact ⟨rfl, F1.out⟩
      · obtain rfl : hi = os.length := by omega
        have HK2 := hid (hasK_end EK)
        have EKH := hid EK
        clear EK
        go_wp2
        go_ret2
        rw [HK2.out, EKH.out]
        exact ⟨rfl, hfr⟩

set_option maxRecDepth 20000 in
set_option maxHeartbeats 4000000 in
theorem findObject_any (K : Nat → Bool → Prop) (v : Value) (os : List Ob) (n : Int) (w : World) (hv : ObsR K w v os) (hok : stOk os = true) (h0 : 0 ≤ n) (h1 : n ≤ 990) :
    Calls Try.prog 59 #[v, .int .i64 n] w fun e w' => e = .returned (.tuple #[.int .i64 (findK os n), .bool (hasK os n)]) ∧ Fr w.heap.size [] w w' := by
  obtain ⟨a, cap, rfl, hcap, -⟩ := hv.shape
  have HV := hid hv
  have OK := hid hok
  clear hv hok
  go_enter Try.func59, Try.ntmps59
  go_wp2_with (go_at_call 91; go_must (refine (bsearch_any K _ os n _ HV.out OK.out h0 h1 _ rfl).mono ?_; rintro e w1 ⟨rfl, fr1⟩; have F1 := hid fr1; clear fr1))
  go_ret2
  exact ⟨rfl, F1.out⟩

end Go.Proofs.Ytjgbconlpolddaa
