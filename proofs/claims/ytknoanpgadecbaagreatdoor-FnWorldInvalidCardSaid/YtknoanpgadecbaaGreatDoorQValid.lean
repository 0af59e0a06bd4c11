/- UpdatesValid, the program's and the reference's. -/
import Derived.Test.YtknoanpgadecbaaGreatDoorQM2
import Derived.Deep.QuietTactic
import Derived.BigQuiet
set_option linter.unusedVariables false
set_option linter.unusedSimpArgs false
namespace Go.Proofs.YtknoanpgadecbaaGreatDoor
open Go.RowKit
set_option linter.unusedVariables false

theorem quiet_eq {P : Program} {f : FuncId} {args : Array Value} {w : World} {n : Nat} {v : Value}
  (h : Calls P f args (w.drewN n) fun e w' => e = .returned v ∧ w.drewN n = w') : Calls P f args (w.drewN n) fun e w'' => e = .returned v ∧ ∃ m, w'' = w.drewN m :=
 h.mono fun _ _ ⟨he, hm⟩ => ⟨he, n, hm.symm⟩

theorem updsOk_false {us : List Upd} {k : Nat} (hk : k < us.length) (h : updAt us k = false) : updsOk us = false := by
 simp [updsOk, updsTo_false h _ hk]

theorem updsOk_true {us : List Upd} (h : updsTo us us.length = true) : updsOk us = decide (0 < us.length) := by simp [updsOk, h]

set_option maxHeartbeats 2000000 in
theorem specUpdatesValid_any (K : Nat → Bool → Prop) (v : Value) (us : List Upd) (w : World) (hv : UpsR K w v us) (hb : us.length ≤ 1000000000) :
  Calls Tryz.prog 114 #[v] w fun e w' => e = .returned (.bool (updsOk us)) ∧ Fr w.heap.size [] w w' := by
 obtain ⟨a, cap, rfl, hcap, hcell⟩ := hv.shape
 go_enter Tryz.func114, Tryz.ntmps114
 go_wp2
 go_loopw [3] (fun i wr => ∃ k : Nat, k ≤ us.length ∧ i = .int .i64 k ∧ updsTo us k = true ∧ Fr w.heap.size [] w wr) (fun i _ => us.length - (intOf i).toNat)
 case atStart => exact ⟨0, Nat.zero_le _, rfl, rfl, Fr.refl _ _ _⟩
 case round =>
  obtain ⟨k, hk, rfl, hto, hfr⟩ := hrel
  have HT := hid hto
  clear hto
  by_cases hlt : k < us.length
  ·rcases hcell with rfl | ⟨b, off, rfl, hbs, hcell⟩
   ·simp at hlt
   ·obtain ⟨h0, h1, h2⟩ := hcell k hlt
    have c0 := hfr.cell hbs h0
    have c1 := hfr.cell hbs h1
    have c2 := hfr.cell hbs h2
    have hbr : b < wr.heap.size := Nat.lt_of_lt_of_le hbs hfr.size
    clear h0 h1 h2
    cases g1 : inR us[k].ref 0 3
    ·have hz := hid (updsOk_false (us := us) hlt (by simp [updAt, updOk, List.getElem?_eq_getElem hlt, g1]))
     go_wp2
     go_quiet (first | (go_at_call 22; exact quiet_eq (l6In_any _ _ _ _)) | (go_at_call 154; exact quiet_eq (l11Value_any _ _)))
     go_wp2
     go_ret
     exact ⟨ret_bool hz.out.symm, (hfr.alloc _).drewN _⟩
    cases g2 : inR us[k].old (-1) 990
    ·have hz := hid (updsOk_false (us := us) hlt (by simp [updAt, updOk, List.getElem?_eq_getElem hlt, g1, g2]))
     go_wp2
     go_quiet (first | (go_at_call 22; exact quiet_eq (l6In_any _ _ _ _)) | (go_at_call 154; exact quiet_eq (l11Value_any _ _)))
     go_wp2
     go_ret
     exact ⟨ret_bool hz.out.symm, (hfr.alloc _).drewN _⟩
    cases g3 : inR us[k].new (-1) 990
    ·have hz := hid (updsOk_false (us := us) hlt (by simp [updAt, updOk, List.getElem?_eq_getElem hlt, g1, g2, g3]))
     go_wp2
     go_quiet (first | (go_at_call 22; exact quiet_eq (l6In_any _ _ _ _)) | (go_at_call 154; exact quiet_eq (l11Value_any _ _)))
     go_wp2
     go_ret
     exact ⟨ret_bool hz.out.symm, (hfr.alloc _).drewN _⟩
    cases g4 : us[k].old == us[k].new
    case true =>
     have hz := hid (updsOk_false (us := us) hlt (by simp [updAt, updOk, List.getElem?_eq_getElem hlt, g1, g2, g3, g4]))
     go_wp2
     go_quiet (first | (go_at_call 22; exact quiet_eq (l6In_any _ _ _ _)) | (go_at_call 154; exact quiet_eq (l11Value_any _ _)))
     go_wp2
     go_ret
     exact ⟨ret_bool hz.out.symm, (hfr.alloc _).drewN _⟩
    rcases Nat.eq_zero_or_pos k with hk0 | hk0
    ·have hz := hid (show updsTo us (k + 1) = true by subst hk0; simp [updsTo, updAt, updOk, List.getElem?_eq_getElem hlt, g1, g2, g3, g4])
     have g5 : decide ((0 : Int) < (k : Int)) = false := by simp; omega
     have g6 : ¬ (0 : Int) < (k : Int) := by omega
     have g7 : ¬ 0 < k := by omega
     clear hk0
     go_wp2
     go_quiet (first | (go_at_call 22; exact quiet_eq (l6In_any _ _ _ _)) | (go_at_call 154; exact quiet_eq (l11Value_any _ _)))
     go_wp2
     go_roundw
     case rel => exact ⟨k + 1, by omega, by go_num, hz.out, (hfr.alloc _).drewN _⟩
     case measure => simp [intOf]; omega
    ·obtain ⟨j, rfl⟩ : ∃ j, k = j + 1 := ⟨k - 1, by omega⟩
     have hj : j < us.length := by omega
     obtain ⟨d0, _, _⟩ := hcell j hj
     have e0 := hfr.cell hbs d0
     clear d0
     cases g5 : decide (us[j].ref < us[j + 1].ref)
     ·have g6 : us[j + 1].ref ≤ us[j].ref := by simpa using g5
      have hz := hid (updsOk_false (us := us) hlt (by simp [updAt, updOk, List.getElem?_eq_getElem hlt, g1, g2, g3, g4, List.getElem?_eq_getElem hj, g5]))
      go_wp2
      go_quiet (first | (go_at_call 22; exact quiet_eq (l6In_any _ _ _ _)) | (go_at_call 154; exact quiet_eq (l11Value_any _ _)))
      go_wp2
      go_ret
      exact ⟨ret_bool hz.out.symm, (hfr.alloc _).drewN _⟩
     ·have g6 : us[j].ref < us[j + 1].ref := by simpa using g5
      have g7 : ¬ us[j + 1].ref ≤ us[j].ref := by omega
      have hz := hid (show updsTo us (j + 1 + 1) = true by
       have h1 : updAt us (j + 1) = true := by simp [updAt, updOk, List.getElem?_eq_getElem hlt, List.getElem?_eq_getElem hj, g1, g2, g3, g4, g6]
       show (updsTo us (j + 1) && updAt us (j + 1)) = true
       rw [HT.out, h1]; rfl)
      clear g5
      go_wp2
      go_quiet (first | (go_at_call 22; exact quiet_eq (l6In_any _ _ _ _)) | (go_at_call 154; exact quiet_eq (l11Value_any _ _)))
      go_wp2
      go_roundw
      case rel => exact ⟨j + 1 + 1, by omega, by go_num, hz.out, (hfr.alloc _).drewN _⟩
      case measure => simp [intOf]; omega
  ·obtain rfl : k = us.length := by omega
   have hz := hid (updsOk_true HT.out)
   go_wp2
   go_ret
   exact ⟨ret_bool (by rw [hz.out]), hfr⟩

set_option maxHeartbeats 2000000 in
theorem implUpdatesValid_any (K : Nat → Bool → Prop) (v : Value) (us : List Upd) (w : World) (hv : UpsR K w v us) (hb : us.length ≤ 1000000000) :
  Calls Tryz.prog 101 #[v] w fun e w' => e = .returned (.bool (updsOk us)) ∧ Fr w.heap.size [] w w' := by
 obtain ⟨a, cap, rfl, hcap, hcell⟩ := hv.shape
 go_enter Tryz.func101, Tryz.ntmps101
 go_wp2
 go_loopw [7] (fun i wr => ∃ k : Nat, k ≤ us.length ∧ i = .int .i64 k ∧ updsTo us k = true ∧ Fr w.heap.size [] w wr) (fun i _ => us.length - (intOf i).toNat)
 case atStart => exact ⟨0, Nat.zero_le _, rfl, rfl, Fr.refl _ _ _⟩
 case round =>
  obtain ⟨k, hk, rfl, hto, hfr⟩ := hrel
  have HT := hid hto
  clear hto
  by_cases hlt : k < us.length
  ·rcases hcell with rfl | ⟨b, off, rfl, hbs, hcell⟩
   ·simp at hlt
   ·obtain ⟨h0, h1, h2⟩ := hcell k hlt
    have c0 := hfr.cell hbs h0
    have c1 := hfr.cell hbs h1
    have c2 := hfr.cell hbs h2
    have hbr : b < wr.heap.size := Nat.lt_of_lt_of_le hbs hfr.size
    clear h0 h1 h2
    cases g1 : inR us[k].ref 0 3
    ·have hz := hid (updsOk_false (us := us) hlt (by simp [updAt, updOk, List.getElem?_eq_getElem hlt, g1]))
     go_wp2
     go_quiet (first | (go_at_call 16; exact quiet_eq (inRange_any _ _ _ _)) | (go_at_call 141; exact quiet_eq (isRefId_any _ _)))
     go_wp2
     go_ret
     exact ⟨ret_bool hz.out.symm, (hfr.alloc _).drewN _⟩
    cases g2 : inR us[k].old (-1) 990
    ·have hz := hid (updsOk_false (us := us) hlt (by simp [updAt, updOk, List.getElem?_eq_getElem hlt, g1, g2]))
     go_wp2
     go_quiet (first | (go_at_call 16; exact quiet_eq (inRange_any _ _ _ _)) | (go_at_call 141; exact quiet_eq (isRefId_any _ _)))
     go_wp2
     go_ret
     exact ⟨ret_bool hz.out.symm, (hfr.alloc _).drewN _⟩
    cases g3 : inR us[k].new (-1) 990
    ·have hz := hid (updsOk_false (us := us) hlt (by simp [updAt, updOk, List.getElem?_eq_getElem hlt, g1, g2, g3]))
     go_wp2
     go_quiet (first | (go_at_call 16; exact quiet_eq (inRange_any _ _ _ _)) | (go_at_call 141; exact quiet_eq (isRefId_any _ _)))
     go_wp2
     go_ret
     exact ⟨ret_bool hz.out.symm, (hfr.alloc _).drewN _⟩
    cases g4 : us[k].old == us[k].new
    case true =>
     have hz := hid (updsOk_false (us := us) hlt (by simp [updAt, updOk, List.getElem?_eq_getElem hlt, g1, g2, g3, g4]))
     go_wp2
     go_quiet (first | (go_at_call 16; exact quiet_eq (inRange_any _ _ _ _)) | (go_at_call 141; exact quiet_eq (isRefId_any _ _)))
     go_wp2
     go_ret
     exact ⟨ret_bool hz.out.symm, (hfr.alloc _).drewN _⟩
    rcases Nat.eq_zero_or_pos k with hk0 | hk0
    ·have hz := hid (show updsTo us (k + 1) = true by subst hk0; simp [updsTo, updAt, updOk, List.getElem?_eq_getElem hlt, g1, g2, g3, g4])
     have g5 : decide ((0 : Int) < (k : Int)) = false := by simp; omega
     have g6 : ¬ (0 : Int) < (k : Int) := by omega
     have g7 : ¬ 0 < k := by omega
     clear hk0
     go_wp2
     go_quiet (first | (go_at_call 16; exact quiet_eq (inRange_any _ _ _ _)) | (go_at_call 141; exact quiet_eq (isRefId_any _ _)))
     go_wp2
     go_roundw
     case rel => exact ⟨k + 1, by omega, by go_num, hz.out, (hfr.alloc _).drewN _⟩
     case measure => simp [intOf]; omega
    ·obtain ⟨j, rfl⟩ : ∃ j, k = j + 1 := ⟨k - 1, by omega⟩
     have hj : j < us.length := by omega
     obtain ⟨d0, _, _⟩ := hcell j hj
     have e0 := hfr.cell hbs d0
     clear d0
     cases g5 : decide (us[j].ref < us[j + 1].ref)
     ·have g6 : us[j + 1].ref ≤ us[j].ref := by simpa using g5
      have hz := hid (updsOk_false (us := us) hlt (by simp [updAt, updOk, List.getElem?_eq_getElem hlt, g1, g2, g3, g4, List.getElem?_eq_getElem hj, g5]))
      go_wp2
      go_quiet (first | (go_at_call 16; exact quiet_eq (inRange_any _ _ _ _)) | (go_at_call 141; exact quiet_eq (isRefId_any _ _)))
      go_wp2
      go_ret
      exact ⟨ret_bool hz.out.symm, (hfr.alloc _).drewN _⟩
     ·have g6 : us[j].ref < us[j + 1].ref := by simpa using g5
      have g7 : ¬ us[j + 1].ref ≤ us[j].ref := by omega
      have hz := hid (show updsTo us (j + 1 + 1) = true by
       have h1 : updAt us (j + 1) = true := by simp [updAt, updOk, List.getElem?_eq_getElem hlt, List.getElem?_eq_getElem hj, g1, g2, g3, g4, g6]
       show (updsTo us (j + 1) && updAt us (j + 1)) = true
       rw [HT.out, h1]; rfl)
      clear g5
      go_wp2
      go_quiet (first | (go_at_call 16; exact quiet_eq (inRange_any _ _ _ _)) | (go_at_call 141; exact quiet_eq (isRefId_any _ _)))
      go_wp2
      go_roundw
      case rel => exact ⟨j + 1 + 1, by omega, by go_num, hz.out, (hfr.alloc _).drewN _⟩
      case measure => simp [intOf]; omega
  ·obtain rfl : k = us.length := by omega
   have hz := hid (updsOk_true HT.out)
   go_wp2
   go_ret
   exact ⟨ret_bool (by rw [hz.out]), hfr⟩

end Go.Proofs.YtknoanpgadecbaaGreatDoor
