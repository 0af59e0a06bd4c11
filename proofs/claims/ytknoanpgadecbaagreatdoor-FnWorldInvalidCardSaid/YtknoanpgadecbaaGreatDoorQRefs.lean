/- The reference's functions of refs and locks. -/
import Derived.Test.YtknoanpgadecbaaGreatDoorQM2
import Derived.Deep.QuietTactic
import Derived.BigQuiet
import Derived.StillTailTactics
import Derived.RegionTactic
import Derived.BigRegion
set_option linter.unusedVariables false
set_option linter.unusedSimpArgs false
namespace Go.Proofs.YtknoanpgadecbaaGreatDoor
open Go.RowKit
set_option linter.unusedVariables false

theorem ret_pair {v : Value} {x y : Bool} (h : x = y) : Ending.returned (.tuple #[v, .bool x]) = .returned (.tuple #[v, .bool y]) := by rw [h]

theorem fitsTo_succ {refs : List Int} {us : List Upd} {k : Nat} (h : k < us.length) : fitsTo refs us (k + 1) = (fitsTo refs us k && (at4 refs us[k].ref == us[k].old)) := by
 simp [fitsTo, List.getElem?_eq_getElem h]

theorem fitsTo_false {refs : List Int} {us : List Upd} {k : Nat} (hk : k < us.length) (h : (at4 refs us[k].ref == us[k].old) = false) : fits refs us = false := by
 have : ∀ n, k < n → fitsTo refs us n = false := by
  intro n
  induction n with
  | zero => omega
  | succ n ih =>
   intro hn
   by_cases e : k = n
   ·subst e; simp [fitsTo, List.getElem?_eq_getElem hk, h]
   ·simp [fitsTo, ih (by omega)]
 exact this _ hk

theorem at4_nat {l : List Int} {j : Nat} (h : j < l.length) : at4 l (j : Int) = l[j] := by simp [at4, List.getElem?_eq_getElem h]

set_option maxHeartbeats 1000000 in
theorem l11Fits_any (K K' : Nat → Bool → Prop) (v vu : Value) (refs : List Int) (us : List Upd) (w : World) (hr : IntsR K w v refs) (hv : UpsR K' w vu us) (hb : us.length ≤ 1000000000)
  (h4 : refs.length = 4) (hin : ∀ k (hk : k < us.length), 0 ≤ us[k].ref ∧ us[k].ref ≤ 3) :
  Calls Tryz.prog 161 #[v, vu] w fun e w' => e = .returned (.bool (fits refs us)) ∧ Fr w.heap.size [] w w' := by
 obtain ⟨a, cap, rfl, hcap, hcell⟩ := hv.shape
 obtain ⟨ra, rcap, rfl, hrcap, hrcell⟩ := hr.shape
 have H4 := hid h4
 rcases hrcell with rfl | ⟨rb, roff, rfl, hrb, hrcell⟩
 ·simp at h4
 clear h4
 go_enter Tryz.func161, Tryz.ntmps161
 go_wp2
 go_loopw [5] (fun i wr => ∃ k : Nat, k ≤ us.length ∧ i = .int .i64 k ∧ fitsTo refs us k = true ∧ Fr w.heap.size [] w wr) (fun i _ => us.length - (intOf i).toNat)
 case atStart => exact ⟨0, Nat.zero_le _, rfl, rfl, Fr.refl _ _ _⟩
 case round =>
  obtain ⟨k, hk, rfl, hto, hfr⟩ := hrel
  have HT := hid hto
  clear hto
  by_cases hlt : k < us.length
  ·rcases hcell with rfl | ⟨b, off, rfl, hbs, hcell⟩
   ·simp at hlt
   ·obtain ⟨h0, h1, h2⟩ := hcell k hlt
    obtain ⟨hi1, hi2⟩ := hin k hlt
    obtain ⟨j, hj⟩ := Int.eq_ofNat_of_zero_le hi1
    have hj3 : j < refs.length := by rw [H4.out]; omega
    have c0 := hfr.cell hbs h0
    have c1 := hfr.cell hbs h1
    have cj := hfr.cell hrb (hrcell j hj3)
    have HS := hid (fitsTo_succ (refs := refs) hlt)
    have HF := hid (fitsTo_false (refs := refs) hlt)
    rw [hj] at c0 HS HF
    rw [at4_nat hj3] at HS HF
    have hj4 : (j : Int) < (refs.length : Int) := by omega
    clear h0 h1 h2 hi1 hi2 hj hcell hrcell
    cases g1 : refs[j] == us[k].old
    ·have g2 : (refs[j] != us[k].old) = true := by simp [bne, g1]
     have hz := hid (HF.out g1)
     clear g1
     go_wp2
     go_quiet (fail)
     go_wp2
     go_ret
     exact ⟨ret_bool hz.out.symm, hfr.drewN _⟩
    ·have g2 : (refs[j] != us[k].old) = false := by simp [bne, g1]
     have hz := hid (show fitsTo refs us (k + 1) = true by rw [HS.out, HT.out, g1]; rfl)
     clear g1
     go_wp2
     go_quiet (fail)
     go_wp2
     go_roundw
     case rel => exact ⟨k + 1, by omega, by go_num, hz.out, hfr.drewN _⟩
     case measure => simp [intOf]; omega
  ·obtain rfl : k = us.length := by omega
   go_wp2
   go_ret
   exact ⟨ret_bool HT.out.symm, hfr⟩

theorem infoI : (Tryz.prog.info? 3).map (fun i => (i.zero, i.size, i.bytes)) = some (some (.int .i64 0), 1, 8) := by kernel_rfl

theorem oneI (l : List Int) : ∀ u ∈ l.map (Value.int .i64), u.oneCell' = true := by
 intro u hu
 obtain ⟨n, _, rfl⟩ := List.mem_map.1 hu
 rfl

theorem setTo_succ {refs : List Int} {us : List Upd} {k : Nat} (h : k < us.length) : setTo refs us (k + 1) = (setTo refs us k).set us[k].ref.toNat us[k].new := by
 simp [setTo, List.getElem?_eq_getElem h]

theorem setTo_length (refs : List Int) (us : List Upd) (k : Nat) : (setTo refs us k).length = refs.length := by
 induction k with
 | zero => rfl
 | succ k ih => simp only [setTo]; split <;> simp [ih]

set_option maxHeartbeats 1000000 in
theorem l11Set_any (K K' : Nat → Bool → Prop) (v vu : Value) (refs : List Int) (us : List Upd) (w : World) (hr : IntsR K w v refs) (hv : UpsR K' w vu us) (hb : us.length ≤ 1000000000)
  (h4 : refs.length = 4) (hin : ∀ k (hk : k < us.length), 0 ≤ us[k].ref ∧ us[k].ref ≤ 3) :
  Calls Tryz.prog 163 #[v, vu] w fun e w' => ∃ v', e = .returned v' ∧ w'.ownsRow w.heap.size 3 1 v' 4 ((setAll refs us).map (Value.int .i64)) ∧ Fr w.heap.size [] w w' := by
 obtain ⟨a, cap, rfl, hcap, hcell⟩ := hv.shape
 obtain ⟨i0, hi, hz0, hz1, hz2⟩ := info_parts infoI
 have H4 := hid h4
 clear h4
 go_enter Tryz.func163, Tryz.ntmps163
 go_wp2_with (at_builtin; refine wpList_clone rfl _ _ 24 rfl 3 i0 (.int .i64 0) 1 8 Tryz.underlying24 hi hz0 hz1 hz2 rfl (by decide) _ (by rfl) (by simp [World.setCell]) K 3 _ _ _ (by rfl) hr (oneI refs) (by rw [H4.out]; decide) (by rw [H4.out]; decide) ?_; intro v1 w1 hown1 hfr1)
 have hex := own_shape hown1 (by rw [H4.out]; decide)
 obtain ⟨g, gcap, rfl, hg1, hg2, hg3⟩ := hex
 rw [H4.out] at hown1 hg3
 rw [H4.out]
 go_wp2
 go_loopw [6] (fun i wr => ∃ k : Nat, k ≤ us.length ∧ i = .int .i64 k ∧ wr.ownsRow w.heap.size 3 1 (.slice (some ⟨g, 0, none⟩) 4 gcap) 4 ((setTo refs us k).map (Value.int .i64)) ∧ Fr w.heap.size [] w wr) (fun i _ => us.length - (intOf i).toNat)
 case atStart => exact ⟨0, Nat.zero_le _, rfl, hown1, hfr1⟩
 case round =>
  obtain ⟨k, hk, rfl, hown, hfr⟩ := hrel
  by_cases hlt : k < us.length
  ·rcases hcell with rfl | ⟨b, off, rfl, hbs, hcell⟩
   ·simp at hlt
   ·obtain ⟨h0, h1, h2⟩ := hcell k hlt
    obtain ⟨hi1, hi2⟩ := hin k hlt
    obtain ⟨j, hj⟩ := Int.eq_ofNat_of_zero_le hi1
    have hj3 : (j : Int) < 4 := by omega
    have c0 := hfr.cell hbs h0
    have c2 := hfr.cell hbs h2
    have HS := hid (setTo_succ (refs := refs) hlt)
    rw [hj] at c0 HS
    have cf := hown.frozenAt j
    have hjl : j < (setTo refs us k).length := by rw [setTo_length, H4.out]; omega
    have cg : wr.cell? ⟨g, j, none⟩ = some (.int .i64 (setTo refs us k)[j]) := by rw [hown.cellAt j (by omega), List.getElem?_map, List.getElem?_eq_getElem hjl]; rfl
    have ⟨st1, st2⟩ := hown.stored j (.int .i64 us[k].new)
    have hgl : g < wr.heap.size := (hown.lt g rfl).2
    clear h0 h1 h2 hi1 hi2 hj hcell
    go_wp2
    go_region
    go_wp2
    go_roundw
    case rel => exact ⟨k + 1, by omega, by go_num, by rw [HS.out, List.map_set]; exact ownsRow_keep st1 (Fr.refl 0 [] _).drew (by simp), (hfr.setNew (p := ⟨g, j, none⟩) hg1 _).drew⟩
    case measure => simp [intOf]; omega
  ·obtain rfl : k = us.length := by omega
   go_wp2
   go_ret
   exact ⟨_, rfl, hown, hfr⟩

theorem freeTo_succ {locks : List Int} {us : List Upd} {k : Nat} (h : k < us.length) : freeTo locks us (k + 1) = (freeTo locks us k && (at4 locks us[k].ref == -1)) := by
 simp [freeTo, List.getElem?_eq_getElem h]

theorem freeTo_false {locks : List Int} {us : List Upd} {k : Nat} (hk : k < us.length) (h : (at4 locks us[k].ref == -1) = false) : isFree locks us = false := by
 have : ∀ n, k < n → freeTo locks us n = false := by
  intro n
  induction n with
  | zero => omega
  | succ n ih =>
   intro hn
   by_cases e : k = n
   ·subst e; simp [freeTo, List.getElem?_eq_getElem hk, h]
   ·simp [freeTo, ih (by omega)]
 exact this _ hk

theorem takeTo_succ {locks : List Int} {t : Int} {us : List Upd} {k : Nat} (h : k < us.length) : takeTo locks t us (k + 1) = (takeTo locks t us k).set us[k].ref.toNat t := by
 simp [takeTo, List.getElem?_eq_getElem h]

theorem takeTo_length (locks : List Int) (t : Int) (us : List Upd) (k : Nat) : (takeTo locks t us k).length = locks.length := by
 induction k with
 | zero => rfl
 | succ k ih => simp only [takeTo]; split <;> simp [ih]

def taken (locks : List Int) (t : Int) (us : List Upd) : List Int := if isFree locks us then takeAll locks t us else locks

set_option maxHeartbeats 1000000 in
theorem l12Take_any (K K' : Nat → Bool → Prop) (v vu : Value) (locks : List Int) (t : Int) (us : List Upd) (w : World) (hr : IntsR K w v locks) (hv : UpsR K' w vu us) (hb : us.length ≤ 1000000000)
  (h4 : locks.length = 4) (hin : ∀ k (hk : k < us.length), 0 ≤ us[k].ref ∧ us[k].ref ≤ 3) :
  Calls Tryz.prog 162 #[v, .int .i64 t, vu] w fun e w' => ∃ v', e = .returned (.tuple #[v', .bool (isFree locks us)]) ∧ w'.ownsRow w.heap.size 3 1 v' 4 ((taken locks t us).map (Value.int .i64)) ∧ Fr w.heap.size [] w w' := by
 obtain ⟨a, cap, rfl, hcap, hcell⟩ := hv.shape
 obtain ⟨ra, rcap, hrv, hrcap, hrcell⟩ := hr.shape
 obtain ⟨i0, hi, hz0, hz1, hz2⟩ := info_parts infoI
 have H4 := hid h4
 rcases hrcell with rfl | ⟨rb, roff, rfl, hrb, hrcell⟩
 ·simp at h4
 subst hrv
 clear h4
 go_enter Tryz.func162, Tryz.ntmps162
 go_wp2_with (at_builtin; refine wpList_clone rfl _ _ 24 rfl 3 i0 (.int .i64 0) 1 8 Tryz.underlying24 hi hz0 hz1 hz2 rfl (by decide) _ (by rfl) (by simp [World.setCell]) K 3 _ _ _ (by rfl) hr (oneI locks) (by rw [H4.out]; decide) (by rw [H4.out]; decide) ?_; intro v1 w1 hown1 hfr1)
 have hex := own_shape hown1 (by rw [H4.out]; decide)
 obtain ⟨g, gcap, rfl, hg1, hg2, hg3⟩ := hex
 rw [H4.out] at hown1 hg3
 have hlr : (Value.slice (some ⟨g, 0, none⟩) locks.length gcap) = .slice (some ⟨g, 0, none⟩) 4 gcap := by rw [H4.out]
 rw [hlr]
 clear hlr
 go_wp2
 go_loopw [9] (fun i wr => ∃ k : Nat, k ≤ us.length ∧ i = .int .i64 k ∧ freeTo locks us k = true ∧ wr.ownsRow w.heap.size 3 1 (.slice (some ⟨g, 0, none⟩) 4 gcap) 4 ((takeTo locks t us k).map (Value.int .i64)) ∧ Fr w.heap.size [] w wr) (fun i _ => us.length - (intOf i).toNat)
 case atStart => exact ⟨0, Nat.zero_le _, rfl, rfl, hown1, hfr1⟩
 case round =>
  obtain ⟨k, hk, rfl, hto, hown, hfr⟩ := hrel
  have HT := hid hto
  clear hto
  by_cases hlt : k < us.length
  ·rcases hcell with rfl | ⟨b, off, rfl, hbs, hcell⟩
   ·simp at hlt
   ·obtain ⟨h0, h1, h2⟩ := hcell k hlt
    obtain ⟨hi1, hi2⟩ := hin k hlt
    obtain ⟨j, hj⟩ := Int.eq_ofNat_of_zero_le hi1
    have hj3 : (j : Int) < 4 := by omega
    have hjl : j < locks.length := by rw [H4.out]; omega
    have hji : (j : Int) < (locks.length : Int) := by omega
    have c0 := hfr.cell hbs h0
    have cj := hfr.cell hrb (hrcell j hjl)
    have HS := hid (freeTo_succ (locks := locks) hlt)
    have HF := hid (freeTo_false (locks := locks) hlt)
    have HK := hid (takeTo_succ (locks := locks) (t := t) hlt)
    rw [hj] at c0 HS HK HF
    rw [at4_nat hjl] at HS HF
    have cf := hown.frozenAt j
    have hjl' : j < (takeTo locks t us k).length := by rw [takeTo_length]; exact hjl
    have cg : wr.cell? ⟨g, j, none⟩ = some (.int .i64 (takeTo locks t us k)[j]) := by rw [hown.cellAt j (by omega), List.getElem?_map, List.getElem?_eq_getElem hjl']; rfl
    have ⟨st1, st2⟩ := hown.stored j (.int .i64 t)
    have hgl : g < wr.heap.size := (hown.lt g rfl).2
    clear h0 h1 h2 hi1 hi2 hj hcell hrcell
    cases g1 : locks[j] == -1
    ·have g2 : (locks[j] != -1) = true := by simp only [bne, g1]; rfl
     have hz := hid (HF.out g1)
     have hzz := hid (show taken locks t us = locks by unfold taken; rw [if_neg (by rw [hz.out]; decide)])
     have hrr := hr.grow hfr
     clear g1
     go_wp2_with (at_builtin; refine wpList_clone rfl _ _ 24 rfl 3 i0 (.int .i64 0) 1 8 Tryz.underlying24 hi hz0 hz1 hz2 rfl (by decide) _ (by rfl) (by simp [World.setCell]) K 3 _ _ _ (by rfl) hrr (oneI locks) (by rw [H4.out]; decide) (by rw [H4.out]; decide) ?_; intro v2 w2 hown2 hfr2)
     go_wp2
     go_ret2
     exact ⟨_, ret_pair hz.out.symm, by rw [hzz.out]; have := ownsRow_lo hown2 hfr.size; rw [H4.out] at this; exact this, hfr.trans hfr2.nil⟩
    ·have g2 : (locks[j] != -1) = false := by simp only [bne, g1]; rfl
     have hz := hid (show freeTo locks us (k + 1) = true by rw [HS.out, HT.out, g1]; rfl)
     clear g1
     go_wp2
     go_roundw
     case rel => exact ⟨k + 1, by omega, by go_num, hz.out, by rw [HK.out, List.map_set]; exact st1, hfr.setNew (p := ⟨g, j, none⟩) hg1 _⟩
     case measure => simp [intOf]; omega
  ·obtain rfl : k = us.length := by omega
   have hz := hid (show taken locks t us = takeAll locks t us by unfold taken; rw [if_pos (show isFree locks us = true from HT.out)])
   go_wp2
   go_ret2
   exact ⟨_, ret_pair (show true = isFree locks us from HT.out.symm), by rw [hz.out]; exact hown, hfr⟩

theorem oneCell_int (n : Int) : ∀ u ∈ [Value.int .i64 n], u.oneCell' = true := by
 intro u hu
 simp at hu
 subst hu
 rfl

theorem freed_take {locks : List Int} {t : Int} {k : Nat} (h : k < locks.length) : freed (locks.take (k + 1)) t = freed (locks.take k) t ++ [if locks[k] = t then -1 else locks[k]] := by
 unfold freed
 rw [List.take_succ_eq_append_getElem h, List.map_append, List.map_singleton]

set_option maxHeartbeats 1000000 in
theorem l12Free_any (K : Nat → Bool → Prop) (v : Value) (locks : List Int) (t : Int) (w : World) (hr : IntsR K w v locks) (h4 : locks.length = 4) :
  Calls Tryz.prog 165 #[v, .int .i64 t] w fun e w' => ∃ v', e = .returned v' ∧ w'.ownsRow w.heap.size 3 1 v' 4 ((freed locks t).map (Value.int .i64)) ∧ Fr w.heap.size [] w w' := by
 obtain ⟨ra, rcap, hrv, hrcap, hrcell⟩ := hr.shape
 obtain ⟨i0, hi, hz0, hz1, hz2⟩ := info_parts infoI
 have H4 := hid h4
 rcases hrcell with rfl | ⟨rb, roff, rfl, hrb, hrcell⟩
 ·simp at h4
 subst hrv
 have hl4 : locks.length ≤ 4 := by omega
 clear h4
 go_enter Tryz.func165, Tryz.ntmps165
 go_wp2
 go_loopw [5, 6] (fun v i wr => ∃ k : Nat, k ≤ locks.length ∧ i = .int .i64 k ∧ wr.ownsRow w.heap.size 3 1 v k ((freed (locks.take k) t).map (Value.int .i64)) ∧ Fr w.heap.size [] w wr) (fun _ i _ => locks.length - (intOf i).toNat)
 case atStart => exact ⟨0, Nat.zero_le _, rfl, World.ownsRow_made w #[] 0 (Nat.le_refl _) (by decide) (by simp), (Fr.refl _ _ _).alloc _⟩
 case round =>
  obtain ⟨k, hk, rfl, hown, hfr⟩ := hrel
  by_cases hlt : k < locks.length
  ·have cj := hfr.cell hrb (hrcell k hlt)
   have HS := hid (freed_take (t := t) hlt)
   have hsz := hfr.size
   clear hrcell
   cases g1 : locks[k] == t
   ·have g2 := hid (show ¬ locks[k] = t by simpa using g1)
    go_wp2_with (at_builtin; refine wpList_push rfl _ _ 24 rfl w.heap.size 3 i0 (.int .i64 0) 1 8 Tryz.underlying24 hi hz0 hz1 hz2 rfl (by decide) _ _ _ hown rfl (oneCell_int _) (by unfold maxLen; omega) (by omega) (by omega) (by rfl) _ (by rfl) (by simp [World.setCell]) ?_; intro v2 w2 hown2 hfr2 _)
    go_wp2
    go_roundw
    case rel => exact ⟨k + 1, by omega, by go_num, by rw [HS.out, if_neg g2.out, List.map_append]; exact hown2, hfr.after hfr2⟩
    case measure => simp [intOf]; omega
   ·have g2 := hid (show locks[k] = t by simpa using g1)
    go_wp2_with (at_builtin; refine wpList_push rfl _ _ 24 rfl w.heap.size 3 i0 (.int .i64 0) 1 8 Tryz.underlying24 hi hz0 hz1 hz2 rfl (by decide) _ _ _ hown rfl (oneCell_int _) (by unfold maxLen; omega) (by omega) (by omega) (by rfl) _ (by rfl) (by simp [World.setCell]) ?_; intro v2 w2 hown2 hfr2 _)
    go_wp2
    go_roundw
    case rel => exact ⟨k + 1, by omega, by go_num, by rw [HS.out, if_pos g2.out, List.map_append]; exact hown2, hfr.after hfr2⟩
    case measure => simp [intOf]; omega
  ·obtain rfl : k = locks.length := by omega
   have HK := hid (show locks.take locks.length = locks from List.take_length)
   go_wp2
   go_ret
   exact ⟨_, rfl, by rw [HK.out, H4.out] at hown; exact hown, hfr⟩

end Go.Proofs.YtknoanpgadecbaaGreatDoor
