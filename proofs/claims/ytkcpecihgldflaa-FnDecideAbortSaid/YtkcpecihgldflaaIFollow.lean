/- The program's history of a shard: lock, release, and the steps of a record. -/
import Derived.Test.YtkcpecihgldflaaISmall
import Derived.Test.YtkcpecihgldflaaHMap
import Derived.Deep.RegionHeld3
namespace Go.Proofs.Ytkcpecihgldflaa
open Go.RowKit
set_option linter.unusedVariables false

theorem free_at {locks : List Int} {us : List Upd} (h : isFree locks us = true) {k : Nat} (hk : k < us.length) : (at4 locks us[k].ref == -1) = true := by
  cases hx : (at4 locks us[k].ref == -1) with
  | true => rfl
  | false => rw [freeTo_false hk hx] at h; cases h

set_option maxRecDepth 20000 in
set_option maxHeartbeats 2000000 in
theorem lock_any (l : Nat) (vu : Value) (locks : List Int) (t : Int) (us : List Upd) (w : World) (hb : w.heap[l]? = some (.cells (row4 locks []) 3 (0, 0))) (h4 : locks.length = 4) (hv : UpsR (old l) w vu us) (hl : us.length ≤ 1000000000)
    (hin : ∀ k (hk : k < us.length), 0 ≤ us[k].ref ∧ us[k].ref ≤ 3) (hfree : isFree locks us = true) :
    Calls Try.prog 105 #[.slice (some ⟨l, 0, none⟩) 4 4, .int .i64 t, vu] w fun e w' => e = .returned .nilIface ∧ w'.heap[l]? = some (.cells (row4 (takeAll locks t us) []) 3 (0, 0)) ∧ FrB l w w' := by
  obtain ⟨a, cap, hva, h2, h3, hn, h5⟩ := id hv
  have hsh := hv.shape
  obtain ⟨a, cap, rfl, hcap, hcell⟩ := hsh
  cases hva
  have HB := hid hb
  have H4 := hid h4
  have H5 := hid h5
  have HF := hid hfree
  have HIN := hid hin
  have HC := hid hcell
  clear hb h4 hv h5 h2 hn hfree hin hcell
  go_enter Try.func105, Try.ntmps105
  go_wp2
  go_loopw [13] (fun i wr => ∃ k : Nat, k ≤ us.length ∧ i = .int .i64 k ∧ wr.heap[l]? = some (.cells (row4 locks []) 3 (0, 0)) ∧ FrB l w wr) (fun i _ => us.length - (intOf i).toNat)
  case atStart => exact ⟨0, Nat.zero_le _, rfl, HB.out, FrB.refl _ _⟩
  case round =>
    obtain ⟨k, hk, rfl, hblk, hfr⟩ := hrel
    have HBL := hid hblk
    by_cases hlt : k < us.length
    · rcases HC.out with rfl | ⟨ub, off, rfl, hbs, hcell⟩
      · simp at hlt
      · have hub : ub ≠ l := by
          obtain ⟨b', off', cur, e', fr', g1, g2, g3, g4⟩ := H5.out (by omega)
          have : ub = b' := by simpa using congrArg (fun x => (x.map Addr.block).getD 0) g1
          have g2' : b' < l := g2
          omega
        obtain ⟨h0, h1, h2⟩ := hcell k hlt
        obtain ⟨hi1, hi2⟩ := HIN.out k hlt
        obtain ⟨j, hj⟩ := Int.eq_ofNat_of_zero_le hi1
        have hj3 : (j : Int) < 4 := by omega
        have c0 := hfr.cell hub h0
        have c1 := hfr.cell hub h1
        have c2 := hfr.cell hub h2
        have hfa := free_at HF.out hlt
        rw [hj] at c0 hfa
        have hjl : j < locks.length := by rw [H4.out]; omega
        rw [at4_nat hjl] at hfa
        have cg := cell_of hblk (row4_get (tl := []) hjl)
        have g2 : (locks[j] != -1) = false := by simp only [bne, hfa]; rfl
        have hgl := lt_of_get hblk
        clear h0 h1 h2 hi1 hi2 hj hcell hblk hfa
        go_wp2
        go_roundw
        case rel => exact ⟨k + 1, by omega, by go_num, heap_up HBL.out _, hfr.alloc _⟩
        case measure => simp [intOf]; omega
    · obtain rfl : k = us.length := by omega
      clear hblk
      go_wp2
      obtain ⟨wo, rfl⟩ : ∃ wo : World, wo = wr := ⟨_, rfl⟩
      go_loopw [27] (fun i wr => ∃ k : Nat, k ≤ us.length ∧ i = .int .i64 k ∧ wr.heap[l]? = some (.cells (row4 (takeTo locks t us k) []) 3 (0, 0)) ∧ FrB l w wr) (fun i _ => us.length - (intOf i).toNat)
      case atStart => exact ⟨0, Nat.zero_le _, rfl, HBL.out, hfr⟩
      case round =>
        clear hfr HBL
        obtain ⟨k, hk, rfl, hblk, hfr⟩ := hrel
        have HBL := hid hblk
        by_cases hlt : k < us.length
        · rcases HC.out with rfl | ⟨ub, off, rfl, hbs, hcell⟩
          · simp at hlt
          · have hub : ub ≠ l := by
              obtain ⟨b', off', cur, e', fr', g1, g2, g3, g4⟩ := H5.out (by omega)
              have : ub = b' := by simpa using congrArg (fun x => (x.map Addr.block).getD 0) g1
              have g2' : b' < l := g2
              omega
            obtain ⟨h0, h1, h2⟩ := hcell k hlt
            obtain ⟨hi1, hi2⟩ := HIN.out k hlt
            obtain ⟨j, hj⟩ := Int.eq_ofNat_of_zero_le hi1
            have hj3 : (j : Int) < 4 := by omega
            have c0 := hfr.cell hub h0
            have c1 := hfr.cell hub h1
            have c2 := hfr.cell hub h2
            have HS := hid (takeTo_succ (locks := locks) (t := t) hlt)
            rw [hj] at c0 HS
            have hjl : j < (takeTo locks t us k).length := by rw [takeTo_length, H4.out]; omega
            have cg := cell_of hblk (row4_get (tl := []) hjl)
            have cf := free_of (o := j) hblk
            have hgl := lt_of_get hblk
            clear h0 h1 h2 hi1 hi2 hj hcell hblk
            go_wp2
            go_roundw
            case rel => exact ⟨k + 1, by omega, by go_num, by rw [HS.out]; exact heap_up ((block_set HBL.out j _).trans (by rw [row4_set hjl]; rfl)) _, (hfr.set (p := ⟨l, j, none⟩) rfl _).alloc _⟩
            case measure => simp [intOf]; omega
        · obtain rfl : k = us.length := by omega
          go_wp2
          go_ret
          exact ⟨rfl, HBL.out, hfr⟩

/-- Locks of which the first k are freed. -/
def relTo (locks : List Int) (t : Int) (k : Nat) : List Int := freed (locks.take k) t ++ locks.drop k

theorem relTo_length (locks : List Int) (t : Int) (k : Nat) : (relTo locks t k).length = locks.length := by
  simp [relTo, freed]; omega

theorem relTo_at {locks : List Int} {t : Int} {k : Nat} (h : k < locks.length) : (relTo locks t k)[k]'(by rw [relTo_length]; exact h) = locks[k] := by
  unfold relTo
  rw [List.getElem_append_right (by simp [freed]; omega)]
  simp [freed, Nat.min_eq_left (Nat.le_of_lt h)]

theorem relTo_succ {locks : List Int} {t : Int} {k : Nat} (h : k < locks.length) : relTo locks t (k + 1) = (relTo locks t k).set k (if locks[k] = t then -1 else locks[k]) := by
  unfold relTo
  rw [freed_take h, List.set_append_right _ _ (by simp [freed]; omega)]
  have e : k - (freed (locks.take k) t).length = 0 := by simp [freed]; omega
  rw [e, List.drop_eq_getElem_cons h, List.set_cons_zero]
  simp

theorem relTo_all (locks : List Int) (t : Int) : relTo locks t locks.length = freed locks t := by simp [relTo]

theorem set_self {l : List Int} {k : Nat} {x : Int} (h : k < l.length) (hx : l[k] = x) : l.set k x = l := by
  subst hx; simp

set_option maxRecDepth 20000 in
set_option maxHeartbeats 2000000 in
theorem release_any (l : Nat) (locks : List Int) (t : Int) (w : World) (hb : w.heap[l]? = some (.cells (row4 locks []) 3 (0, 0))) (h4 : locks.length = 4) :
    Calls Try.prog 108 #[.slice (some ⟨l, 0, none⟩) 4 4, .int .i64 t] w fun e w' => (∃ x, e = .returned (.bool x)) ∧ w'.heap[l]? = some (.cells (row4 (freed locks t) []) 3 (0, 0)) ∧ FrB l w w' := by
  have HB := hid hb
  have H4 := hid h4
  clear hb h4
  go_enter Try.func108, Try.ntmps108
  go_wp2
  go_loopw [5, 10] (fun x i wr => ∃ (k : Nat) (y : Bool), k ≤ 4 ∧ i = .int .i64 k ∧ x = .bool y ∧ wr.heap[l]? = some (.cells (row4 (relTo locks t k) []) 3 (0, 0)) ∧ FrB l w wr) (fun _ i _ => 4 - (intOf i).toNat)
  case atStart => exact ⟨0, false, Nat.zero_le _, rfl, rfl, by rw [HB.out]; rfl, FrB.refl _ _⟩
  case round =>
    obtain ⟨k, y, hk, rfl, rfl, hblk, hfr⟩ := hrel
    have HBL := hid hblk
    by_cases hlt : k < 4
    · have hkl : k < locks.length := by rw [H4.out]; exact hlt
      have hkr : k < (relTo locks t k).length := by rw [relTo_length]; exact hkl
      have cg := cell_of hblk (row4_get (tl := []) hkr)
      rw [relTo_at hkl] at cg
      have cf := free_of (o := k) hblk
      have hgl := lt_of_get hblk
      have HS := hid (relTo_succ (t := t) hkl)
      have HA := hid (relTo_at (t := t) hkl)
      have hk4 : (k : Int) < 4 := by omega
      clear hblk
      cases g1 : locks[k] == t
      · have hz := hid (show ¬ locks[k] = t by simpa using g1)
        go_wp2
        go_roundw
        case rel => exact ⟨k + 1, y, by omega, by go_num, rfl, by rw [HS.out, if_neg hz.out, set_self hkr HA.out]; exact HBL.out, hfr⟩
        case measure => simp [intOf]; omega
      · have hz := hid (show locks[k] = t by simpa using g1)
        go_wp2
        go_roundw
        case rel => exact ⟨k + 1, true, by omega, by go_num, rfl, by rw [HS.out, if_pos hz.out]; exact (block_set HBL.out k _).trans (by rw [row4_set hkr]), hfr.set rfl _⟩
        case measure => simp [intOf]; omega
    · obtain rfl : k = 4 := by omega
      have HE := hid (show relTo locks t 4 = freed locks t by rw [← H4.out]; exact relTo_all _ _)
      clear hblk
      go_wp2
      go_ret
      exact ⟨⟨_, rfl⟩, by rw [← HE.out]; exact HBL.out, hfr⟩

end Go.Proofs.Ytkcpecihgldflaa
