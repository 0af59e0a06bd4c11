/- The reference's l1Has, l22Txn, CoordinatorValid. -/
import Derived.Test.YtknoanpgadecbaaGreatDoorQCoSpec1
set_option linter.unusedVariables false
set_option linter.unusedSimpArgs false
namespace Go.Proofs.YtknoanpgadecbaaGreatDoor
open Go.RowKit
set_option linter.unusedVariables false

set_option maxRecDepth 20000 in
set_option maxHeartbeats 2000000 in
theorem l1Has_any (K : Nat → Bool → Prop) (v : Value) (l : List Int) (n : Int) (w : World) (hv : IntsR K w v l) (hl : l.length ≤ 1000000000) :
  Calls Tryz.prog 47 #[v, .int .i64 n] w fun e w' => e = .returned (.bool (l.contains n)) ∧ w = w' := by
 obtain ⟨a, cap, rfl, hcap, hcell⟩ := hv.shape
 clear hv
 go_enter Tryz.func47, Tryz.ntmps47
 go_wp2
 go_loopw [5] (fun vi wx => ∃ k : Nat, k ≤ l.length ∧ vi = .int .i64 k ∧ n ∉ l.take k ∧ wx = w) (fun vi _ => l.length - (intOf vi).toNat)
 case atStart => exact ⟨0, Nat.zero_le _, rfl, by simp, rfl⟩
 case round =>
  obtain ⟨k, hk, rfl, hno, rfl⟩ := hrel
  have HN := hid hno
  clear hno
  by_cases hlt : k < l.length
  ·rcases hcell with hh | ⟨b, off, rfl, hbs, hcell⟩
   ·rw [hh] at hlt; cases hlt
   ·have c0 := hcell k hlt
    have hki : (k : Int) < (l.length : Int) := by omega
    clear hcell
    by_cases he : l[k] = n
    ·have e1 : (l[k] == n) = true := by simp [he]
     have HC := hid (show l.contains n = true by rw [List.contains_iff_mem, ← he]; exact List.getElem_mem hlt)
     clear he
     go_wp2
     go_ret
     exact ⟨ret_bool HC.out.symm, rfl⟩
    ·have e1 : (l[k] == n) = false := by simp [he]
     have HN1 := hid (show n ∉ l.take (k + 1) by
      rw [List.take_succ_eq_append_getElem hlt, List.mem_append]
      rintro (h | h)
      ·exact HN.out h
      ·simp at h; exact he h.symm)
     clear he
     go_wp2
     go_roundw
     case rel => exact ⟨k + 1, by omega, by go_num, HN1.out, (by first | rfl | trivial)⟩
     case measure => simp [intOf]; omega
  ·obtain rfl : k = l.length := by omega
   have HC := hid (show l.contains n = false by
    have := HN.out
    rw [List.take_length] at this
    simpa using this)
   clear hcell
   go_wp2
   go_ret
   exact ⟨ret_bool HC.out.symm, rfl⟩

theorem count_take {l : List Int} {k : Nat} (hk : k < l.length) (x : Int) : (l.take (k + 1)).count x = (l.take k).count x + if l[k] = x then 1 else 0 := by
 rw [List.take_succ_eq_append_getElem hk, List.count_append]
 by_cases h : l[k] = x <;> simp [h, List.count_singleton]

theorem votesIn_take {l : List Int} {k : Nat} (hk : k < l.length) : votesIn (l.take (k + 1)) = (votesIn (l.take k) && inR l[k] (-1) 1) := by
 unfold votesIn
 rw [List.take_succ_eq_append_getElem hk, List.all_append]
 simp

theorem votesIn_bad {l : List Int} {k : Nat} (hk : k < l.length) (h : inR l[k] (-1) 1 = false) : votesIn l = false := by
 unfold votesIn
 rw [List.all_eq_false]
 exact ⟨l[k], List.getElem_mem hk, by simp [h]⟩

def TnV (lo : Nat) (w : World) (pv vv : Value) (t : Tn) : Prop := PartsR lo w pv t.parts ∧ IntsR (new lo) w vv t.votes

set_option maxRecDepth 20000 in
set_option maxHeartbeats 4000000 in
theorem l22Txn_any (lo : Nat) (pv vv : Value) (t : Tn) (w : World) (hv : TnV lo w pv vv t) (hl : t.parts.length ≤ 1000000000) (hl2 : t.votes.length ≤ 1000000000) (hu : ∀ p ∈ t.parts, p.ups.length ≤ 1000000000) :
  Calls Tryz.prog 46 #[.agg #[pv, vv, .int .i64 t.dec]] w fun e w' => e = .returned (.bool (tnOk t)) ∧ Fr w.heap.size [] w w' := by
 obtain ⟨pa, pcap, rfl, _, _⟩ := hv.1.shape
 obtain ⟨va, vcap, rfl, _, hcell⟩ := hv.2.shape
 have HP := hid hv.1
 have HC := hid hcell
 have UL := hid hu
 have B0 := hid (heap_alloc_new w (.cells #[.slice pa t.parts.length pcap, .slice va t.votes.length vcap, .int .i64 t.dec] 74))
 have F0 := hid ((Fr.refl w.heap.size [] w).alloc (.cells #[.slice pa t.parts.length pcap, .slice va t.votes.length vcap, .int .i64 t.dec] 74))
 clear hv hcell hu
 go_enter Tryz.func46, Tryz.ntmps46
 go_wp2
 obtain ⟨W, hW⟩ : ∃ W, W = w.alloc (.cells #[.slice pa t.parts.length pcap, .slice va t.votes.length vcap, .int .i64 t.dec] 74) := ⟨_, rfl⟩
 rw [← hW] at B0 F0 ⊢
 clear hW
 have c0 := cell_of (o := 0) B0.out rfl
 have c1 := cell_of (o := 1) B0.out rfl
 have c2 := cell_of (o := 2) B0.out rfl
 go_loopw [3, 4, 5] (fun y n i wr => ∃ k : Nat, k ≤ t.votes.length ∧ i = .int .i64 k ∧ y = .int .i64 ((t.votes.take k).count 1 : Nat) ∧ n = .int .i64 ((t.votes.take k).count (-1) : Nat) ∧ votesIn (t.votes.take k) = true ∧ wr = W) (fun _ _ i _ => t.votes.length - (intOf i).toNat)
 case atStart => exact ⟨0, Nat.zero_le _, rfl, by simp, by simp, by simp [votesIn], rfl⟩
 case round =>
  obtain ⟨k, hk, rfl, rfl, rfl, hvi, rfl⟩ := hrel
  have VI := hid hvi
  clear hvi
  have hcl1 : (t.votes.take k).count 1 ≤ k := Nat.le_trans List.count_le_length (by simp; omega)
  have hcl2 : (t.votes.take k).count (-1) ≤ k := Nat.le_trans List.count_le_length (by simp; omega)
  by_cases hlt : k < t.votes.length
  ·rcases HC.out with h | ⟨b, off, rfl, hbs, hcell⟩
   ·rw [h] at hlt; simp at hlt
   have d0 := F0.out.cell hbs (hcell k hlt)
   have hki : (k : Int) < (t.votes.length : Int) := by omega
   have Y := hid (count_take hlt 1)
   have N := hid (count_take hlt (-1))
   have V := hid (votesIn_take hlt)
   clear hcell
   cases g1 : inR t.votes[k] (-1) 1
   ·have NO := hid (show tnOk t = false by unfold tnOk; rw [votesIn_bad hlt g1]; rfl)
    have G1 := hid g1
    clear g1 Y N V
    generalize t.votes[k] = x at *
    go_wp2_with (go_at_call 22; go_must (refine (l6In_any _ _ _ _).mono ?_; rintro e w1 ⟨rfl, hw1⟩; rw [G1.out]; subst hw1))
    go_ret
    exact ⟨ret_bool NO.out.symm, F0.out⟩
   ·have G1 := hid g1
    rw [g1, VI.out] at V
    clear g1
    obtain ⟨x, hx⟩ : ∃ x, x = t.votes[k] := ⟨_, rfl⟩
    rw [← hx] at d0 G1 Y N
    clear hx
    generalize (t.votes.take k).count 1 = p at *
    generalize (t.votes.take k).count (-1) = q at *
    have hp1 : IntKind.i64.wrap ((p : Int) + 1) = ((p + 1 : Nat) : Int) := by rw [IntKind.wrap_i64]; omega
    have hq1 : IntKind.i64.wrap ((q : Int) + 1) = ((q + 1 : Nat) : Int) := by rw [IntKind.wrap_i64]; omega
    by_cases x1 : x = 1
    ·subst x1
     go_wp2_with (go_at_call 22; go_must (refine (l6In_any _ _ _ _).mono ?_; rintro e w1 ⟨rfl, hw1⟩; rw [G1.out]; subst hw1))
     go_roundw
     case rel => exact ⟨k + 1, by omega, by go_num, by rw [Y.out]; rfl, by rw [N.out]; rfl, V.out, trivial⟩
     case measure => simp [intOf]; omega
    ·by_cases x2 : x = -1
     ·subst x2
      go_wp2_with (go_at_call 22; go_must (refine (l6In_any _ _ _ _).mono ?_; rintro e w1 ⟨rfl, hw1⟩; rw [G1.out]; subst hw1))
      go_roundw
      case rel => exact ⟨k + 1, by omega, by go_num, by rw [Y.out]; rfl, by rw [N.out]; rfl, V.out, trivial⟩
      case measure => simp [intOf]; omega
     ·go_wp2_with (go_at_call 22; go_must (refine (l6In_any _ _ _ _).mono ?_; rintro e w1 ⟨rfl, hw1⟩; rw [G1.out]; subst hw1))
      go_roundw
      case rel => exact ⟨k + 1, by omega, by go_num, by rw [Y.out, if_neg x1]; rfl, by rw [N.out, if_neg x2]; rfl, V.out, trivial⟩
      case measure => simp [intOf]; omega
  ·obtain rfl : k = t.votes.length := by omega
   rw [List.take_length] at VI hcl1 hcl2 ⊢
   have TE := hid (show tnOk t = (partsOk t.parts && (t.votes.length == t.parts.length) && decOk t) by unfold tnOk; rw [VI.out]; simp [Bool.and_assoc])
   have DE := hid (show decOk t = (if t.dec = 0 then decide (t.votes.count (-1) = 0) && decide (t.votes.count 1 < t.votes.length) else if t.dec = 2 then decide (t.votes.count 1 = t.votes.length) else if t.dec = 3 then decide (t.votes.count 1 < t.votes.length) else false) from rfl)
   generalize t.votes.count 1 = p at *
   generalize t.votes.count (-1) = q at *
   generalize decOk t = dd at *
   cases g1 : partsOk t.parts
   ·have G1 := hid g1
    clear g1
    go_wp2_with (go_at_call 86; go_must (refine (l22Parts_any lo _ t.parts _ (HP.out.grow F0.out) hl UL.out).mono ?_; rintro e w1 ⟨rfl, fr1⟩; rw [G1.out]; have F1 := hid (F0.out.trans fr1.nil)))
    go_ret
    exact ⟨ret_bool (by rw [TE.out, G1.out]; rfl), F1.out⟩
   ·have G1 := hid g1
    clear g1
    by_cases g2 : t.votes.length = t.parts.length
    ·have G2 := hid (show (t.votes.length == t.parts.length) = true by simp [g2])
     have e2 : (t.votes.length : Int) = (t.parts.length : Int) := by omega
     by_cases a0 : t.dec = 0
     ·rw [a0] at c2 B0
      have DV := DE.out
      rw [if_pos a0] at DV
      replace DV := hid DV
      by_cases q0 : q = 0
      ·subst q0
       go_wp2_with (go_at_call 86; go_must (refine (l22Parts_any lo _ t.parts _ (HP.out.grow F0.out) hl UL.out).mono ?_; rintro e w1 ⟨rfl, fr1⟩; rw [G1.out]; have F1 := hid (F0.out.trans fr1.nil); have B1 := hid (fr1.keep _ _ B0.out (.inr (by simp))); have d1 := cell_of (o := 0) B1.out rfl; have d2 := cell_of (o := 1) B1.out rfl; have d3 := cell_of (o := 2) B1.out rfl))
       go_ret
       exact ⟨ret_bool (by rw [TE.out, G1.out, G2.out, DV.out]; simp [g2]), F1.out⟩
      ·have q0i : ¬ (q : Int) = 0 := by omega
       go_wp2_with (go_at_call 86; go_must (refine (l22Parts_any lo _ t.parts _ (HP.out.grow F0.out) hl UL.out).mono ?_; rintro e w1 ⟨rfl, fr1⟩; rw [G1.out]; have F1 := hid (F0.out.trans fr1.nil); have B1 := hid (fr1.keep _ _ B0.out (.inr (by simp))); have d1 := cell_of (o := 0) B1.out rfl; have d2 := cell_of (o := 1) B1.out rfl; have d3 := cell_of (o := 2) B1.out rfl))
       go_ret
       exact ⟨ret_bool (by rw [TE.out, G1.out, G2.out, DV.out]; simp [q0]), F1.out⟩
     ·have DV := DE.out
      rw [if_neg a0] at DV
      by_cases a2 : t.dec = 2
      ·rw [if_pos a2] at DV
       rw [a2] at c2 B0
       replace DV := hid DV
       have e3 : ((p : Int) = (t.votes.length : Int)) ↔ p = t.votes.length := by omega
       go_wp2_with (go_at_call 86; go_must (refine (l22Parts_any lo _ t.parts _ (HP.out.grow F0.out) hl UL.out).mono ?_; rintro e w1 ⟨rfl, fr1⟩; rw [G1.out]; have F1 := hid (F0.out.trans fr1.nil); have B1 := hid (fr1.keep _ _ B0.out (.inr (by simp))); have d1 := cell_of (o := 0) B1.out rfl; have d2 := cell_of (o := 1) B1.out rfl; have d3 := cell_of (o := 2) B1.out rfl))
       go_ret
       exact ⟨ret_bool (by rw [TE.out, G1.out, G2.out, DV.out]; simp [g2]; rw [Bool.eq_iff_iff]; simp; omega), F1.out⟩
      ·rw [if_neg a2] at DV
       by_cases a3 : t.dec = 3
       ·rw [if_pos a3] at DV
        rw [a3] at c2 B0
        replace DV := hid DV
        go_wp2_with (go_at_call 86; go_must (refine (l22Parts_any lo _ t.parts _ (HP.out.grow F0.out) hl UL.out).mono ?_; rintro e w1 ⟨rfl, fr1⟩; rw [G1.out]; have F1 := hid (F0.out.trans fr1.nil); have B1 := hid (fr1.keep _ _ B0.out (.inr (by simp))); have d1 := cell_of (o := 0) B1.out rfl; have d2 := cell_of (o := 1) B1.out rfl; have d3 := cell_of (o := 2) B1.out rfl))
        go_ret
        exact ⟨ret_bool (by rw [TE.out, G1.out, G2.out, DV.out]; simp [g2]), F1.out⟩
       ·rw [if_neg a3] at DV
        replace DV := hid DV
        go_wp2_with (go_at_call 86; go_must (refine (l22Parts_any lo _ t.parts _ (HP.out.grow F0.out) hl UL.out).mono ?_; rintro e w1 ⟨rfl, fr1⟩; rw [G1.out]; have F1 := hid (F0.out.trans fr1.nil); have B1 := hid (fr1.keep _ _ B0.out (.inr (by simp))); have d1 := cell_of (o := 0) B1.out rfl; have d2 := cell_of (o := 1) B1.out rfl; have d3 := cell_of (o := 2) B1.out rfl))
        go_ret
        exact ⟨ret_bool (by rw [TE.out, G1.out, G2.out, DV.out]; rfl), F1.out⟩
    ·have G2 := hid (show (t.votes.length == t.parts.length) = false by simp [g2])
     have e2 : ¬ (t.votes.length : Int) = (t.parts.length : Int) := by omega
     go_wp2_with (go_at_call 86; go_must (refine (l22Parts_any lo _ t.parts _ (HP.out.grow F0.out) hl UL.out).mono ?_; rintro e w1 ⟨rfl, fr1⟩; rw [G1.out]; have F1 := hid (F0.out.trans fr1.nil); have B1 := hid (fr1.keep _ _ B0.out (.inr (by simp))); have d1 := cell_of (o := 0) B1.out rfl; have d2 := cell_of (o := 1) B1.out rfl; have d3 := cell_of (o := 2) B1.out rfl))
     go_ret
     exact ⟨ret_bool (by rw [TE.out, G1.out, G2.out]; simp), F1.out⟩

end Go.Proofs.YtknoanpgadecbaaGreatDoor
