/- The reference's l23States, l23Has, TermAgree, l23Decide, TermDecide. -/
import Derived.Test.YtknoanpgadecbaaGreatDoorQCoNet
set_option linter.unusedVariables false
set_option linter.unusedSimpArgs false
namespace Go.Proofs.YtknoanpgadecbaaGreatDoor
open Go.RowKit
set_option linter.unusedVariables false

def stOk (l : List Int) : Bool := l.all (fun x => inR x 0 3) && inR (l.length : Int) 1 3

theorem stOk_false {l : List Int} {k : Nat} (hk : k < l.length) (h : inR l[k] 0 3 = false) : stOk l = false := by
 have : l.all (fun x => inR x 0 3) = false := by
  rw [List.all_eq_false]
  exact ⟨_, List.getElem_mem hk, by simp [h]⟩
 simp [stOk, this]
theorem stOk_true {l : List Int} (h : ∀ i (hi : i < l.length), inR l[i] 0 3 = true) : stOk l = inR (l.length : Int) 1 3 := by
 have : l.all (fun x => inR x 0 3) = true := by
  rw [List.all_eq_true]
  intro x hx
  obtain ⟨i, hi, rfl⟩ := List.getElem_of_mem hx
  exact h i hi
 simp [stOk, this]

set_option maxRecDepth 20000 in
set_option maxHeartbeats 2000000 in
theorem l23States_any (K : Nat → Bool → Prop) (v : Value) (l : List Int) (w : World) (hv : IntsR K w v l) (hl : l.length ≤ 1000000000) :
  Calls Tryz.prog 215 #[v] w fun e w' => e = .returned (.bool (stOk l)) ∧ w = w' := by
 obtain ⟨a, cap, rfl, hc, hcell⟩ := hv.shape
 have HC := hid hcell
 clear hv hcell
 go_enter Tryz.func215, Tryz.ntmps215
 go_wp2
 go_loopw [3] (fun vi wx => ∃ k : Nat, k ≤ l.length ∧ vi = .int .i64 k ∧ (∀ i (hi : i < l.length), i < k → inR l[i] 0 3 = true) ∧ wx = w) (fun vi _ => l.length - (intOf vi).toNat)
 case atStart => exact ⟨0, Nat.zero_le _, rfl, fun i _ h => by omega, rfl⟩
 case round =>
  obtain ⟨k, hk, rfl, hno, rfl⟩ := hrel
  have NO := hid hno
  clear hno
  by_cases hlt : k < l.length
  ·rcases HC.out with h | ⟨b, off, rfl, hbs, hcell⟩
   ·rw [h] at hlt; simp at hlt
   have c0 := hcell k hlt
   have hki : (k : Int) < (l.length : Int) := by omega
   clear hcell
   rcases he : inR l[k] 0 3 with _ | _
   ·have R := hid (stOk_false hlt he)
    have HE := hid he
    clear he
    generalize l[k] = y at *
    go_wp2_with (go_at_call 22; go_must (refine (l6In_any _ _ _ _).mono ?_; rintro e w4 ⟨rfl, hw4⟩; rw [HE.out]; subst hw4))
    go_ret
    rw [R.out]
    exact ⟨rfl, rfl⟩
   ·have NX := hid (show ∀ i (hi : i < l.length), i < k + 1 → inR l[i] 0 3 = true from fun i hi hik => by
     by_cases e : i = k
     ·subst e; exact he
     ·exact NO.out i hi (by omega))
    have HE := hid he
    clear he
    generalize l[k] = y at *
    go_wp2_with (go_at_call 22; go_must (refine (l6In_any _ _ _ _).mono ?_; rintro e w4 ⟨rfl, hw4⟩; rw [HE.out]; subst hw4))
    go_roundw
    case rel => exact ⟨k + 1, by omega, by go_num, NX.out, trivial⟩
    case measure => simp [intOf]; omega
  ·obtain rfl : k = l.length := by omega
   have R := hid (stOk_true fun i hi => NO.out i hi hi)
   go_wp2_with (go_at_call 22; go_must (refine (l6In_any _ _ _ _).mono ?_; rintro e w4 ⟨rfl, hw4⟩; rw [← R.out]; subst hw4))
   go_ret
   exact ⟨rfl, rfl⟩

set_option maxRecDepth 20000 in
set_option maxHeartbeats 2000000 in
theorem l23Has_any (K : Nat → Bool → Prop) (v : Value) (l : List Int) (n : Int) (w : World) (hv : IntsR K w v l) (hl : l.length ≤ 1000000000) :
  Calls Tryz.prog 216 #[v, .int .i64 n] w fun e w' => e = .returned (.bool (l.contains n)) ∧ w = w' := by
 have HV := hid hv
 clear hv
 go_enter Tryz.func216, Tryz.ntmps216
 go_wp2_with (go_at_call 47; go_must (refine (l1Has_any K _ l n _ HV.out hl).mono ?_; rintro e w' ⟨rfl, rfl⟩))
 go_ret
 exact ⟨by simp, rfl⟩

set_option maxRecDepth 20000 in
set_option maxHeartbeats 4000000 in
theorem termAgree_any (K : Nat → Bool → Prop) (v : Value) (l : List Int) (w : World) (hv : IntsR K w v l) (hl : l.length ≤ 1000000000) :
  Calls Tryz.prog 197 #[v] w fun e w' => (∃ b, e = .returned (.bool b)) ∧ w = w' := by
 have HV := hid hv
 clear hv
 rcases g1 : stOk l with _ | _ <;> rcases g2 : l.contains 2 with _ | _ <;> rcases g3 : l.contains 3 with _ | _ <;> rcases g4 : l.contains 0 with _ | _ <;> (
  have G1 := hid g1
  have G2 := hid g2
  have G3 := hid g3
  have G4 := hid g4
  clear g1 g2 g3 g4
  go_enter Tryz.func197, Tryz.ntmps197
  go_wp2_with (first
   | (go_at_call 215; go_must (refine (l23States_any K _ l _ HV.out hl).mono ?_; rintro e w' ⟨rfl, rfl⟩; rw [G1.out]))
   | (go_at_call 216; go_must (refine (l23Has_any K _ l _ _ HV.out hl).mono ?_; rintro e w' ⟨rfl, rfl⟩; first | rw [G2.out] | rw [G3.out] | rw [G4.out])))
  go_ret
  exact ⟨⟨_, rfl⟩, rfl⟩)

set_option maxRecDepth 20000 in
set_option maxHeartbeats 4000000 in
theorem l23Decide_any (K : Nat → Bool → Prop) (v : Value) (l : List Int) (w : World) (hv : IntsR K w v l) (hl : l.length ≤ 1000000000) :
  Calls Tryz.prog 198 #[v] w fun e w' => (∃ n, e = .returned (.int .i64 n)) ∧ w = w' := by
 have HV := hid hv
 clear hv
 rcases g2 : l.contains 2 with _ | _ <;> rcases g3 : l.contains 3 with _ | _ <;> rcases g4 : l.contains 0 with _ | _ <;> (
  have G2 := hid g2
  have G3 := hid g3
  have G4 := hid g4
  clear g2 g3 g4
  go_enter Tryz.func198, Tryz.ntmps198
  go_wp2_with (go_at_call 216; go_must (refine (l23Has_any K _ l _ _ HV.out hl).mono ?_; rintro e w' ⟨rfl, rfl⟩; first | rw [G2.out] | rw [G3.out] | rw [G4.out]))
  go_ret
  exact ⟨⟨_, rfl⟩, rfl⟩)

set_option maxRecDepth 20000 in
set_option maxHeartbeats 4000000 in
theorem termDecide_any (K : Nat → Bool → Prop) (v : Value) (l : List Int) (w : World) (hv : IntsR K w v l) (hl : l.length ≤ 1000000000) :
  Calls Tryz.prog 190 #[v] w fun e w' => (∃ n, e = .returned (.int .i64 n)) ∧ w = w' := by
 have HV := hid hv
 clear hv
 go_enter Tryz.func190, Tryz.ntmps190
 go_upto_if 5 with (go_at_call 197; go_must (refine (termAgree_any K _ l _ HV.out hl).mono ?_; rintro e w' ⟨⟨b, rfl⟩, rfl⟩))
 rcases b with _ | _
 ·go_wp2
  go_ret
  exact ⟨⟨_, rfl⟩, rfl⟩
 ·go_wp2_with (go_at_call 198; go_must (refine (l23Decide_any K _ l _ HV.out hl).mono ?_; rintro e w' ⟨⟨n, rfl⟩, rfl⟩))
  go_ret
  exact ⟨⟨_, rfl⟩, rfl⟩

set_option maxRecDepth 20000 in
set_option maxHeartbeats 4000000 in
theorem l23Asked_any (lo : Nat) (v : Value) (ss : List (List Rc)) (txn : Int) (w : World) (hv : ShardsR lo w v ss) (hl : ss.length ≤ 1000) (hs : ∀ rs ∈ ss, ShI rs) :
  Calls Tryz.prog 191 #[v, .int .i64 txn] w fun e w' => ∃ v' l, e = .returned v' ∧ OwnV w.heap.size w' v' l ∧ l.length ≤ ss.length ∧ Fr w.heap.size [] w w' := by
 obtain ⟨a, cap, rfl, hc, hcell⟩ := hv.shape
 obtain ⟨i0, hi, hz0, hz1, hz2⟩ := info_parts infoI
 have HC := hid hcell
 have HS := hid hs
 have OW := hid (show OwnV w.heap.size (w.alloc (.cells #[] 3)) (.slice (some ⟨w.heap.size, 0, none⟩) 0 0) [] from World.ownsRow_made w #[] 0 (Nat.le_refl _) (by decide) (by simp))
 clear hv hcell hs
 go_enter Tryz.func191, Tryz.ntmps191
 go_wp2
 go_loopw [5, 6] (fun vo vi wr => ∃ (k : Nat) (l : List Int), k ≤ ss.length ∧ vi = .int .i64 k ∧ OwnV w.heap.size wr vo l ∧ l.length = k ∧ Fr w.heap.size [] w wr) (fun _ vi _ => ss.length - (intOf vi).toNat)
 case atStart => exact ⟨0, [], Nat.zero_le _, rfl, OW.out, rfl, (Fr.refl _ _ _).alloc _⟩
 case round =>
  obtain ⟨k, l, hk, rfl, how, hll, hfr⟩ := hrel
  obtain ⟨oa, ocap, hoe, _, _⟩ := how.reads.shape
  subst hoe
  have HO := hid how
  have HF := hid hfr
  have hsz := hfr.size
  have HLL := hid hll
  have hll' : l.length ≤ 1000 := by omega
  clear how hfr hll
  by_cases hlt : k < ss.length
  ·rcases HC.out with h | ⟨b, off, rfl, hbs, hcell⟩
   ·rw [h] at hlt; simp at hlt
   obtain ⟨ra, rcap, x0, hr⟩ := hcell k hlt
   have y0 := HF.out.cell hbs x0
   have HR := hid (hr.tk HF.out (by simp) (by simp))
   have SI := hid (HS.out _ (List.getElem_mem hlt))
   have hki : (k : Int) < (ss.length : Int) := by omega
   clear hcell x0 hr
   generalize ss[k] = rs at *
   go_wp2_with (first
    | (go_at_call 115; go_must (refine (l21Ask_any (new lo) _ rs _ _ HR.out SI.out.small.1).mono ?_; rintro e w' ⟨rfl, rfl⟩))
    | ((at_builtin; refine wpList_push rfl (.tmp 14) (.tmp 22) 24 rfl w.heap.size 3 i0 (.int .i64 0) 1 8 Tryz.underlying24 hi hz0 hz1 hz2 rfl (by decide) _ _ _ HO.out rfl (oneCell_int _) (by unfold maxLen; omega) (by omega) (by omega) (by rfl) _ (by rfl) (by simp [World.setCell]) ?_; intro v2 w2 hown2 hfr2 _); go_must (have HO2 := hid hown2; have HF2 := hid hfr2; clear hown2 hfr2)))
   go_roundw
   case rel => exact ⟨k + 1, l ++ [ask rs txn], by omega, by go_num, by unfold OwnV; simpa using HO2.out, by simp [HLL.out], HF.out.after HF2.out⟩
   case measure => simp [intOf]; omega
  ·obtain rfl : k = ss.length := by omega
   go_wp2
   go_ret
   exact ⟨_, l, rfl, HO.out, Nat.le_of_eq HLL.out, HF.out⟩

theorem oneSl (a : Option Addr) (n c : Nat) : ∀ u ∈ [Value.slice a n c], u.oneCell' = true := by
 intro u hu
 obtain rfl := List.mem_singleton.1 hu
 rfl

set_option maxRecDepth 20000 in
set_option maxHeartbeats 8000000 in
theorem termShards_any (lo : Nat) (v : Value) (ss : List (List Rc)) (txn : Int) (w : World) (hv : ShardsR lo w v ss) (hl : ss.length ≤ 1000) (hs : ∀ rs ∈ ss, ShI rs) :
  Calls Tryz.prog 184 #[v, .int .i64 txn] w fun e w' => ∃ v' ss' n, e = .returned (.tuple #[v', .int .i64 n]) ∧ ShardsR w.heap.size w' v' ss' ∧ ss'.length ≤ ss.length ∧ (∀ rs ∈ ss', ShI rs) ∧ Fr w.heap.size [] w w' := by
 obtain ⟨a, cap, rfl, hc, hcell⟩ := hv.shape
 obtain ⟨is, his, hsz0, hsz1, hsz2⟩ := info_parts infoS
 have HV := hid hv
 have HC := hid hcell
 have HS := hid hs
 clear hv hcell hs
 go_enter Tryz.func184, Tryz.ntmps184
 go_wp2
 go_loopw [6] (fun vi wr => ∃ k : Nat, k ≤ ss.length ∧ vi = .int .i64 k ∧ Fr w.heap.size [] w wr) (fun vi _ => ss.length - (intOf vi).toNat)
 case atStart => exact ⟨0, Nat.zero_le _, rfl, Fr.refl _ _ _⟩
 case round =>
  obtain ⟨k, hk, rfl, hfr⟩ := hrel
  have HF := hid hfr
  have hsz := hfr.size
  clear hfr
  by_cases hlt : k < ss.length
  ·rcases HC.out with h | ⟨b, off, rfl, hbs, hcell⟩
   ·rw [h] at hlt; simp at hlt
   obtain ⟨ra, rcap, x0, hr⟩ := hcell k hlt
   have y0 := HF.out.cell hbs x0
   have HR := hid (hr.tk HF.out (by simp) (by simp))
   have SI := hid (HS.out _ (List.getElem_mem hlt))
   have hki : (k : Int) < (ss.length : Int) := by omega
   clear hcell x0 hr
   generalize ss[k] = rs at *
   go_wp2_with (go_at_call 48; go_must (refine (specShardValid_any (new lo) _ rs _ HR.out SI.out.small).mono ?_; rintro e w1 ⟨rfl, fr1⟩; rw [SI.out.1]; have FR1 := hid fr1; clear fr1))
   go_roundw
   case rel => exact ⟨k + 1, by omega, by go_num, HF.out.trans FR1.out.nil⟩
   case measure => simp [intOf]; omega
  ·obtain rfl : k = ss.length := by omega
   rcases gt : inR txn 0 11 with _ | _
   ·have GT := hid gt
    clear gt
    go_wp2_with (go_at_call 112; go_must (refine (l12Txn_any _ _).mono ?_; rintro e w' ⟨rfl, rfl⟩; rw [GT.out]))
    exact bodyPost_ret (v := .tuple #[.slice (some ⟨wr.heap.size, 0, none⟩) 0 0, .int .i64 0]) (by simp [results, Tryz.results184, go_sem]) rfl ⟨_, [], 0, rfl, ⟨[], rfl, SlR.ofOwns (ownsRow_lo (World.ownsRow_made (e := 81) (size := 1) wr #[] 0 (Nat.le_refl _) (by decide) (by simp)) hsz), fun z hz => by cases hz⟩, Nat.zero_le _, fun rs hrs => (by cases hrs), HF.out.alloc _⟩
   ·have GT := hid gt
    clear gt
    go_wp2_with (first
     | (go_at_call 112; go_must (refine (l12Txn_any _ _).mono ?_; rintro e w' ⟨rfl, rfl⟩; rw [GT.out]))
     | (go_at_call 191; go_must (refine (l23Asked_any lo _ ss txn _ (HV.out.tk HF.out (by simp) (by simp) (by simp)) hl HS.out).mono ?_; rintro e w2 ⟨vl, l, rfl, ol, hll, fr2⟩; have OL := hid ol; have FR2 := hid fr2; clear ol fr2))
     | (go_at_call 190; go_must (refine (termDecide_any (new wr.heap.size) _ l _ OL.out.reads (by omega)).mono ?_; rintro e w' ⟨⟨n, rfl⟩, rfl⟩)))
    have OW := hid (World.ownsRow_made (e := 81) (size := 1) w2 #[] 0 (Nat.le_refl _) (by decide) (by simp))
    have F2 := hid (HF.out.trans FR2.out.nil)
    have hs2 := F2.out.size
    go_loopw [8, 9] (fun vo vi wr => ∃ (k : Nat) (zs : List (List Rc × Value)), k ≤ ss.length ∧ vi = .int .i64 k ∧ zs.length = k ∧ wr.ownsRow w.heap.size 81 1 vo k (zs.map (·.2)) ∧ (∀ z ∈ zs, RecsR (new w.heap.size) wr z.2 z.1 ∧ ShI z.1) ∧ Fr w.heap.size [] w wr) (fun _ vi _ => ss.length - (intOf vi).toNat)
    case atStart => exact ⟨0, [], Nat.zero_le _, rfl, rfl, ownsRow_lo OW.out hs2, fun z hz => (by cases hz), F2.out.alloc _⟩
    case round =>
     clear OW F2 hs2 HF hsz FR2 OL
     obtain ⟨k, zs, hk, rfl, hzl, how, hzs, hfr⟩ := hrel
     obtain ⟨oa, ocap, hoe⟩ := own_any how
     subst hoe
     have HO := hid how
     have HZ := hid hzs
     have HF := hid hfr
     have HZL := hid hzl
     have hsz := hfr.size
     clear how hzs hfr hzl
     by_cases hlt : k < ss.length
     ·rcases HC.out with h | ⟨b, off, rfl, hbs, hcell⟩
      ·rw [h] at hlt; simp at hlt
      obtain ⟨ra, rcap, x0, hr⟩ := hcell k hlt
      have y0 := HF.out.cell hbs x0
      have HR := hid (hr.tk HF.out (by simp) (by simp))
      have SI := hid (HS.out _ (List.getElem_mem hlt))
      have hki : (k : Int) < (ss.length : Int) := by omega
      clear hcell x0 hr
      generalize ss[k] = rs at *
      go_upto_if 45 with (go_at_call 68; go_must (refine (l21Copy_any (new lo) _ rs _ HR.out SI.out.small).mono ?_; rintro e w1 ⟨u1, rfl, own1, fr1⟩; obtain ⟨ca, ccap, rfl, _, _⟩ := own1.reads.shape; have RC := hid own1.reads; have FR1 := hid fr1; clear own1 fr1))
      have BX := hid (heap_alloc_new w1 (.cells #[.slice ca rs.length ccap] 81))
      have FP := hid (FR1.out.alloc (.cells #[.slice ca rs.length ccap] 81))
      have RW := hid ((RC.out.weak (new_low hsz)).grow ((Fr.refl 0 [] w1).alloc (.cells #[.slice ca rs.length ccap] 81)))
      have hXw : wr.heap.size ≤ w1.heap.size := FR1.out.size
      obtain ⟨W, hW⟩ : ∃ W : World, W = w1.alloc (.cells #[.slice ca rs.length ccap] 81) := ⟨_, rfl⟩
      obtain ⟨X, hX⟩ : ∃ X, X = w1.heap.size := ⟨_, rfl⟩
      rw [← hW] at BX FP RW ⊢
      rw [← hX] at BX hXw ⊢
      clear hW hX RC FR1
      have x0 := cell_of (o := 0) BX.out rfl
      have x1 := free_of (o := 0) BX.out
      by_cases hn : n = 0
      ·subst hn
       go_wp2_with (at_builtin; go_must (refine wpList_push rfl (.tmp 57) (.tmp 59) 27 rfl w.heap.size 81 is (.agg #[.slice none 0 0]) 1 24 Tryz.underlying27 his hsz0 hsz1 hsz2 rfl (by decide) _ _ _ (ownsRow_grow HO.out FP.out) rfl (oneSl _ _ _) (by unfold maxLen; omega) (by omega) (Nat.le_trans hsz FP.out.size) (by rfl) _ (by rfl) (by simp [World.setCell]) ?_; intro v4 w4 own4 fr4 _; have OWN4 := hid own4; have FR4 := hid fr4; clear own4 fr4))
       go_roundw
       case rel =>
        refine ⟨k + 1, zs ++ [(rs, .slice ca rs.length ccap)], by omega, by go_num, by rw [List.length_append, HZL.out]; rfl, by rw [List.map_append]; exact OWN4.out, fun z hz => ?_, (HF.out.trans FP.out.nil).after FR4.out⟩
        rcases List.mem_append.1 hz with hz | hz
        ·exact ⟨((HZ.out z hz).1.tk FP.out (by simp) (by simp)).tk FR4.out (by simp) (by simp), (HZ.out z hz).2⟩
        ·obtain rfl := List.mem_singleton.1 hz
         exact ⟨(RW.out).tk FR4.out (by simp) (by simp), SI.out⟩
       case measure => simp [intOf]; omega
      ·have hnb : (n != 0) = true := by simpa using hn
       have y1 := FP.out.cell (World.block_lt_of_cell? _ _ y0) y0
       go_wp2_with (first
        | (go_at_call 79; go_must (refine (specShardDecide_any (new lo) _ rs txn _ _ (HR.out.grow FP.out) SI.out.small).mono ?_; rintro e w2 ⟨u2, rfl, own2, fr2⟩; have DI := hid (fun c => SI.out.dec txn c); obtain ⟨da, dcap, rfl, _, _⟩ := own2.reads.shape; have RD := hid (own2.reads.weak (new_low (Nat.le_trans hsz FP.out.size))); have EX := hid (fr2.keep _ _ BX.out (.inr (by simp))); have FQ := hid (FP.out.trans fr2.nil); have z0 := cell_of (o := 0) EX.out rfl; have z1 := free_of (o := 0) EX.out; clear own2 fr2))
        | (at_builtin; go_must (refine wpList_push rfl (.tmp 57) (.tmp 59) 27 rfl w.heap.size 81 is (.agg #[.slice none 0 0]) 1 24 Tryz.underlying27 his hsz0 hsz1 hsz2 rfl (by decide) _ _ _ (ownsRow_grow HO.out (FQ.out.setNew (p := ⟨X, 0, none⟩) hXw _)) rfl (oneSl _ _ _) (by unfold maxLen; omega) (by omega) (Nat.le_trans hsz (FQ.out.setNew (p := ⟨X, 0, none⟩) hXw _).size) (by rfl) _ (by rfl) (by simp [World.setCell]) ?_; intro v4 w4 own4 fr4 _; have OWN4 := hid own4; have FR4 := hid fr4; clear own4 fr4)))
       have FS := (Fr.refl 0 [81] w2).setOld (p := ⟨X, 0, none⟩) EX.out (Nat.zero_le _) (by simp [otag]) (.slice da (dec rs txn (n == 2)).fst.length dcap)
       have FP2 := FQ.out.setNew (p := ⟨X, 0, none⟩) hXw (.slice da (dec rs txn (n == 2)).fst.length dcap)
       go_roundw
       case rel =>
        refine ⟨k + 1, zs ++ [((dec rs txn (n == 2)).1, .slice da (dec rs txn (n == 2)).1.length dcap)], by omega, by go_num, by rw [List.length_append, HZL.out]; rfl, by rw [List.map_append]; exact OWN4.out, fun z hz => ?_, (HF.out.trans FP2.nil).after FR4.out⟩
        rcases List.mem_append.1 hz with hz | hz
        ·exact ⟨((HZ.out z hz).1.tk FP2 (by simp) (by simp)).tk FR4.out (by simp) (by simp), (HZ.out z hz).2⟩
        ·obtain rfl := List.mem_singleton.1 hz
         exact ⟨(RD.out.tk FS (by simp) (by simp)).tk FR4.out (by simp) (by simp), DI.out _⟩
       case measure => simp [intOf]; omega
     ·obtain rfl : k = ss.length := by omega
      go_wp2
      exact bodyPost_ret (v := .tuple #[.slice oa ss.length ocap, .int .i64 n]) (by simp [results, Tryz.results184, go_sem]) rfl ⟨_, zs.map (·.1), n, rfl, ⟨zs, rfl, by rw [List.length_map, HZL.out]; exact SlR.ofOwns HO.out, fun z hz => (HZ.out z hz).1⟩, Nat.le_of_eq (by rw [List.length_map]; exact HZL.out), fun rs hrs => by obtain ⟨z, hz, rfl⟩ := List.mem_map.1 hrs; exact (HZ.out z hz).2, HF.out⟩

end Go.Proofs.YtknoanpgadecbaaGreatDoor
