/- The reference's l23States, l23Has, TermAgree, l23Decide, TermDecide. -/
import Derived.Test.YtknoanpgadecbaaGreatQCoNet
import Derived.Test.YtknoanpgadecbaaGreatQM7
import Derived.Test.YtknoanpgadecbaaGreatQM8
set_option linter.unusedVariables false
set_option linter.unusedSimpArgs false
namespace Go.Proofs.YtknoanpgadecbaaGreat
open Go.RowKit
set_option linter.unusedVariables false

def stOk (l : List Int) : Bool := l.all (fun x => inR x 0 3) && inR (l.length : Int) 1 3

theorem stOk_false {l : List Int} {k : Nat} (hk : k < l.length) (h : inR l[k] 0 3 = false) : stOk l = false := by
 have : l.all (fun x => inR x 0 3) = false := by
  rw [List.all_eq_false]
  exact ⟨_, List.getElem_mem hk, by simp [h]⟩
 simp [stOk, this]
theorem stOk_true {l : List Int} (h : ∀ i (hi : i < l.length), inR l[i] 0 3 = true) : stOk l = inR (l.length : Int) 1 3 := by
 have : l.all (fun x => inR x 0 3) = true := by
  rw [List.all_eq_true]
  intro x hx
  obtain ⟨i, hi, rfl⟩ := List.getElem_of_mem hx
  exact h i hi
 simp [stOk, this]

set_option maxRecDepth 20000 in
set_option maxHeartbeats 2000000 in
theorem l23States_any (K : Nat → Bool → Prop) (v : Value) (l : List Int) (w : World) (hv : IntsR K w v l) (hl : l.length ≤ 1000000000) :
  Calls Tryz.prog 143 #[v] w fun e w' => e = .returned (.bool (stOk l)) ∧ w = w' := by
 obtain ⟨a, cap, rfl, hc, hcell⟩ := hv.shape
 have HC := hid hcell
 clear hv hcell
 go_enter Tryz.func143, Tryz.ntmps143
 go_wp2
 go_loopw [3] (fun vi wx => ∃ k : Nat, k ≤ l.length ∧ vi = .int .i64 k ∧ (∀ i (hi : i < l.length), i < k → inR l[i] 0 3 = true) ∧ wx = w) (fun vi _ => l.length - (intOf vi).toNat)
 case atStart => exact ⟨0, Nat.zero_le _, rfl, fun i _ h => by omega, rfl⟩
 case round =>
  obtain ⟨k, hk, rfl, hno, rfl⟩ := hrel
  have NO := hid hno
  clear hno
  by_cases hlt : k < l.length
  ·rcases HC.out with h | ⟨b, off, rfl, hbs, hcell⟩
   ·rw [h] at hlt; simp at hlt
   have c0 := hcell k hlt
   have hki : (k : Int) < (l.length : Int) := by omega
   clear hcell
   rcases he : inR l[k] 0 3 with _ | _
   ·have R := hid (stOk_false hlt he)
    have HE := hid he
    clear he
    generalize l[k] = y at *
    go_wp2_with (go_at_call 39; go_must (refine (l6In_any _ _ _ _).mono ?_; rintro e w4 ⟨rfl, hw4⟩; rw [HE.out]; subst hw4))
    go_ret
    rw [R.out]
    exact ⟨rfl, rfl⟩
   ·have NX := hid (show ∀ i (hi : i < l.length), i < k + 1 → inR l[i] 0 3 = true from fun i hi hik => by
     by_cases e : i = k
     ·subst e; exact he
     ·exact NO.out i hi (by omega))
    have HE := hid he
    clear he
    generalize l[k] = y at *
    go_wp2_with (go_at_call 39; go_must (refine (l6In_any _ _ _ _).mono ?_; rintro e w4 ⟨rfl, hw4⟩; rw [HE.out]; subst hw4))
    go_roundw
    case rel => exact ⟨k + 1, by omega, by go_num, NX.out, trivial⟩
    case measure => simp [intOf]; omega
  ·obtain rfl : k = l.length := by omega
   have R := hid (stOk_true fun i hi => NO.out i hi hi)
   go_wp2_with (go_at_call 39; go_must (refine (l6In_any _ _ _ _).mono ?_; rintro e w4 ⟨rfl, hw4⟩; rw [← R.out]; subst hw4))
   go_ret
   exact ⟨rfl, rfl⟩

set_option maxRecDepth 20000 in
set_option maxHeartbeats 2000000 in
theorem l23Has_any (K : Nat → Bool → Prop) (v : Value) (l : List Int) (n : Int) (w : World) (hv : IntsR K w v l) (hl : l.length ≤ 1000000000) :
  Calls Tryz.prog 144 #[v, .int .i64 n] w fun e w' => e = .returned (.bool (l.contains n)) ∧ w = w' := by
 have HV := hid hv
 clear hv
 go_enter Tryz.func144, Tryz.ntmps144
 go_wp2_with (go_at_call 69; go_must (refine (l1Has_any K _ l n _ HV.out hl).mono ?_; rintro e w' ⟨rfl, rfl⟩))
 go_ret
 exact ⟨by simp, rfl⟩

set_option maxRecDepth 20000 in
set_option maxHeartbeats 4000000 in
theorem termAgree_any (K : Nat → Bool → Prop) (v : Value) (l : List Int) (w : World) (hv : IntsR K w v l) (hl : l.length ≤ 1000000000) :
  Calls Tryz.prog 141 #[v] w fun e w' => (∃ b, e = .returned (.bool b)) ∧ w = w' := by
 have HV := hid hv
 clear hv
 rcases g1 : stOk l with _ | _ <;> rcases g2 : l.contains 2 with _ | _ <;> rcases g3 : l.contains 3 with _ | _ <;> rcases g4 : l.contains 0 with _ | _ <;> (
  have G1 := hid g1
  have G2 := hid g2
  have G3 := hid g3
  have G4 := hid g4
  clear g1 g2 g3 g4
  go_enter Tryz.func141, Tryz.ntmps141
  go_wp2_with (first
   | (go_at_call 143; go_must (refine (l23States_any K _ l _ HV.out hl).mono ?_; rintro e w' ⟨rfl, rfl⟩; rw [G1.out]))
   | (go_at_call 144; go_must (refine (l23Has_any K _ l _ _ HV.out hl).mono ?_; rintro e w' ⟨rfl, rfl⟩; first | rw [G2.out] | rw [G3.out] | rw [G4.out])))
  go_ret
  exact ⟨⟨_, rfl⟩, rfl⟩)

set_option maxRecDepth 20000 in
set_option maxHeartbeats 4000000 in
theorem l23Decide_any (K : Nat → Bool → Prop) (v : Value) (l : List Int) (w : World) (hv : IntsR K w v l) (hl : l.length ≤ 1000000000) :
  Calls Tryz.prog 142 #[v] w fun e w' => (∃ n, e = .returned (.int .i64 n)) ∧ w = w' := by
 have HV := hid hv
 clear hv
 rcases g2 : l.contains 2 with _ | _ <;> rcases g3 : l.contains 3 with _ | _ <;> rcases g4 : l.contains 0 with _ | _ <;> (
  have G2 := hid g2
  have G3 := hid g3
  have G4 := hid g4
  clear g2 g3 g4
  go_enter Tryz.func142, Tryz.ntmps142
  go_wp2_with (go_at_call 144; go_must (refine (l23Has_any K _ l _ _ HV.out hl).mono ?_; rintro e w' ⟨rfl, rfl⟩; first | rw [G2.out] | rw [G3.out] | rw [G4.out]))
  go_ret
  exact ⟨⟨_, rfl⟩, rfl⟩)

set_option maxRecDepth 20000 in
set_option maxHeartbeats 4000000 in
theorem termDecide_any (K : Nat → Bool → Prop) (v : Value) (l : List Int) (w : World) (hv : IntsR K w v l) (hl : l.length ≤ 1000000000) :
  Calls Tryz.prog 138 #[v] w fun e w' => (∃ n, e = .returned (.int .i64 n)) ∧ w = w' := by
 have HV := hid hv
 clear hv
 go_enter Tryz.func138, Tryz.ntmps138
 go_upto_if 5 with (go_at_call 141; go_must (refine (termAgree_any K _ l _ HV.out hl).mono ?_; rintro e w' ⟨⟨b, rfl⟩, rfl⟩))
 rcases b with _ | _
 ·go_wp2
  go_ret
  exact ⟨⟨_, rfl⟩, rfl⟩
 ·go_wp2_with (go_at_call 142; go_must (refine (l23Decide_any K _ l _ HV.out hl).mono ?_; rintro e w' ⟨⟨n, rfl⟩, rfl⟩))
  go_ret
  exact ⟨⟨_, rfl⟩, rfl⟩

set_option maxRecDepth 20000 in
set_option maxHeartbeats 4000000 in
theorem l23Asked_any (lo : Nat) (v : Value) (ss : List (List Rc)) (txn : Int) (w : World) (hv : ShardsR lo w v ss) (hl : ss.length ≤ 1000) (hs : ∀ rs ∈ ss, ShI rs) :
  Calls Tryz.prog 139 #[v, .int .i64 txn] w fun e w' => ∃ v' l, e = .returned v' ∧ OwnV w.heap.size w' v' l ∧ l.length ≤ ss.length ∧ Fr w.heap.size [] w w' := by
 obtain ⟨a, cap, rfl, hc, hcell⟩ := hv.shape
 obtain ⟨i0, hi, hz0, hz1, hz2⟩ := info_parts infoI
 have HC := hid hcell
 have HS := hid hs
 have OW := hid (show OwnV w.heap.size (w.alloc (.cells #[] 3)) (.slice (some ⟨w.heap.size, 0, none⟩) 0 0) [] from World.ownsRow_made w #[] 0 (Nat.le_refl _) (by decide) (by simp))
 clear hv hcell hs
 go_enter Tryz.func139, Tryz.ntmps139
 go_wp2
 go_loopw [5, 6] (fun vo vi wr => ∃ (k : Nat) (l : List Int), k ≤ ss.length ∧ vi = .int .i64 k ∧ OwnV w.heap.size wr vo l ∧ l.length = k ∧ Fr w.heap.size [] w wr) (fun _ vi _ => ss.length - (intOf vi).toNat)
 case atStart => exact ⟨0, [], Nat.zero_le _, rfl, OW.out, rfl, (Fr.refl _ _ _).alloc _⟩
 case round =>
  obtain ⟨k, l, hk, rfl, how, hll, hfr⟩ := hrel
  obtain ⟨oa, ocap, hoe, _, _⟩ := how.reads.shape
  subst hoe
  have HO := hid how
  have HF := hid hfr
  have hsz := hfr.size
  have HLL := hid hll
  have hll' : l.length ≤ 1000 := by omega
  clear how hfr hll
  by_cases hlt : k < ss.length
  ·rcases HC.out with h | ⟨b, off, rfl, hbs, hcell⟩
   ·rw [h] at hlt; simp at hlt
   obtain ⟨ra, rcap, x0, hr⟩ := hcell k hlt
   have y0 := HF.out.cell hbs x0
   have HR := hid (hr.tk HF.out (by simp) (by simp))
   have SI := hid (HS.out _ (List.getElem_mem hlt))
   have hki : (k : Int) < (ss.length : Int) := by omega
   clear hcell x0 hr
   generalize ss[k] = rs at *
   go_wp2_with (first
    | (go_at_call 45; go_must (refine (l21Ask_any (new lo) _ rs _ _ HR.out SI.out.small.1).mono ?_; rintro e w' ⟨rfl, rfl⟩))
    | ((at_builtin; refine wpList_push rfl (.tmp 14) (.tmp 22) 24 rfl w.heap.size 3 i0 (.int .i64 0) 1 8 Tryz.underlying24 hi hz0 hz1 hz2 rfl (by decide) _ _ _ HO.out rfl (oneCell_int _) (by unfold maxLen; omega) (by omega) (by omega) (by rfl) _ (by rfl) (by simp [World.setCell]) ?_; intro v2 w2 hown2 hfr2 _); go_must (have HO2 := hid hown2; have HF2 := hid hfr2; clear hown2 hfr2)))
   go_roundw
   case rel => exact ⟨k + 1, l ++ [ask rs txn], by omega, by go_num, by unfold OwnV; simpa using HO2.out, by simp [HLL.out], HF.out.after HF2.out⟩
   case measure => simp [intOf]; omega
  ·obtain rfl : k = ss.length := by omega
   go_wp2
   go_ret
   exact ⟨_, l, rfl, HO.out, Nat.le_of_eq HLL.out, HF.out⟩

theorem oneSl (a : Option Addr) (n c : Nat) : ∀ u ∈ [Value.slice a n c], u.oneCell' = true := by
 intro u hu
 obtain rfl := List.mem_singleton.1 hu
 rfl

set_option maxRecDepth 20000 in
set_option maxHeartbeats 8000000 in
theorem termShards_any (lo : Nat) (v : Value) (ss : List (List Rc)) (txn : Int) (w : World) (hv : ShardsR lo w v ss) (hl : ss.length ≤ 1000) (hs : ∀ rs ∈ ss, ShI rs) :
  Calls Tryz.prog 128 #[v, .int .i64 txn] w fun e w' => ∃ v' ss' n, e = .returned (.tuple #[v', .int .i64 n]) ∧ ShardsR w.heap.size w' v' ss' ∧ ss'.length ≤ ss.length ∧ (∀ rs ∈ ss', ShI rs) ∧ Fr w.heap.size [] w w' := by
 obtain ⟨a, cap, rfl, hc, hcell⟩ := hv.shape
 obtain ⟨is, his, hsz0, hsz1, hsz2⟩ := info_parts infoS
 have HV := hid hv
 have HC := hid hcell
 have HS := hid hs
 clear hv hcell hs
 go_enter Tryz.func128, Tryz.ntmps128
 go_wp2
 go_loopw [6] (fun vi wr => ∃ k : Nat, k ≤ ss.length ∧ vi = .int .i64 k ∧ Fr w.heap.size [] w wr) (fun vi _ => ss.length - (intOf vi).toNat)
 case atStart => exact ⟨0, Nat.zero_le _, rfl, Fr.refl _ _ _⟩
 case round =>
  obtain ⟨k, hk, rfl, hfr⟩ := hrel
  have HF := hid hfr
  have hsz := hfr.size
  clear hfr
  by_cases hlt : k < ss.length
  ·rcases HC.out with h | ⟨b, off, rfl, hbs, hcell⟩
   ·rw [h] at hlt; simp at hlt
   obtain ⟨ra, rcap, x0, hr⟩ := hcell k hlt
   have y0 := HF.out.cell hbs x0
   have HR := hid (hr.tk HF.out (by simp) (by simp))
   have SI := hid (HS.out _ (List.getElem_mem hlt))
   have hki : (k : Int) < (ss.length : Int) := by omega
   clear hcell x0 hr
   generalize ss[k] = rs at *
   go_wp2_with (go_at_call 55; go_must (refine (specShardValid_any (new lo) _ rs _ HR.out SI.out.small).mono ?_; rintro e w1 ⟨rfl, fr1⟩; rw [SI.out.1]; have FR1 := hid fr1; clear fr1))
   go_roundw
   case rel => exact ⟨k + 1, by omega, by go_num, HF.out.trans FR1.out.nil⟩
   case measure => simp [intOf]; omega
  ·obtain rfl : k = ss.length := by omega
   rcases gt : inR txn 0 11 with _ | _
   ·have GT := hid gt
    clear gt
    go_wp2_with (go_at_call 84; go_must (refine (l12Txn_any _ _).mono ?_; rintro e w' ⟨rfl, rfl⟩; rw [GT.out]))
    exact bodyPost_ret (v := .tuple #[.slice (some ⟨wr.heap.size, 0, none⟩) 0 0, .int .i64 0]) (by simp [results, Tryz.results128, go_sem]) rfl ⟨_, [], 0, rfl, ⟨[], rfl, SlR.ofOwns (ownsRow_lo (World.ownsRow_made (e := 37) (size := 1) wr #[] 0 (Nat.le_refl _) (by decide) (by simp)) hsz), fun z hz => by cases hz⟩, Nat.zero_le _, fun rs hrs => (by cases hrs), HF.out.alloc _⟩
   ·have GT := hid gt
    clear gt
    go_wp2_with (first
     | (go_at_call 84; go_must (refine (l12Txn_any _ _).mono ?_; rintro e w' ⟨rfl, rfl⟩; rw [GT.out]))
     | (go_at_call 139; go_must (refine (l23Asked_any lo _ ss txn _ (HV.out.tk HF.out (by simp) (by simp) (by simp)) hl HS.out).mono ?_; rintro e w2 ⟨vl, l, rfl, ol, hll, fr2⟩; have OL := hid ol; have FR2 := hid fr2; clear ol fr2))
     | (go_at_call 138; go_must (refine (termDecide_any (new wr.heap.size) _ l _ OL.out.reads (by omega)).mono ?_; rintro e w' ⟨⟨n, rfl⟩, rfl⟩)))
    have OW := hid (World.ownsRow_made (e := 37) (size := 1) w2 #[] 0 (Nat.le_refl _) (by decide) (by simp))
    have F2 := hid (HF.out.trans FR2.out.nil)
    have hs2 := F2.out.size
    go_loopw [8, 9] (fun vo vi wr => ∃ (k : Nat) (zs : List (List Rc × Value)), k ≤ ss.length ∧ vi = .int .i64 k ∧ zs.length = k ∧ wr.ownsRow w.heap.size 37 1 vo k (zs.map (·.2)) ∧ (∀ z ∈ zs, RecsR (new w.heap.size) wr z.2 z.1 ∧ ShI z.1) ∧ Fr w.heap.size [] w wr) (fun _ vi _ => ss.length - (intOf vi).toNat)
    case atStart => exact ⟨0, [], Nat.zero_le _, rfl, rfl, ownsRow_lo OW.out hs2, fun z hz => (by cases hz), F2.out.alloc _⟩
    case round =>
     clear OW F2 hs2 HF hsz FR2 OL
     obtain ⟨k, zs, hk, rfl, hzl, how, hzs, hfr⟩ := hrel
     obtain ⟨oa, ocap, hoe⟩ := own_any how
     subst hoe
     have HO := hid how
     have HZ := hid hzs
     have HF := hid hfr
     have HZL := hid hzl
     have hsz := hfr.size
     clear how hzs hfr hzl
     by_cases hlt : k < ss.length
     ·rcases HC.out with h | ⟨b, off, rfl, hbs, hcell⟩
      ·rw [h] at hlt; simp at hlt
      obtain ⟨ra, rcap, x0, hr⟩ := hcell k hlt
      have y0 := HF.out.cell hbs x0
      have HR := hid (hr.tk HF.out (by simp) (by simp))
      have SI := hid (HS.out _ (List.getElem_mem hlt))
      have hki : (k : Int) < (ss.length : Int) := by omega
      clear hcell x0 hr
      generalize ss[k] = rs at *
      go_upto_if 45 with (go_at_call 47; go_must (refine (l21Copy_any (new lo) _ rs _ HR.out SI.out.small).mono ?_; rintro e w1 ⟨u1, rfl, own1, fr1⟩; obtain ⟨ca, ccap, rfl, _, _⟩ := own1.reads.shape; have RC := hid own1.reads; have FR1 := hid fr1; clear own1 fr1))
      have BX := hid (heap_alloc_new w1 (.cells #[.slice ca rs.length ccap] 37))
      have FP := hid (FR1.out.alloc (.cells #[.slice ca rs.length ccap] 37))
      have RW := hid ((RC.out.weak (new_low hsz)).grow ((Fr.refl 0 [] w1).alloc (.cells #[.slice ca rs.length ccap] 37)))
      have hXw : wr.heap.size ≤ w1.heap.size := FR1.out.size
      obtain ⟨W, hW⟩ : ∃ W : World, W = w1.alloc (.cells #[.slice ca rs.length ccap] 37) := ⟨_, rfl⟩
      obtain ⟨X, hX⟩ : ∃ X, X = w1.heap.size := ⟨_, rfl⟩
      rw [← hW] at BX FP RW ⊢
      rw [← hX] at BX hXw ⊢
      clear hW hX RC FR1
      have x0 := cell_of (o := 0) BX.out rfl
      have x1 := free_of (o := 0) BX.out
      by_cases hn : n = 0
      ·subst hn
       go_wp2_with (at_builtin; go_must (refine wpList_push rfl (.tmp 57) (.tmp 59) 27 rfl w.heap.size 37 is (.agg #[.slice none 0 0]) 1 24 Tryz.underlying27 his hsz0 hsz1 hsz2 rfl (by decide) _ _ _ (ownsRow_grow HO.out FP.out) rfl (oneSl _ _ _) (by unfold maxLen; omega) (by omega) (Nat.le_trans hsz FP.out.size) (by rfl) _ (by rfl) (by simp [World.setCell]) ?_; intro v4 w4 own4 fr4 _; have OWN4 := hid own4; have FR4 := hid fr4; clear own4 fr4))
       go_roundw
       case rel =>
        refine ⟨k + 1, zs ++ [(rs, .slice ca rs.length ccap)], by omega, by go_num, by rw [List.length_append, HZL.out]; rfl, by rw [List.map_append]; exact OWN4.out, fun z hz => ?_, (HF.out.trans FP.out.nil).after FR4.out⟩
        rcases List.mem_append.1 hz with hz | hz
        ·exact ⟨((HZ.out z hz).1.tk FP.out (by simp) (by simp)).tk FR4.out (by simp) (by simp), (HZ.out z hz).2⟩
        ·obtain rfl := List.mem_singleton.1 hz
         exact ⟨(RW.out).tk FR4.out (by simp) (by simp), SI.out⟩
       case measure => simp [intOf]; omega
      ·have hnb : (n != 0) = true := by simpa using hn
       have y1 := FP.out.cell (World.block_lt_of_cell? _ _ y0) y0
       go_wp2_with (first
        | (go_at_call 54; go_must (refine (specShardDecide_any (new lo) _ rs txn _ _ (HR.out.grow FP.out) SI.out.small).mono ?_; rintro e w2 ⟨u2, rfl, own2, fr2⟩; have DI := hid (fun c => SI.out.dec txn c); obtain ⟨da, dcap, rfl, _, _⟩ := own2.reads.shape; have RD := hid (own2.reads.weak (new_low (Nat.le_trans hsz FP.out.size))); have EX := hid (fr2.keep _ _ BX.out (.inr (by simp))); have FQ := hid (FP.out.trans fr2.nil); have z0 := cell_of (o := 0) EX.out rfl; have z1 := free_of (o := 0) EX.out; clear own2 fr2))
        | (at_builtin; go_must (refine wpList_push rfl (.tmp 57) (.tmp 59) 27 rfl w.heap.size 37 is (.agg #[.slice none 0 0]) 1 24 Tryz.underlying27 his hsz0 hsz1 hsz2 rfl (by decide) _ _ _ (ownsRow_grow HO.out (FQ.out.setNew (p := ⟨X, 0, none⟩) hXw _)) rfl (oneSl _ _ _) (by unfold maxLen; omega) (by omega) (Nat.le_trans hsz (FQ.out.setNew (p := ⟨X, 0, none⟩) hXw _).size) (by rfl) _ (by rfl) (by simp [World.setCell]) ?_; intro v4 w4 own4 fr4 _; have OWN4 := hid own4; have FR4 := hid fr4; clear own4 fr4)))
       have FS := (Fr.refl 0 [37] w2).setOld (p := ⟨X, 0, none⟩) EX.out (Nat.zero_le _) (by simp [otag]) (.slice da (dec rs txn (n == 2)).fst.length dcap)
       have FP2 := FQ.out.setNew (p := ⟨X, 0, none⟩) hXw (.slice da (dec rs txn (n == 2)).fst.length dcap)
       go_roundw
       case rel =>
        refine ⟨k + 1, zs ++ [((dec rs txn (n == 2)).1, .slice da (dec rs txn (n == 2)).1.length dcap)], by omega, by go_num, by rw [List.length_append, HZL.out]; rfl, by rw [List.map_append]; exact OWN4.out, fun z hz => ?_, (HF.out.trans FP2.nil).after FR4.out⟩
        rcases List.mem_append.1 hz with hz | hz
        ·exact ⟨((HZ.out z hz).1.tk FP2 (by simp) (by simp)).tk FR4.out (by simp) (by simp), (HZ.out z hz).2⟩
        ·obtain rfl := List.mem_singleton.1 hz
         exact ⟨(RD.out.tk FS (by simp) (by simp)).tk FR4.out (by simp) (by simp), DI.out _⟩
       case measure => simp [intOf]; omega
     ·obtain rfl : k = ss.length := by omega
      go_wp2
      exact bodyPost_ret (v := .tuple #[.slice oa ss.length ocap, .int .i64 n]) (by simp [results, Tryz.results128, go_sem]) rfl ⟨_, zs.map (·.1), n, rfl, ⟨zs, rfl, by rw [List.length_map, HZL.out]; exact SlR.ofOwns HO.out, fun z hz => (HZ.out z hz).1⟩, Nat.le_of_eq (by rw [List.length_map]; exact HZL.out), fun rs hrs => by obtain ⟨z, hz, rfl⟩ := List.mem_map.1 hrs; exact (HZ.out z hz).2, HF.out⟩

theorem infoL : (Tryz.prog.info? 24).map (fun i => (i.zero, i.size, i.bytes)) = some (some (.slice none 0 0), 1, 24) := by kernel_rfl

def MatR (lo : Nat) (w : World) (v : Value) (ls : List (List Int)) : Prop :=
 ∃ zs : List (List Int × Value), zs.map (·.1) = ls ∧ SlR (new lo) 24 1 w v ls.length (zs.map (·.2)) ∧ ∀ z ∈ zs, IntsR (new lo) w z.2 z.1
def MatOwn (lo : Nat) (w : World) (v : Value) (ls : List (List Int)) : Prop :=
 ∃ zs : List (List Int × Value), zs.map (·.1) = ls ∧ w.ownsRow lo 24 1 v ls.length (zs.map (·.2)) ∧ ∀ z ∈ zs, IntsR (new lo) w z.2 z.1

theorem MatOwn.reads {lo : Nat} {w : World} {v : Value} {ls : List (List Int)} (h : MatOwn lo w v ls) : MatR lo w v ls := by
 obtain ⟨zs, h1, h2, h3⟩ := h
 exact ⟨zs, h1, SlR.ofOwns h2, h3⟩
theorem MatR.tk {lo B : Nat} {T : List Nat} {w w' : World} {v : Value} {ls : List (List Int)} (h : MatR lo w v ls) (hf : Fr B T w w') (h0 : 24 ∉ T) (h1 : 3 ∉ T) : MatR lo w' v ls := by
 obtain ⟨zs, g1, g2, g3⟩ := h
 exact ⟨zs, g1, g2.keep hf (Safe.new h0), fun z hz => (g3 z hz).tk hf h1⟩
theorem MatOwn.tk {lo B : Nat} {T : List Nat} {w w' : World} {v : Value} {ls : List (List Int)} (h : MatOwn lo w v ls) (hf : Fr B T w w') (h0 : 24 ∉ T) (h1 : 3 ∉ T) : MatOwn lo w' v ls := by
 obtain ⟨zs, g1, g2, g3⟩ := h
 exact ⟨zs, g1, ownsRow_keep g2 hf h0, fun z hz => (g3 z hz).tk hf h1⟩
theorem MatOwn.snoc {lo n : Nat} {w' : World} {v' : Value} {ls : List (List Int)} {l : List Int} {u : Value} {zs : List (List Int × Value)} (g1 : zs.map (·.1) = ls) (g3 : ∀ z ∈ zs, IntsR (new lo) w' z.2 z.1)
  (hu : IntsR (new lo) w' u l) (hn : n = ls.length) (hown : w'.ownsRow lo 24 1 v' (n + 1) (zs.map (·.2) ++ [u])) : MatOwn lo w' v' (ls ++ [l]) := by
 subst hn
 refine ⟨zs ++ [(l, u)], by simp [g1], ?_, fun z hz => ?_⟩
 ·simp only [List.length_append, List.map_append]
  simpa using hown
 ·rcases List.mem_append.1 hz with hz | hz
  ·exact g3 z hz
  ·simp at hz
   subst hz
   exact hu

def snapOk (c : Co) (ss : List (List Rc)) (n : Int) : Bool := inR n 0 (ready c ss)

def snapTo (c : Co) (ss : List (List Rc)) (n : Nat) (k : Nat) : List (List Int) := (List.range k).map fun i : Nat => refsTo c (shAt ss (i : Int)) (i : Int) n

theorem snapTo_succ (c : Co) (ss : List (List Rc)) (n k : Nat) : snapTo c ss n (k + 1) = snapTo c ss n k ++ [refsTo c (shAt ss (k : Int)) (k : Int) n] := by
 unfold snapTo; rw [List.range_succ, List.map_append]; rfl

theorem snapTo_len (c : Co) (ss : List (List Rc)) (n k : Nat) : (snapTo c ss n k).length = k := by simp [snapTo]

theorem ready_ok {c : Co} {ss : List (List Rc)} (h : 0 ≤ ready c ss) : coOk c = true ∧ ss.length = 3 ∧ (∀ rs ∈ ss, valid rs = true) ∧ ready c ss = (readyN c ss : Int) := by
 unfold ready at *
 split at h
 ·rename_i hh
  rw [if_pos hh]
  simp only [shsOk, Bool.and_eq_true, decide_eq_true_eq, List.all_eq_true] at hh
  exact ⟨hh.1, hh.2.2, hh.2.1, rfl⟩
 ·omega

set_option maxRecDepth 20000 in
set_option maxHeartbeats 4000000 in
theorem specRefs_any (lo : Nat) (v1 v2 v3 : Value) (c : Co) (ss : List (List Rc)) (n : Int) (w : World) (hv : CoR lo w v1 v2 c) (hi : CoI c) (hsr : ShardsR lo w v3 ss) (hl : ss.length ≤ 1000) (hs : ∀ rs ∈ ss, Small rs) :
  Calls Tryz.prog 15 #[.agg #[v1, v2], v3, .int .i64 n] w fun e w' => ∃ v, e = .returned (.tuple #[v, .bool (snapOk c ss n)]) ∧ MatOwn w.heap.size w' v (if snapOk c ss n then snapTo c ss n.toNat 3 else []) ∧ Fr w.heap.size [] w w' := by
 obtain ⟨ta, tcap, rfl, _, _⟩ := hv.1.shape
 obtain ⟨oa, ocap, rfl, _, _⟩ := hv.2.shape
 obtain ⟨sa, scap, rfl, _, hscell⟩ := hsr.shape
 obtain ⟨il, hli, hlz0, hlz1, hlz2⟩ := info_parts infoL
 have HV := hid hv
 have HSR := hid hsr
 have CI := hid hi
 have HS := hid hs
 have HSC := hid hscell
 have A0 := hid (heap_up (heap_alloc_new w (.cells #[.slice ta c.txns.length tcap, .slice oa c.order.length ocap] 26)) (.cells #[] 24))
 have FA := hid (((Fr.refl w.heap.size [] w).alloc (.cells #[.slice ta c.txns.length tcap, .slice oa c.order.length ocap] 26)).alloc (.cells #[] 24))
 have hs1 : (w.alloc (.cells #[.slice ta c.txns.length tcap, .slice oa c.order.length ocap] 26)).heap.size = w.heap.size + 1 := by simp
 have E0 := hid (show MatOwn w.heap.size ((w.alloc (.cells #[.slice ta c.txns.length tcap, .slice oa c.order.length ocap] 26)).alloc (.cells #[] 24)) (.slice (some ⟨w.heap.size + 1, 0, none⟩) 0 0) [] from
  ⟨[], rfl, by rw [← hs1]; exact World.ownsRow_made (w.alloc (.cells #[.slice ta c.txns.length tcap, .slice oa c.order.length ocap] 26)) #[] 0 (by omega) (by decide) (by simp), fun z hz => by cases hz⟩)
 have p0 := cell_of (o := 0) A0.out rfl
 have p1 := cell_of (o := 1) A0.out rfl
 clear hv hsr hi hs hscell hs1
 cases g1 : snapOk c ss n
 ·have G1 := hid (show inR n 0 (ready c ss) = false from g1)
  clear g1
  go_enter Tryz.func15, Tryz.ntmps15
  go_wp2_with (first
   | (go_at_call 11; go_must (refine (specReady_any lo _ _ _ c ss _ (HV.out.grow FA.out) CI.out (HSR.out.grow FA.out) hl HS.out).mono ?_; rintro e w1 ⟨rfl, fr1⟩; have F1 := hid (FA.out.trans fr1.nil); have E1 := hid (E0.out.tk fr1 (by simp) (by simp))))
   | (go_at_call 39; go_must (refine (l6In_any _ _ _ _).mono ?_; rintro e w2 ⟨rfl, hw2⟩; rw [G1.out]; subst hw2)))
  go_ret2
  exact ⟨_, rfl, E1.out, F1.out⟩
 ·have G1 := hid (show inR n 0 (ready c ss) = true from g1)
  have hn := inR_iff.1 G1.out
  obtain ⟨m, rfl⟩ := Int.eq_ofNat_of_zero_le hn.1
  have RO := hid (ready_ok (c := c) (ss := ss) (by omega))
  have HM := hid (show m ≤ c.order.length by have h1 := hn.2; rw [RO.out.2.2.2] at h1; have := tw_le (haveTx c ss) c.order; unfold readyN at h1; omega)
  clear g1 hn
  go_enter Tryz.func15, Tryz.ntmps15
  go_upto_region 4 with (first
   | (go_at_call 11; go_must (refine (specReady_any lo _ _ _ c ss _ (HV.out.grow FA.out) CI.out (HSR.out.grow FA.out) hl HS.out).mono ?_; rintro e w1 ⟨rfl, fr1⟩; have F1 := hid (FA.out.trans fr1.nil); have E1 := hid (E0.out.tk fr1 (by simp) (by simp)); have B1 := hid (fr1.keep _ _ A0.out (.inr (by simp)))))
   | (go_at_call 39; go_must (refine (l6In_any _ _ _ _).mono ?_; rintro e w2 ⟨rfl, hw2⟩; rw [G1.out]; subst hw2)))
  clear p0 p1 A0 FA E0
  go_wp2
  go_loopw [8, 9] (fun v i wr => ∃ k : Nat, k ≤ ss.length ∧ i = .int .i64 k ∧ MatOwn w.heap.size wr v (snapTo c ss m k) ∧ wr.heap[w.heap.size]? = some (.cells #[.slice ta c.txns.length tcap, .slice oa c.order.length ocap] 26 (0, 0)) ∧ Fr w.heap.size [] w wr) (fun _ i _ => ss.length - (intOf i).toNat)
  case atStart => exact ⟨0, Nat.zero_le _, rfl, by simpa [snapTo] using E1.out, B1.out, F1.out⟩
  case round =>
   obtain ⟨k, hk, rfl, hmo, hb, hfr⟩ := hrel
   clear E1 B1 F1
   have MO := hid hmo
   have HB := hid hb
   obtain ⟨zs, z1, z2, z3⟩ := hmo
   rw [snapTo_len] at z2
   obtain ⟨oa', ocap', rfl⟩ := own_any z2
   have Z1 := hid z1
   have Z2 := hid z2
   have Z3 := hid z3
   have p0 := cell_of (o := 0) hb rfl
   have p1 := cell_of (o := 1) hb rfl
   have pl := lt_of_get hb
   clear z1 z2 z3 hb
   by_cases hlt : k < ss.length
   ·have hki : (k : Int) < (ss.length : Int) := by omega
    have hk3 : k < 3 := by have := RO.out.2.1; omega
    rcases HSC.out with h | ⟨sb, soff, rfl, hsb, hscell⟩
    ·rw [h] at hlt; simp at hlt
    obtain ⟨ra, rcap, y0, hrr⟩ := hscell k hlt
    have Y0 := hid y0
    have y1 := hfr.cell hsb y0
    have HR := hid hrr
    have SM := hid (HS.out _ (List.getElem_mem hlt))
    have VA := hid (RO.out.2.2.1 _ (List.getElem_mem hlt))
    have hsx : shAt ss (k : Int) = ss[k] := by simp [shAt, List.getElem?_eq_getElem hlt]
    have ST := hid (show snapTo c ss m (k + 1) = snapTo c ss m k ++ [refsTo c ss[k] (k : Int) m] by rw [snapTo_succ, hsx])
    clear hscell y0 hrr hsx
    generalize ss[k] = rs at *
    go_wp2
    have fd := (Fr.refl wr.heap.size [] wr).drew
    first
    | go_region_held3 (fun X => X.cell? ⟨w.heap.size, 0, none⟩ = some (.slice ta c.txns.length tcap) ∧ X.cell? ⟨w.heap.size, 1, none⟩ = some (.slice oa c.order.length ocap) ∧ X.cell? ⟨sb, soff + k, none⟩ = some (.slice ra rs.length rcap))
     (first
      | exact ⟨p0, p1, y1⟩
      | exact ⟨q0, q1, y2⟩
      | exact ⟨cell_alloc q0, cell_alloc q1, cell_alloc y2⟩
      | exact ⟨t0, t1, y3⟩
      | fail)
     (first
      | (go_at_call 40; go_must (refine (l31Refs_any lo _ _ _ c rs (k : Int) m _ ((HV.out.grow hfr).grow fd) CI.out RO.out.1 ((HR.out.grow hfr).grow fd) SM.out VA.out HM.out).mono ?_; rintro e w6 ⟨vu, rfl, ru, fr6⟩; obtain ⟨ua, ucap, rfl, _, _⟩ := ru.shape; have RU := hid (ru.weak (new_low (lo' := w.heap.size) hfr.size)); have F6 := hid (fd.nil.trans (fr6.nil (B' := 0) (T := []))); have FW6 := hid (hfr.trans F6.out.nil); have B6 := hid (F6.out.keep _ _ HB.out (.inr (by simp))); have q0 := cell_of (o := 0) B6.out rfl; have q1 := cell_of (o := 1) B6.out rfl; have y2 := FW6.out.cell hsb Y0.out; clear ru fr6))
      | (refine step_ap rfl (.tmp 24) (.tmp 33) 44 rfl w.heap.size 24 il (.slice none 0 0) 1 24 Tryz.underlying44 hli hlz0 hlz1 hlz2 rfl (by decide) (.slice oa' k ocap') k (zs.map (·.2)) (by rfl) (ownsRow_grow (ownsRow_grow Z2.out F6.out) ((Fr.refl 0 [] w6).alloc (.cells #[.slice ua (refsTo c rs (k : Int) m).length ucap] 24))) (new w6.heap.size) 24 _ 1 [.slice ua (refsTo c rs (k : Int) m).length ucap] (by rfl) (SlR.lit rfl) (oneSl _ _ _) (by unfold maxLen; omega) (by omega) (by have := FW6.out.size; simp; omega) ?_; intro v7 w7 own7 fr7; obtain ⟨a7, cap7, rfl⟩ := own_any own7; have OWN7 := hid own7; have FR7 := hid fr7; have F7 := hid ((FW6.out.alloc (.cells #[.slice ua (refsTo c rs (k : Int) m).length ucap] 24)).after fr7); have B7 := hid (fr7.keep _ _ (heap_up B6.out _) (.inr (by simp [otag]))); have t0 := cell_of (o := 0) B7.out rfl; have t1 := cell_of (o := 1) B7.out rfl; have y3 := F7.out.cell hsb Y0.out; clear own7 fr7))
    | fail
    all_goals go_wp2
    have FX := F6.out.alloc (.cells #[.slice ua (refsTo c rs (k : Int) m).length ucap] 24)
    have FY : Fr 0 [] w6 _ := (Fr.refl 0 [] w6).alloc (.cells #[.slice ua (refsTo c rs (k : Int) m).length ucap] 24)
    have EN := MatOwn.snoc (lo := w.heap.size) (l := refsTo c rs (k : Int) m) Z1.out (fun z hz => ((Z3.out z hz).grow FX).keep FR7.out (Safe.new (by simp))) ((RU.out.grow FY).keep FR7.out (Safe.new (by simp))) (snapTo_len _ _ _ _).symm OWN7.out
    go_roundw
    case rel => exact ⟨k + 1, by omega, by go_num, by rw [ST.out]; exact EN, B7.out, F7.out⟩
    case measure => simp [intOf]; omega
   ·obtain rfl : k = ss.length := by omega
    have e3 := hid RO.out.2.1
    go_wp2
    go_ret2
    refine ⟨.slice oa' ss.length ocap', rfl, ?_, hfr⟩
    have e : snapTo c ss m 3 = snapTo c ss m ss.length := by rw [e3.out]
    show MatOwn w.heap.size wr (.slice oa' ss.length ocap') (snapTo c ss m 3)
    rw [e]
    exact MO.out

def empties : List (List Rc) := [ [], [], [] ]

theorem shAt_empties (x : Int) : shAt empties x = [] := by
 unfold shAt empties
 rcases x.toNat with _ | _ | _ | n <;> rfl

theorem shsOk_empties : shsOk empties = true := by decide

theorem haveTx_empties {c : Co} (h : coOk c = true) {x : Int} (hx : x ∈ c.order) : haveTx c empties x = false := by
 obtain ⟨i, hi, rfl, _⟩ := order_at h hx
 have hp := (tnOk_len (coOk_txn h hi)).2
 unfold haveTx
 rw [show ((i : Int).toNat) = i from rfl, List.getElem?_eq_getElem hi]
 have h0 : 0 < c.txns[i].parts.length := by
  unfold partsOk at hp
  simp only [Bool.and_eq_true, decide_eq_true_eq] at hp
  exact hp.2
 show c.txns[i].parts.all _ = false
 rw [List.all_eq_false]
 refine ⟨_, List.getElem_mem h0, ?_⟩
 unfold haveP
 rw [shAt_empties]
 simp [ask, askTo]

theorem ready_empties {c : Co} (h : coOk c = true) : ready c empties = 0 := by
 unfold ready
 rw [h, shsOk_empties]
 show ((readyN c empties : Nat) : Int) = 0
 unfold readyN
 rcases ho : c.order with _ | ⟨x, l⟩
 ·rfl
 ·rw [List.takeWhile_cons, haveTx_empties h (by rw [ho]; simp)]
  rfl

theorem ready_most {c : Co} {ss : List (List Rc)} (h : 0 ≤ ready c ss) : coOk c = true ∧ ready c ss ≤ (c.order.length : Int) := by
 obtain ⟨h1, _, _, h4⟩ := ready_ok h
 refine ⟨h1, ?_⟩
 rw [h4]
 have := tw_le (haveTx c ss) c.order
 unfold readyN
 omega

theorem have_at {c : Co} {ss : List (List Rc)} {i : Nat} (hi : i < c.order.length) (hr : i ≤ readyN c ss) : haveTx c ss c.order[i] = decide (i < readyN c ss) := by
 by_cases h : i < readyN c ss
 ·rw [decide_eq_true h]; exact tw_yes (haveTx c ss) c.order i h
 ·obtain rfl : i = readyN c ss := by omega
  rw [decide_eq_false h]
  exact tw_no (haveTx c ss) c.order hi

theorem smallNil : Small [] := ⟨by simp, fun r hr => by cases hr⟩

theorem empties_ok (rs : List Rc) (h : rs ∈ empties) : Small rs ∧ NC rs := by
 have : rs = [] := by simpa [empties] using h
 subst this
 exact ⟨smallNil, NC_of_valid (by decide)⟩

theorem shardsR_empties {lo n : Nat} {w : World} (h : w.heap[n]? = some (.cells #[.slice none 0 0, .slice none 0 0, .slice none 0 0] 37 (0, 0))) (hl : lo ≤ n) : ShardsR lo w (.slice (some ⟨n, 0, none⟩) 3 3) empties := by
 refine ⟨[([], .slice none 0 0), ([], .slice none 0 0), ([], .slice none 0 0)], rfl, ⟨_, 3, rfl, rfl, Nat.le_refl _, (fun h => by cases h), fun _ => ⟨n, 0, _, _, _, rfl, ⟨hl, by simp⟩, h, fun j u hu => ?_⟩⟩, fun z hz => ?_⟩
 ·rw [Nat.zero_add]
  rw [← List.getElem?_toArray] at hu
  exact hu
 ·have : z = ([], .slice none 0 0) := by simpa using hz
  subst this
  exact ⟨[], rfl, SlR.nil _ _ _ _, fun z hz => by cases hz⟩

end Go.Proofs.YtknoanpgadecbaaGreat
