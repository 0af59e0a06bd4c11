/- The program's WorldValid. -/
import Derived.Test.YtknoanpgadecbaaGreatDoorQM8
import Derived.Test.YtknoanpgadecbaaGreatDoorQCoWrong
import Derived.Test.YtknoanpgadecbaaGreatDoorQCoCoordI
import Derived.Test.YtknoanpgadecbaaGreatDoorQM6
import Derived.Test.YtknoanpgadecbaaGreatDoorQM4
set_option linter.unusedVariables false
set_option linter.unusedSimpArgs false
namespace Go.Proofs.YtknoanpgadecbaaGreatDoor
open Go.RowKit
set_option linter.unusedVariables false

set_option maxRecDepth 20000 in
set_option maxHeartbeats 8000000 in
theorem implWdValid_any (lo : Nat) (v1 v2 v3 v4 : Value) (d : Wd) (w : World) (hv : WdR lo w v1 v2 v3 v4 d) (hi : WdB d) :
  Calls Tryz.prog 5 #[.agg #[v1, v2, v3, v4]] w fun e w' => e = .returned (.bool (wdOk d)) ∧ Fr w.heap.size [] w w' := by
 obtain ⟨ta, tcap, rfl, _, _⟩ := hv.1.1.shape
 obtain ⟨oa, ocap, rfl, _, _⟩ := hv.1.2.shape
 obtain ⟨sa, scap, rfl, _, _⟩ := hv.2.1.shape
 obtain ⟨na, ncap, rfl, _, hncell⟩ := hv.2.2.shape
 have HV := hid hv
 have WB := hid hi
 have HNC := hid hncell
 have hnl := hi.2.2.2
 have A0 := hid (heap_alloc_new w (.cells #[.slice ta d.co.txns.length tcap, .slice oa d.co.order.length ocap, .slice sa d.shards.length scap, .slice na d.net.length ncap] 30))
 have FA := hid ((Fr.refl w.heap.size [] w).alloc (.cells #[.slice ta d.co.txns.length tcap, .slice oa d.co.order.length ocap, .slice sa d.shards.length scap, .slice na d.net.length ncap] 30))
 have p0 := cell_of (o := 0) A0.out rfl
 have p1 := cell_of (o := 1) A0.out rfl
 clear hv hi hncell
 cases g1 : coOk d.co
 ·have G1 := hid g1
  have hz := hid (show wdOk d = false by unfold wdOk wdHead; rw [g1]; simp)
  clear g1
  go_enter Tryz.func5, Tryz.ntmps5
  go_wp2_with (go_at_call 13; go_must (refine (implCoordinatorValid_any lo _ _ d.co _ (HV.out.1.grow FA.out) WB.out.1).mono ?_; rintro e w1 ⟨rfl, fr1⟩; rw [G1.out]; have F1 := hid (FA.out.trans fr1.nil); have B1 := hid (fr1.keep _ _ A0.out (.inr (by simp))); have q0 := cell_of (o := 2) B1.out rfl; have q1 := cell_of (o := 3) B1.out rfl))
  go_ret
  exact ⟨ret_bool hz.out.symm, F1.out⟩
 cases g2 : shsOk d.shards
 ·have G1 := hid g1
  have G2 := hid g2
  have hz := hid (show wdOk d = false by unfold wdOk wdHead; rw [g2]; simp)
  clear g1 g2
  go_enter Tryz.func5, Tryz.ntmps5
  go_wp2_with (first
   | (go_at_call 13; go_must (refine (implCoordinatorValid_any lo _ _ d.co _ (HV.out.1.grow FA.out) WB.out.1).mono ?_; rintro e w1 ⟨rfl, fr1⟩; rw [G1.out]; have F1 := hid (FA.out.trans fr1.nil); have B1 := hid (fr1.keep _ _ A0.out (.inr (by simp))); have q0 := cell_of (o := 2) B1.out rfl; have q1 := cell_of (o := 3) B1.out rfl))
   | (go_at_call 14; go_must (refine (implShardsOk_any lo _ d.shards _ ((HV.out.grow F1.out).2.1) (by have := WB.out.2.1; omega) (fun rs h => ⟨(WB.out.2.2.1 rs h).small, (WB.out.2.2.1 rs h).2⟩)).mono ?_; rintro e w2 ⟨rfl, fr2⟩; rw [G2.out]; have F2 := hid (F1.out.trans fr2.nil); have B2 := hid (fr2.keep _ _ B1.out (.inr (by simp))); have r0 := cell_of (o := 2) B2.out rfl; have r1 := cell_of (o := 3) B2.out rfl)))
  go_ret
  exact ⟨ret_bool hz.out.symm, F2.out⟩
 by_cases g3 : 14 < d.net.length
 ·have G1 := hid g1
  have G2 := hid g2
  have hz := hid (show wdOk d = false by unfold wdOk wdHead; rw [show decide (d.net.length ≤ 14) = false by simp; omega]; simp)
  have g4 : (14 : Int) < (d.net.length : Int) := by omega
  clear g1 g2
  go_enter Tryz.func5, Tryz.ntmps5
  go_wp2_with (first
   | (go_at_call 13; go_must (refine (implCoordinatorValid_any lo _ _ d.co _ (HV.out.1.grow FA.out) WB.out.1).mono ?_; rintro e w1 ⟨rfl, fr1⟩; rw [G1.out]; have F1 := hid (FA.out.trans fr1.nil); have B1 := hid (fr1.keep _ _ A0.out (.inr (by simp))); have q0 := cell_of (o := 2) B1.out rfl; have q1 := cell_of (o := 3) B1.out rfl))
   | (go_at_call 14; go_must (refine (implShardsOk_any lo _ d.shards _ ((HV.out.grow F1.out).2.1) (by have := WB.out.2.1; omega) (fun rs h => ⟨(WB.out.2.2.1 rs h).small, (WB.out.2.2.1 rs h).2⟩)).mono ?_; rintro e w2 ⟨rfl, fr2⟩; rw [G2.out]; have F2 := hid (F1.out.trans fr2.nil); have B2 := hid (fr2.keep _ _ B1.out (.inr (by simp))); have r0 := cell_of (o := 2) B2.out rfl; have r1 := cell_of (o := 3) B2.out rfl)))
  go_ret
  exact ⟨ret_bool hz.out.symm, F2.out⟩
 ·have G1 := hid g1
  have G2 := hid g2
  have HH := hid (show wdHead d = true by unfold wdHead; rw [g1, g2]; simp; omega)
  have WE := hid (show wdOk d = (shardsIn d 3 && d.net.all (msgOk d.co)) by unfold wdOk; rw [HH.out]; simp)
  have g4 : ¬ (14 : Int) < (d.net.length : Int) := by omega
  clear g1 g2
  go_enter Tryz.func5, Tryz.ntmps5
  go_upto_region 3 with (first
   | (go_at_call 13; go_must (refine (implCoordinatorValid_any lo _ _ d.co _ (HV.out.1.grow FA.out) WB.out.1).mono ?_; rintro e w1 ⟨rfl, fr1⟩; rw [G1.out]; have F1 := hid (FA.out.trans fr1.nil); have B1 := hid (fr1.keep _ _ A0.out (.inr (by simp))); have q0 := cell_of (o := 2) B1.out rfl; have q1 := cell_of (o := 3) B1.out rfl))
   | (go_at_call 14; go_must (refine (implShardsOk_any lo _ d.shards _ ((HV.out.grow F1.out).2.1) (by have := WB.out.2.1; omega) (fun rs h => ⟨(WB.out.2.2.1 rs h).small, (WB.out.2.2.1 rs h).2⟩)).mono ?_; rintro e w2 ⟨rfl, fr2⟩; rw [G2.out]; have F2 := hid (F1.out.trans fr2.nil); have B2 := hid (fr2.keep _ _ B1.out (.inr (by simp))); have r0 := cell_of (o := 2) B2.out rfl; have r1 := cell_of (o := 3) B2.out rfl)))
  clear p0 p1 q0 q1 A0 FA F1 B1 g3 g4
  go_wp2
  clear r0 r1
  go_loopw [25] (fun i wr => ∃ k : Nat, k ≤ d.shards.length ∧ i = .int .i64 k ∧ shardsIn d k = true ∧ wr.heap[w.heap.size]? = some (.cells #[.slice ta d.co.txns.length tcap, .slice oa d.co.order.length ocap, .slice sa d.shards.length scap, .slice na d.net.length ncap] 30 (0, 0)) ∧ Fr w.heap.size [] w wr) (fun i _ => d.shards.length - (intOf i).toNat)
  case atStart => exact ⟨0, Nat.zero_le _, rfl, by simp [shardsIn], B2.out, F2.out⟩
  case round =>
   obtain ⟨k, hk, rfl, hto, hb, hfr⟩ := hrel
   have HT := hid hto
   have HB := hid hb
   have p0 := cell_of (o := 0) hb rfl
   have p1 := cell_of (o := 1) hb rfl
   have p2 := cell_of (o := 2) hb rfl
   have p3 := cell_of (o := 3) hb rfl
   have pl := lt_of_get hb
   clear hto hb B2 F2
   by_cases hlt : k < d.shards.length
   ·have hki : (k : Int) < (d.shards.length : Int) := by omega
    have hk3 : k < 3 := by have := (wdHead_of HH.out).2.1; omega
    have hsx : shAt d.shards (k : Int) = d.shards[k] := by simp [shAt, List.getElem?_eq_getElem hlt]
    have SS := hid (shardsIn_succ d k)
    have SF := hid (fun h => shardsIn_false (d := d) (k := k) (n := 3) h hk3)
    rw [hsx, HT.out] at SS
    rw [hsx] at SF
    have LS := hid (fun (W : World) (hW : WdR lo W (.slice ta d.co.txns.length tcap) (.slice oa d.co.order.length ocap) (.slice sa d.shards.length scap) (.slice na d.net.length ncap) d) => recordsOk_any lo _ _ _ _ d k W hW WB.out.1 hlt (by have := WB.out.2.1; omega) (fun rs h => (WB.out.2.2.1 rs h).small))
    clear hsx
    cases gs : shardIn d.co d.shards[k] (k : Int)
    ·have GS := hid gs
     have hz := hid (show wdOk d = false by rw [WE.out, SF.out gs]; rfl)
     clear gs
     go_wp2_with (go_at_call 15; go_must (refine (LS.out _ (HV.out.grow hfr)).mono ?_; rintro e w3 ⟨rfl, fr3⟩; rw [GS.out]; have F3 := hid (hfr.trans fr3.nil)))
     go_ret
     exact ⟨ret_bool hz.out.symm, F3.out⟩
    ·have GS := hid gs
     have hz := hid (show shardsIn d (k + 1) = true by rw [SS.out, gs]; rfl)
     clear gs
     go_wp2_with (go_at_call 15; go_must (refine (LS.out _ (HV.out.grow hfr)).mono ?_; rintro e w3 ⟨rfl, fr3⟩; rw [GS.out]; have F3 := hid (hfr.trans fr3.nil); have B3 := hid (fr3.keep _ _ HB.out (.inr (by simp)))))
     go_roundw
     case rel => exact ⟨k + 1, by omega, by go_num, hz.out, B3.out, F3.out⟩
     case measure => simp [intOf]; omega
   ·obtain rfl : k = d.shards.length := by omega
    have S3 := hid (show shardsIn d 3 = true by have := HT.out; rw [(wdHead_of HH.out).2.1] at this; exact this)
    clear HT
    obtain ⟨wo, rfl⟩ : ∃ wo : World, wo = wr := ⟨_, rfl⟩
    go_wp2
    go_loopw [36] (fun i wr => ∃ k : Nat, k ≤ d.net.length ∧ i = .int .i64 k ∧ (d.net.take k).all (msgOk d.co) = true ∧ wr.heap[w.heap.size]? = some (.cells #[.slice ta d.co.txns.length tcap, .slice oa d.co.order.length ocap, .slice sa d.shards.length scap, .slice na d.net.length ncap] 30 (0, 0)) ∧ Fr w.heap.size [] w wr) (fun i _ => d.net.length - (intOf i).toNat)
    case atStart => exact ⟨0, Nat.zero_le _, rfl, by simp, HB.out, hfr⟩
    case round =>
     clear p0 p1 p2 p3 pl HB hfr
     obtain ⟨k, hk, rfl, hto, hb, hfr⟩ := hrel
     have HT := hid hto
     have HB := hid hb
     have p0 := cell_of (o := 0) hb rfl
     have p1 := cell_of (o := 1) hb rfl
     have p2 := cell_of (o := 2) hb rfl
     have p3 := cell_of (o := 3) hb rfl
     have pl := lt_of_get hb
     clear hto hb
     by_cases hlt' : k < d.net.length
     ·have hki : (k : Int) < (d.net.length : Int) := by omega
      rcases HNC.out with h | ⟨b, off, rfl, hbs, hcell⟩
      ·rw [h] at hlt'; simp at hlt'
      obtain ⟨x0, x1, x2, x3⟩ := hcell k hlt'
      have c0 := hfr.cell hbs x0
      have c1 := hfr.cell hbs x1
      have c2 := hfr.cell hbs x2
      have c3 := hfr.cell hbs x3
      have AT := hid (fun h => all_take (p := msgOk d.co) hlt' HT.out h)
      have AF := hid (fun h => all_false (p := msgOk d.co) hlt' h)
      clear hcell x0 x1 x2 x3
      have ME := hid (show msgOk d.co d.net[k] = ((prt d.co d.net[k].txn d.net[k].shard).isSome && inR d.net[k].kind 1 3 && !(d.net[k].kind == 1 && d.net[k].yes)) from rfl)
      generalize d.net[k] = m at *
      obtain ⟨mk, mt, mx, my⟩ := m
      dsimp only at *
      have FR1 := hid ((Fr.refl wr.heap.size [] wr).alloc (.cells #[.int .i64 mk, .int .i64 mt, .int .i64 mx, .bool my] 47))
      have R1 := hid (heap_alloc_new wr (.cells #[.int .i64 mk, .int .i64 mt, .int .i64 mx, .bool my] 47))
      have B1 := hid (heap_up HB.out (.cells #[.int .i64 mk, .int .i64 mt, .int .i64 mx, .bool my] 47))
      have LP := hid (fun (W : World) (hW : WdR lo W (.slice ta d.co.txns.length tcap) (.slice oa d.co.order.length ocap) (.slice sa d.shards.length scap) (.slice (some ⟨b, off, none⟩) d.net.length ncap) d) => implPart_any lo _ _ _ _ d mt mx W hW WB.out.1)
      cases gk : inR mk 1 3
      ·have GK := hid gk
       have hz := hid (AF.out (by rw [ME.out, gk]; simp))
       clear gk AT AF
       go_wp2_with (go_at_call 16; go_must (refine (inRange_any _ _ _ _).mono ?_; rintro e w4 ⟨rfl, hw4⟩; rw [GK.out]; subst hw4))
       go_ret
       exact ⟨ret_bool (by rw [WE.out, hz.out]; simp), hfr.alloc _⟩
      ·have GK := hid gk
       rw [gk] at ME
       clear gk
       cases hp : prt d.co mt mx with
       | none =>
        have HP := hid hp
        have hz := hid (AF.out (by rw [ME.out, hp]; rfl))
        clear hp AT AF
        go_wp2_with (first
         | (go_at_call 16; go_must (refine (inRange_any _ _ _ _).mono ?_; rintro e w4 ⟨rfl, hw4⟩; rw [GK.out]; subst hw4))
         | (go_at_call 17; go_must (refine (LP.out _ ((HV.out.grow hfr).grow FR1.out)).mono ?_; rintro e w3 ⟨vv, rfl, hvv, fr3⟩; rw [HP.out] at hvv; cases hvv; have F3 := hid ((hfr.alloc (.cells #[.int .i64 mk, .int .i64 mt, .int .i64 mx, .bool my] 47)).trans fr3.nil))))
        go_ret
        exact ⟨ret_bool (by rw [WE.out, hz.out]; simp), F3.out⟩
       | some us =>
        have HP := hid hp
        rw [hp] at ME
        clear hp
        by_cases hk1 : mk = 1
        ·subst hk1
         cases my
         ·have hz := hid (AT.out (by rw [ME.out]; rfl))
          clear AT AF ME
          go_wp2_with (first
           | (go_at_call 16; go_must (refine (inRange_any _ _ _ _).mono ?_; rintro e w4 ⟨rfl, hw4⟩; rw [GK.out]; subst hw4))
           | (go_at_call 17; go_must (refine (LP.out _ ((HV.out.grow hfr).grow FR1.out)).mono ?_; rintro e w3 ⟨vv, rfl, hvv, fr3⟩; rw [HP.out] at hvv; obtain ⟨pb, po, va, vcap, rfl, _, _, _⟩ := hvv; have F3 := hid ((hfr.alloc (.cells #[.int .i64 1, .int .i64 mt, .int .i64 mx, .bool false] 47)).trans fr3.nil); have R3 := hid (fr3.keep _ _ R1.out (.inr (by simp))); have B3 := hid (fr3.keep _ _ B1.out (.inr (by simp))); have q0 := cell_of (o := 0) R3.out rfl; have q3 := cell_of (o := 3) R3.out rfl)))
          go_roundw
          case rel => exact ⟨k + 1, by omega, by go_num, hz.out, B3.out, F3.out⟩
          case measure => simp [intOf]; omega
         ·have hz := hid (AF.out (by rw [ME.out]; rfl))
          clear AT AF ME
          go_wp2_with (first
           | (go_at_call 16; go_must (refine (inRange_any _ _ _ _).mono ?_; rintro e w4 ⟨rfl, hw4⟩; rw [GK.out]; subst hw4))
           | (go_at_call 17; go_must (refine (LP.out _ ((HV.out.grow hfr).grow FR1.out)).mono ?_; rintro e w3 ⟨vv, rfl, hvv, fr3⟩; rw [HP.out] at hvv; obtain ⟨pb, po, va, vcap, rfl, _, _, _⟩ := hvv; have F3 := hid ((hfr.alloc (.cells #[.int .i64 1, .int .i64 mt, .int .i64 mx, .bool true] 47)).trans fr3.nil); have R3 := hid (fr3.keep _ _ R1.out (.inr (by simp))); have B3 := hid (fr3.keep _ _ B1.out (.inr (by simp))); have q0 := cell_of (o := 0) R3.out rfl; have q3 := cell_of (o := 3) R3.out rfl)))
          go_ret
          exact ⟨ret_bool (by rw [WE.out, hz.out]; simp), F3.out⟩
        ·have hkb : (mk == 1) = false := by simp [hk1]
         have hz := hid (AT.out (by rw [ME.out, hkb]; simp))
         clear hk1 AT AF ME
         go_wp2_with (first
          | (go_at_call 16; go_must (refine (inRange_any _ _ _ _).mono ?_; rintro e w4 ⟨rfl, hw4⟩; rw [GK.out]; subst hw4))
          | (go_at_call 17; go_must (refine (LP.out _ ((HV.out.grow hfr).grow FR1.out)).mono ?_; rintro e w3 ⟨vv, rfl, hvv, fr3⟩; rw [HP.out] at hvv; obtain ⟨pb, po, va, vcap, rfl, _, _, _⟩ := hvv; have F3 := hid ((hfr.alloc (.cells #[.int .i64 mk, .int .i64 mt, .int .i64 mx, .bool my] 47)).trans fr3.nil); have R3 := hid (fr3.keep _ _ R1.out (.inr (by simp))); have B3 := hid (fr3.keep _ _ B1.out (.inr (by simp))); have q0 := cell_of (o := 0) R3.out rfl; have q3 := cell_of (o := 3) R3.out rfl)))
         go_roundw
         case rel => exact ⟨k + 1, by omega, by go_num, hz.out, B3.out, F3.out⟩
         case measure => simp [intOf]; omega
     ·obtain rfl : k = d.net.length := by omega
      rw [List.take_length] at HT
      go_wp2
      go_ret
      exact ⟨ret_bool (by rw [WE.out, S3.out, HT.out]; rfl), hfr⟩

end Go.Proofs.YtknoanpgadecbaaGreatDoor
