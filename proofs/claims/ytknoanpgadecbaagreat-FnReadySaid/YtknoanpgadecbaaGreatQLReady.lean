/- FnReady: the walk. -/
import Derived.Test.YtknoanpgadecbaaGreatQM9
import Derived.Test.YtknoanpgadecbaaGreatQM11
import Derived.Test.YtknoanpgadecbaaGreatQM5
set_option linter.unusedVariables false
set_option linter.unusedSimpArgs false
namespace Go.Proofs.YtknoanpgadecbaaGreat
open Go.RowKit
set_option linter.unusedVariables false

theorem blk_drewN {w : World} {k : Nat} {o : Obj} (h : w.heap[k]? = some o) (n : Nat) : (w.drewN n).heap[k]? = some o := ((Fr.refl 0 [] w).drewN n).keep _ _ h (.inr (by simp))

theorem blk_drew1 {w : World} {k : Nat} {o : Obj} (h : w.heap[k]? = some o) : w.drew.heap[k]? = some o := ((Fr.refl 0 [] w).drew).keep _ _ h (.inr (by simp))

set_option maxRecDepth 20000 in
set_option maxHeartbeats 8000000 in
theorem ready_walk {w : World} {a : Option Addr} {n cap : Nat} (hb : Bytes w.heap.size w a n cap) (hm : cap ≤ maxLen) :
    Calls Tryz.prog 3 #[.slice a n cap] w fun e w' => e = .returned (.bool true) ∧ Fr w.heap.size [] w w' := by
  have HB := hid hb
  clear hb
  by_cases hn1 : n ≤ 1048576
  · have in1 : ¬ (1048576 : Int) < (n : Int) := by omega
    go_enter Tryz.func3, Tryz.ntmps3
    go_upto_region 4 with (go_at_call 9; go_must (refine (drawReady_any HB.out hm).mono ?_; rintro e w1 ⟨v1, v2, v3, c, ss, rfl, cr, ci, sr, sl, sb, fr1⟩; have CR := hid cr; have CI := hid ci; have SR := hid sr; have SB := hid (fun rs h => (show Small rs ∧ NC rs from ⟨(sb rs h).small, (sb rs h).2⟩)); have SM := hid (fun rs h => (sb rs h).small); have F1 := hid fr1; obtain ⟨ta, tcap, rfl, _, htc⟩ := cr.1.shape; have HTC := hid htc; obtain ⟨oa, ocap, rfl, _, hoc⟩ := cr.2.shape; have HO := hid hoc; obtain ⟨sa, scap, rfl, _, hsc⟩ := sr.shape; have HSC := hid hsc; have sl9 := Nat.le_trans sl (show 3 ≤ 1000 from by decide); have olen := ci.2.2; have tlen := ci.2.1; clear cr ci sr sb fr1 htc hoc hsc))
    obtain ⟨r, hre⟩ : ∃ r, r = ready c ss := ⟨_, rfl⟩
    have RE := hid hre
    have G1 := hid ((Fr.refl w.heap.size [] w1).alloc (.cells #[.slice ta c.txns.length tcap, .slice oa c.order.length ocap] 26))
    have GW := hid ((Fr.refl w1.heap.size [] w1).alloc (.cells #[.slice ta c.txns.length tcap, .slice oa c.order.length ocap] 26))
    have FA := hid (F1.out.trans G1.out)
    have A1 := hid (heap_alloc_new w1 (.cells #[.slice ta c.txns.length tcap, .slice oa c.order.length ocap] 26))
    have p0 := cell_of (o := 0) A1.out rfl
    have p1 := cell_of (o := 1) A1.out rfl
    by_cases hr : r < 0
    · clear hre
      go_wp2_with (first
        | (go_at_call 10; go_must (refine (implReady_any w.heap.size _ _ _ c ss _ (CR.out.grow G1.out) (SR.out.grow G1.out) CI.out sl9 SB.out).mono ?_; rintro e w2 ⟨rfl, fr2⟩; rw [← RE.out]; have F2 := hid (FA.out.trans fr2.nil); have C2 := hid ((CR.out.grow G1.out).grow fr2); have S2 := hid ((SR.out.grow G1.out).grow fr2); have A2 := hid (fr2.keep _ _ A1.out (.inr (by simp))); have q0 := cell_of (o := 0) A2.out rfl; have q1 := cell_of (o := 1) A2.out rfl; clear fr2))
        | (go_at_call 11; go_must (refine (specReady_any w.heap.size _ _ _ c ss _ C2.out CI.out S2.out sl9 SM.out).mono ?_; rintro e w3 ⟨rfl, fr3⟩; rw [← RE.out]; have F3 := hid (F2.out.trans fr3.nil); clear fr3)))
      go_ret
      exact ⟨ret_bool (by simp), F3.out⟩
    · obtain ⟨hok, hle⟩ := ready_most (c := c) (ss := ss) (by omega)
      obtain ⟨_, h3, hval, hrn⟩ := ready_ok (c := c) (ss := ss) (by omega)
      have OK := hid hok
      have H3 := hid h3
      have VS := hid (fun rs h => (show valid rs = true ∧ Small rs ∧ NC rs from ⟨hval rs h, SB.out rs h⟩))
      have HAV := hid (fun (k : Nat) (hi : k < c.order.length) (hr : k ≤ readyN c ss) => have_at hi hr)
      obtain ⟨m, hme⟩ : ∃ m, m = readyN c ss := ⟨_, rfl⟩
      rw [← hme] at hrn HAV
      rw [hrn] at hle hre
      have RM := hid hrn
      have hlm : m ≤ c.order.length := by omega
      clear hre hrn hle hr hok h3 hval hme RE r
      go_upto_region 6 with (first
        | (go_at_call 10; go_must (refine (implReady_any w.heap.size _ _ _ c ss _ (CR.out.grow G1.out) (SR.out.grow G1.out) CI.out sl9 SB.out).mono ?_; rintro e w2 ⟨rfl, fr2⟩; rw [RM.out]; have F2 := hid (GW.out.trans fr2.nil); have C2 := hid ((CR.out.grow G1.out).grow fr2); have S2 := hid ((SR.out.grow G1.out).grow fr2); have A2 := hid (fr2.keep _ _ A1.out (.inr (by simp))); have q0 := cell_of (o := 0) A2.out rfl; have q1 := cell_of (o := 1) A2.out rfl; clear fr2))
        | (go_at_call 11; go_must (refine (specReady_any w.heap.size _ _ _ c ss _ C2.out CI.out S2.out sl9 SM.out).mono ?_; rintro e w3 ⟨rfl, fr3⟩; rw [RM.out]; have F3 := hid (F2.out.trans fr3.nil); have A3 := hid (fr3.keep _ _ A2.out (.inr (by simp))); clear fr3)))
      have hm0 : ¬ (m : Int) < 0 := by omega
      clear p0 p1 q0 q1 A1 A2 C2 S2 F2 G1 GW FA
      go_wp2
      go_loopw [7] (fun i wr => ∃ k : Nat, k ≤ c.order.length ∧ k ≤ m + 1 ∧ i = .int .i64 k ∧ wr.heap[w1.heap.size]? = some (.cells #[.slice ta c.txns.length tcap, .slice oa c.order.length ocap] 26 (0, 0)) ∧ Fr w1.heap.size [] w1 wr) (fun i _ => c.order.length - (intOf i).toNat)
      case atStart => exact ⟨0, Nat.zero_le _, Nat.zero_le _, rfl, A3.out, F3.out⟩
      case round =>
        clear A3 F3
        obtain ⟨k, hk, hk1, rfl, hb, hfr⟩ := hrel
        have HBR := hid hb
        have p0 := cell_of (o := 0) hb rfl
        have p1 := cell_of (o := 1) hb rfl
        have hbl := lt_of_get hb
        clear hb
        by_cases h1 : k ≤ m
        · have i1 : (k : Int) ≤ (m : Int) := by omega
          by_cases hlt : k < c.order.length
          · have i2 : (k : Int) < (c.order.length : Int) := by omega
            rcases HO.out with h | ⟨ob, ooff, rfl, hob, hocell⟩
            · rw [h] at hlt; simp at hlt
            have y0 := hocell k hlt
            have OA := order_at OK.out (List.getElem_mem hlt)
            have HA := HAV.out k hlt h1
            obtain ⟨i, hil, hxi, _⟩ := OA
            rw [hxi] at y0 HA
            have y1 := hfr.cell hob y0
            have CP := hid (coOk_parts OK.out hil)
            have CPL := (CI.out.1 _ (List.getElem_mem hil)).2.1
            rcases HTC.out with h | ⟨tb, toff, rfl, htb, htcell⟩
            · rw [h] at hil; simp at hil
            obtain ⟨pa, pcap, va, vcap, x0, x1, x2, xp, xv⟩ := htcell i hil
            have d0 := hfr.cell htb x0
            have XP := hid xp
            have hii : (i : Int) < (c.txns.length : Int) := by omega
            have hin := hid (show inR (i : Int) 0 11 = true by rw [inR_iff]; omega)
            have HX : haveTx c ss (i : Int) = c.txns[i].parts.all (haveP ss (i : Int)) := by unfold haveTx; simp [List.getElem?_eq_getElem hil]
            rw [HX] at HA
            have HAX := hid HA
            have Y0 := hid y0
            clear hocell y0 hxi htcell x0 x1 x2 xp xv HA HX
            generalize c.txns[i] = T at *
            go_wp2
            go_quiet (fail)
            obtain ⟨wo, hwo⟩ : ∃ wo : World, wo = wr := ⟨_, rfl⟩
            go_wp2
            clear p0 p1 y1 d0
            go_loopw [8, 10] (fun al jj wi => ∃ j : Nat, j ≤ T.parts.length ∧ jj = .int .i64 j ∧ al = .bool ((T.parts.take j).all (haveP ss (i : Int))) ∧ wi.heap[w1.heap.size]? = some (.cells #[.slice (some ⟨tb, toff, none⟩) c.txns.length tcap, .slice (some ⟨ob, ooff, none⟩) c.order.length ocap] 26 (0, 0)) ∧ Fr w1.heap.size [] w1 wi) (fun _ jj _ => T.parts.length - (intOf jj).toNat)
            case atStart => exact ⟨0, Nat.zero_le _, rfl, by simp, blk_drewN HBR.out _, hfr.drewN _⟩
            case round =>
              clear HBR hfr hbl hwo
              obtain ⟨j, hj, rfl, rfl, hb, hfr⟩ := hrel
              have HBR := hid hb
              have p0 := cell_of (o := 0) hb rfl
              have p1 := cell_of (o := 1) hb rfl
              have hbl := lt_of_get hb
              clear hb
              by_cases hlj : j < T.parts.length
              · have hji : (j : Int) < (T.parts.length : Int) := by omega
                obtain ⟨pa', pcap', e, _, hpc⟩ := XP.out.shape
                cases e
                rcases hpc with h | ⟨pb, poff, rfl, hpb, hpc⟩
                · rw [h] at hlj; simp at hlj
                obtain ⟨ua, ucap, z0, z1, zu⟩ := hpc j hlj
                have PP := CP.out _ (List.getElem_mem hlj)
                have TS := hid (show (T.parts.take (j + 1)).all (haveP ss (i : Int)) = ((T.parts.take j).all (haveP ss (i : Int)) && haveP ss (i : Int) T.parts[j]) by rw [List.take_succ_eq_append_getElem hlj, List.all_append]; simp)
                obtain ⟨s, hs⟩ : ∃ s : Nat, T.parts[j].shard = s := ⟨T.parts[j].shard.toNat, by omega⟩
                have hs3 : s < ss.length := by have := H3.out; omega
                have hsi : (s : Int) < (ss.length : Int) := by omega
                rcases HSC.out with h | ⟨sb, soff, rfl, hsb, hsc⟩
                · rw [h] at hs3; simp at hs3
                obtain ⟨ra, rcap, w0, wr0⟩ := hsc s hs3
                obtain ⟨hva, hsm, hnc⟩ := VS.out _ (List.getElem_mem hs3)
                have SMM := hid hsm
                have CN := hid hnc
                have HE := hid (show (if valid ss[s] && inR (i : Int) 0 11 then ask ss[s] (i : Int) else -1) = ask ss[s] (i : Int) by rw [hva, hin.out]; rfl)
                have HG := hid (show haveP ss (i : Int) T.parts[j] = (ask ss[s] (i : Int) == 2) by unfold haveP shAt; rw [hs]; simp [List.getD_eq_getElem?_getD, List.getElem?_eq_getElem hs3])
                rw [hs] at z0
                have e0 := hfr.cell hpb z0
                have e1 := hfr.cell hsb w0
                have o0 := hfr.cell hob Y0.out
                have HR := hid (wr0.grow hfr)
                have hpb' := Nat.lt_of_lt_of_le hpb hfr.size
                have hsb' := Nat.lt_of_lt_of_le hsb hfr.size
                have hob' := Nat.lt_of_lt_of_le hob hfr.size
                clear hpc z0 z1 zu hsc w0 wr0 hva hsm hnc PP hs
                generalize ss[s] = rs at *
                cases ga : (T.parts.take j).all (haveP ss (i : Int))
                · have NX := hid (show (T.parts.take (j + 1)).all (haveP ss (i : Int)) = false by rw [TS.out, ga]; rfl)
                  clear ga
                  go_wp2
                  go_quiet (fail)
                  go_wp2
                  go_roundw
                  case rel => exact ⟨j + 1, by omega, by go_num, by rw [NX.out], blk_drewN HBR.out _, hfr.drewN _⟩
                  case measure => simp [intOf]; omega
                · have NX := hid (show (T.parts.take (j + 1)).all (haveP ss (i : Int)) = (ask rs (i : Int) == 2) by rw [TS.out, ga, HG.out]; rfl)
                  clear ga
                  go_wp2
                  have fd := (Fr.refl wr.heap.size [] wr).drew
                  first
                  | go_region_held3 (fun z => z.cell? ⟨w1.heap.size, 1, none⟩ = some (.slice (some ⟨ob, ooff, none⟩) c.order.length ocap) ∧ z.cell? ⟨ob, ooff + k, none⟩ = some (.int .i64 (i : Int)) ∧ z.cell? ⟨pb, poff + j * 2, none⟩ = some (.int .i64 (s : Int)) ∧ z.cell? ⟨sb, soff + s, none⟩ = some (.slice ra rs.length rcap))
                    (first
                      | exact ⟨p1, o0, e0, e1⟩
                      | exact r0
                      | fail)
                    (first
                      | (go_at_call 12; go_must (refine (implShardAsk_any _ _ rs (i : Int) _ (HR.out.grow fd) SMM.out CN.out).mono ?_; rintro e w3 ⟨rfl, fr3⟩; rw [HE.out]; have F3 := hid ((hfr.trans (fd.nil (B' := w1.heap.size) (T := []))).trans (fr3.nil (B' := w1.heap.size) (T := []))); have B3 := hid (fr3.keep _ _ (fd.keep _ _ HBR.out (.inr (by simp))) (.inr (by simp))); have r0 := (⟨fr3.cell hbl (fd.cell hbl p1), fr3.cell hob' (fd.cell hob' o0), fr3.cell hpb' (fd.cell hpb' e0), fr3.cell hsb' (fd.cell hsb' e1)⟩ : (w3.cell? ⟨w1.heap.size, 1, none⟩ = some (.slice (some ⟨ob, ooff, none⟩) c.order.length ocap) ∧ w3.cell? ⟨ob, ooff + k, none⟩ = some (.int .i64 (i : Int)) ∧ w3.cell? ⟨pb, poff + j * 2, none⟩ = some (.int .i64 (s : Int)) ∧ w3.cell? ⟨sb, soff + s, none⟩ = some (.slice ra rs.length rcap)))))
                      | fail)
                  | fail
                  all_goals go_wp2
                  go_roundw
                  case rel => exact ⟨j + 1, by omega, by go_num, by rw [NX.out], B3.out, F3.out⟩
                  case measure => simp [intOf]; omega
              · obtain rfl : j = T.parts.length := by omega
                have EA : (T.parts.take T.parts.length).all (haveP ss (i : Int)) = decide (k < m) := by rw [List.take_length]; exact HAX.out
                rw [EA]
                clear EA
                by_cases hkm : k < m
                · have i3 : (k : Int) < (m : Int) := by omega
                  rw [decide_eq_true hkm]
                  go_wp2
                  go_roundw
                  case rel => exact ⟨k + 1, by omega, by omega, by go_num, HBR.out, hfr⟩
                  case measure => simp [intOf]; omega
                · have i3 : ¬ (k : Int) < (m : Int) := by omega
                  rw [decide_eq_false hkm]
                  go_wp2
                  go_roundw
                  case rel => exact ⟨k + 1, by omega, by omega, by go_num, HBR.out, hfr⟩
                  case measure => simp [intOf]; omega
          · have i2 : ¬ (k : Int) < (c.order.length : Int) := by omega
            have hlm' : (m : Int) ≤ (c.order.length : Int) := by omega
            go_wp2
            go_ret
            exact ⟨ret_bool (by simp), F1.out.trans hfr.nil⟩
        · have i1 : ¬ (k : Int) ≤ (m : Int) := by omega
          have hlm' : (m : Int) ≤ (c.order.length : Int) := by omega
          go_wp2
          go_ret
          exact ⟨ret_bool (by simp), F1.out.trans hfr.nil⟩
  · have in1 : (1048576 : Int) < (n : Int) := by omega
    go_enter Tryz.func3, Tryz.ntmps3
    go_wp2
    go_ret
    exact ⟨rfl, Fr.refl _ _ _⟩

end Go.Proofs.YtknoanpgadecbaaGreat
