/- FnDecideAbort: the walk. -/
import Derived.Test.YtkcpecihgldflaaDDec
import Derived.Test.YtkcpecihgldflaaIDec2
import Derived.Test.YtkcpecihgldflaaPAbort
import Derived.Test.YtkcpecihgldflaaILocks
namespace Go.Proofs.Ytkcpecihgldflaa
open Go.RowKit
set_option linter.unusedVariables false

theorem dec_small {rs : List Rc} {t : Int} {c : Bool} {D : List Rc × Bool} (h : Small rs) (hl : rs.length ≤ 999999999) (hd : dec rs t c = D) : Small D.1 := by
  subst hd
  rw [dec_eq]
  split
  · exact ⟨by simp, fun r hr => by cases hr⟩
  · split
    · exact h
    · split
      · refine ⟨by simp; omega, fun r hr => ?_⟩
        rcases List.mem_append.1 hr with hr | hr
        · exact h.2 r hr
        · simp at hr; subst hr; simp [decRc]
      · exact h

set_option maxRecDepth 20000 in
set_option maxHeartbeats 2000000 in
theorem decideAbort_walk {w : World} {a : Option Addr} {len cap : Nat} (hb : Bytes w.heap.size w a len cap) (hm : cap ≤ maxLen) :
    Calls Try.prog 7 #[.slice a len cap] w fun e w' => e = .returned (.bool true) ∧ Fr w.heap.size [] w w' := by
  have HB := hid hb
  clear hb
  by_cases hlen : len ≤ 1048576
  · have g0 : ¬ (1048576 : Int) < (len : Int) := by omega
    have g1 : decide ((1048576 : Int) < (len : Int)) = false := by simp; omega
    have g2 : ((0 : Int) ≤ (len : Int)) := by omega
    go_enter Try.func7, Try.ntmps7
    go_upto_if 30 with (first
      | (go_at_call 29; go_must (refine (drawDec_any HB.out hm).mono ?_; rintro e w1 ⟨v, rs, t, c, rfl, hv, few, nc, ht1, ht2, fr1⟩; obtain ⟨va, vcap, rfl, _, _⟩ := hv.shape; have HV := hid hv; have HS := hid (few.small (by omega)); have FL := hid (show rs.length ≤ 999999999 by have := few.1; omega); have NCC := hid nc; clear hv few nc)))
    have FS := hid (fr1.alloc (.cells #[.slice va rs.length vcap] 25))
    generalize hD : dec rs t c = D
    have HD := hid hD
    have HDS := hid (dec_small HS.out FL.out hD)
    clear hD
    obtain ⟨rs', ok⟩ := D
    cases ok
    · go_wp2_with (first
        | (go_at_call 21; go_must (refine (implShardDecide_any (new w.heap.size) _ rs t _ _ (HV.out.grow ((Fr.refl 0 [] w1).alloc (.cells #[.slice va rs.length vcap] 25))) HS.out NCC.out).mono ?_; rintro e w2 ⟨v2, rfl, own2, fr2⟩; rw [HD.out] at own2 ⊢; obtain ⟨a2, cap2, rfl, _, _⟩ := own2.reads.shape; have OWN2 := hid own2; have F2 := hid (FS.out.trans fr2.nil); have SB2 := hid (fr2.keep _ _ (heap_alloc_new w1 (.cells #[.slice va rs.length vcap] 25)) (.inr (by simp))); have HV2 := hid ((HV.out.grow ((Fr.refl 0 [] w1).alloc (.cells #[.slice va rs.length vcap] 25))).grow fr2); have s2 := cell_of (o := 0) SB2.out rfl; have ls2 := lt_of_get SB2.out; clear own2 fr2))
        | (go_at_call 19; go_must (refine (specShardDecide_any (new w.heap.size) _ rs t _ _ (HV2.out.grow ((Fr.refl 0 [] w2).alloc (.cells #[.slice a2 rs'.length cap2] 25))) HS.out).mono ?_; rintro e w3 ⟨v3, rfl, own3, fr3⟩; rw [HD.out] at own3 ⊢; obtain ⟨a3, cap3, rfl, _, _⟩ := own3.reads.shape; have OWN3 := hid own3; have F3 := hid ((F2.out.alloc (.cells #[.slice a2 rs'.length cap2] 25)).trans fr3.nil); have FW3 := hid (((Fr.refl 0 [] w2).alloc (.cells #[.slice a2 rs'.length cap2] 25)).trans fr3.nil); have SB3 := hid (fr3.keep _ _ (heap_up SB2.out _) (.inr (by simp))); have OB3 := hid (fr3.keep _ _ (heap_alloc_new w2 (.cells #[.slice a2 rs'.length cap2] 25)) (.inr (by simp))); have s3 := cell_of (o := 0) SB3.out rfl; have o3 := cell_of (o := 0) OB3.out rfl; have ls3 := lt_of_get SB3.out; have lo3 := lt_of_get OB3.out; have HV3 := hid (HV2.out.grow FW3.out); have R2 := hid (OWN2.out.reads.grow FW3.out); clear own3 fr3 s2))
        | (go_at_call 11; (with_reducible refine (sameShard_eq _ _ _ _ rs' _ (R2.out.grow ((Fr.refl 0 [] w3).alloc (.cells #[.slice a3 rs'.length cap3] 25))) (OWN3.out.reads.grow ((Fr.refl 0 [] w3).alloc (.cells #[.slice a3 rs'.length cap3] 25))) HDS.out).mono ?_); go_must (rintro e w4 ⟨rfl, fr4⟩; have F4 := hid ((F3.out.alloc (.cells #[.slice a3 rs'.length cap3] 25)).trans fr4.nil); have FW4 := hid (((Fr.refl 0 [] w3).alloc (.cells #[.slice a3 rs'.length cap3] 25)).trans fr4.nil); have SB4 := hid (fr4.keep _ _ (heap_up SB3.out _) (.inr (by simp))); have OB4 := hid (fr4.keep _ _ (heap_up OB3.out _) (.inr (by simp))); have WB4 := hid (fr4.keep _ _ (heap_alloc_new w3 (.cells #[.slice a3 rs'.length cap3] 25)) (.inr (by simp))); have s4 := cell_of (o := 0) SB4.out rfl; have o4 := cell_of (o := 0) OB4.out rfl; have x4 := cell_of (o := 0) WB4.out rfl; have ls4 := lt_of_get SB4.out; have lo4 := lt_of_get OB4.out; have lx4 := lt_of_get WB4.out; have HV4 := hid (HV3.out.grow FW4.out); have R24 := hid (R2.out.grow FW4.out); have R34 := hid (OWN3.out.reads.grow FW4.out); clear fr4 s3 o3))
        | (go_at_call 11; go_must (refine (sameShard_eq _ _ _ _ rs' _ R24.out R34.out HDS.out).mono ?_; rintro e w5 ⟨rfl, fr5⟩)))
      all_goals
        go_ret
        exact ⟨rfl, F4.out.trans fr5.nil⟩
    · cases c
      · obtain ⟨st, st', pr, pr', pe, pl, pa, pv', pv, pt⟩ := abort_plain HD.out
        go_wp2_with (first
        | (go_at_call 21; go_must (refine (implShardDecide_any (new w.heap.size) _ rs t _ _ (HV.out.grow ((Fr.refl 0 [] w1).alloc (.cells #[.slice va rs.length vcap] 25))) HS.out NCC.out).mono ?_; rintro e w2 ⟨v2, rfl, own2, fr2⟩; rw [HD.out] at own2 ⊢; obtain ⟨a2, cap2, rfl, _, _⟩ := own2.reads.shape; have OWN2 := hid own2; have F2 := hid (FS.out.trans fr2.nil); have SB2 := hid (fr2.keep _ _ (heap_alloc_new w1 (.cells #[.slice va rs.length vcap] 25)) (.inr (by simp))); have HV2 := hid ((HV.out.grow ((Fr.refl 0 [] w1).alloc (.cells #[.slice va rs.length vcap] 25))).grow fr2); have s2 := cell_of (o := 0) SB2.out rfl; have ls2 := lt_of_get SB2.out; clear own2 fr2))
        | (go_at_call 19; go_must (refine (specShardDecide_any (new w.heap.size) _ rs t _ _ (HV2.out.grow ((Fr.refl 0 [] w2).alloc (.cells #[.slice a2 rs'.length cap2] 25))) HS.out).mono ?_; rintro e w3 ⟨v3, rfl, own3, fr3⟩; rw [HD.out] at own3 ⊢; obtain ⟨a3, cap3, rfl, _, _⟩ := own3.reads.shape; have OWN3 := hid own3; have F3 := hid ((F2.out.alloc (.cells #[.slice a2 rs'.length cap2] 25)).trans fr3.nil); have FW3 := hid (((Fr.refl 0 [] w2).alloc (.cells #[.slice a2 rs'.length cap2] 25)).trans fr3.nil); have SB3 := hid (fr3.keep _ _ (heap_up SB2.out _) (.inr (by simp))); have OB3 := hid (fr3.keep _ _ (heap_alloc_new w2 (.cells #[.slice a2 rs'.length cap2] 25)) (.inr (by simp))); have s3 := cell_of (o := 0) SB3.out rfl; have o3 := cell_of (o := 0) OB3.out rfl; have ls3 := lt_of_get SB3.out; have lo3 := lt_of_get OB3.out; have HV3 := hid (HV2.out.grow FW3.out); have R2 := hid (OWN2.out.reads.grow FW3.out); clear own3 fr3 s2))
        | (go_at_call 11; (with_reducible refine (sameShard_eq _ _ _ _ rs' _ (R2.out.grow ((Fr.refl 0 [] w3).alloc (.cells #[.slice a3 rs'.length cap3] 25))) (OWN3.out.reads.grow ((Fr.refl 0 [] w3).alloc (.cells #[.slice a3 rs'.length cap3] 25))) HDS.out).mono ?_); go_must (rintro e w4 ⟨rfl, fr4⟩; have F4 := hid ((F3.out.alloc (.cells #[.slice a3 rs'.length cap3] 25)).trans fr4.nil); have FW4 := hid (((Fr.refl 0 [] w3).alloc (.cells #[.slice a3 rs'.length cap3] 25)).trans fr4.nil); have SB4 := hid (fr4.keep _ _ (heap_up SB3.out _) (.inr (by simp))); have OB4 := hid (fr4.keep _ _ (heap_up OB3.out _) (.inr (by simp))); have WB4 := hid (fr4.keep _ _ (heap_alloc_new w3 (.cells #[.slice a3 rs'.length cap3] 25)) (.inr (by simp))); have s4 := cell_of (o := 0) SB4.out rfl; have o4 := cell_of (o := 0) OB4.out rfl; have x4 := cell_of (o := 0) WB4.out rfl; have ls4 := lt_of_get SB4.out; have lo4 := lt_of_get OB4.out; have lx4 := lt_of_get WB4.out; have HV4 := hid (HV3.out.grow FW4.out); have R24 := hid (R2.out.grow FW4.out); have R34 := hid (OWN3.out.reads.grow FW4.out); clear fr4 s3 o3))
        | (go_at_call 11; go_must (refine (sameShard_eq _ _ _ _ rs' _ R24.out R34.out HDS.out).mono ?_; rintro e w5 ⟨rfl, fr5⟩))
        | (go_at_call 13; (with_reducible refine (implShardRecover_any (new w.heap.size) _ rs st _ HV4.out HS.out pv pr).mono ?_); go_must (rintro e w5 ⟨y1, y2, rfl, yr, yl, yn, yn2, fr5⟩; obtain ⟨ya, ycap, rfl, _, _⟩ := yr.shape; obtain ⟨za, zcap, rfl, _, _⟩ := yl.shape; rw [yn, yn2]; rw [yn] at yr; have F5 := hid (F4.out.trans fr5.nil); have YR := hid yr; have SB5 := hid (fr5.keep _ _ SB4.out (.inr (by simp))); have OB5 := hid (fr5.keep _ _ OB4.out (.inr (by simp))); have s5 := cell_of (o := 0) SB5.out rfl; have o5 := cell_of (o := 0) OB5.out rfl; have ls5 := lt_of_get SB5.out; have lo5 := lt_of_get OB5.out; have R25 := hid (R24.out.grow fr5); clear fr5 s4 o4 x4 yr yl))
        | (go_at_call 13; go_must (refine (implShardRecover_any _ _ rs' st' _ (R25.out.grow ((Fr.refl 0 [] w5).alloc (.cells #[.slice ya 4 ycap, .slice za 4 zcap] 35))) HDS.out pv' pr').mono ?_; rintro e w6 ⟨y1', y2', rfl, yr', yl', yn', yn2', fr6⟩; obtain ⟨ya', ycap', rfl, _, _⟩ := yr'.shape; obtain ⟨za', zcap', rfl, _, _⟩ := yl'.shape; rw [yn', yn2']; rw [yn', pe] at yr'; rw [yn2'] at yl'; have F6 := hid ((F5.out.alloc (.cells #[.slice ya 4 ycap, .slice za 4 zcap] 35)).trans fr6.nil); have FW6 := hid (((Fr.refl 0 [] w5).alloc (.cells #[.slice ya 4 ycap, .slice za 4 zcap] 35)).trans fr6.nil); have YR6 := hid (YR.out.grow FW6.out); have YR' := hid yr'; have YL' := hid yl'; have AB6 := hid (fr6.keep _ _ (heap_alloc_new w5 (.cells #[.slice ya 4 ycap, .slice za 4 zcap] 35)) (.inr (by simp))); have OB6 := hid (fr6.keep _ _ (heap_up OB5.out _) (.inr (by simp))); have a6 := cell_of (o := 0) AB6.out rfl; have o6 := cell_of (o := 0) OB6.out rfl; have la6 := lt_of_get AB6.out; have lo6 := lt_of_get OB6.out; have R26 := hid (R25.out.grow FW6.out); clear fr6 s5 o5 yr' yl'))
        | (go_at_call 14; go_must (refine (sameInts_eq _ _ _ _ st.refs _ (YR6.out.grow ((Fr.refl 0 [] w6).alloc (.cells #[.slice ya' 4 ycap', .slice za' 4 zcap'] 35))) (YR'.out.grow ((Fr.refl 0 [] w6).alloc (.cells #[.slice ya' 4 ycap', .slice za' 4 zcap'] 35))) (by omega)).mono ?_; rintro e w7 ⟨rfl, fr7⟩; have F7 := hid ((F6.out.alloc (.cells #[.slice ya' 4 ycap', .slice za' 4 zcap'] 35)).trans fr7.nil); have FW7 := hid (((Fr.refl 0 [] w6).alloc (.cells #[.slice ya' 4 ycap', .slice za' 4 zcap'] 35)).trans fr7.nil); have BB7 := hid (fr7.keep _ _ (heap_alloc_new w6 (.cells #[.slice ya' 4 ycap', .slice za' 4 zcap'] 35)) (.inr (by simp))); have OB7 := hid (fr7.keep _ _ (heap_up OB6.out _) (.inr (by simp))); have b7 := cell_of (o := 1) BB7.out rfl; have o7 := cell_of (o := 0) OB7.out rfl; have R27 := hid (R26.out.grow FW7.out); have YL7 := hid (YL'.out.grow FW7.out); clear fr7 a6 o6))
        | (go_at_call 30; go_must (refine (locksOf_none _ _ st'.locks t _ YL7.out yn2' pt (fun i x hx => ⟨(pl i x hx).1, (pl i x hx).2⟩)).mono ?_; rintro e w8 ⟨rfl, fr8⟩; have F8 := hid (F7.out.trans fr8.nil); have OB8 := hid (fr8.keep _ _ OB7.out (.inr (by simp))); have o8 := cell_of (o := 0) OB8.out rfl; have R28 := hid (R27.out.grow fr8); clear fr8 o7 b7))
        | (go_at_call 15; go_must (refine (implShardAsk_any _ _ rs' t _ R28.out HDS.out (NC_of_valid pv')).mono ?_; rintro e w9 ⟨rfl, fr9⟩; rw [pv', pt, pa])))
        go_ret
        exact ⟨rfl, F8.out.trans fr9.nil⟩
      · go_wp2_with (first
        | (go_at_call 21; go_must (refine (implShardDecide_any (new w.heap.size) _ rs t _ _ (HV.out.grow ((Fr.refl 0 [] w1).alloc (.cells #[.slice va rs.length vcap] 25))) HS.out NCC.out).mono ?_; rintro e w2 ⟨v2, rfl, own2, fr2⟩; rw [HD.out] at own2 ⊢; obtain ⟨a2, cap2, rfl, _, _⟩ := own2.reads.shape; have OWN2 := hid own2; have F2 := hid (FS.out.trans fr2.nil); have SB2 := hid (fr2.keep _ _ (heap_alloc_new w1 (.cells #[.slice va rs.length vcap] 25)) (.inr (by simp))); have HV2 := hid ((HV.out.grow ((Fr.refl 0 [] w1).alloc (.cells #[.slice va rs.length vcap] 25))).grow fr2); have s2 := cell_of (o := 0) SB2.out rfl; have ls2 := lt_of_get SB2.out; clear own2 fr2))
        | (go_at_call 19; go_must (refine (specShardDecide_any (new w.heap.size) _ rs t _ _ (HV2.out.grow ((Fr.refl 0 [] w2).alloc (.cells #[.slice a2 rs'.length cap2] 25))) HS.out).mono ?_; rintro e w3 ⟨v3, rfl, own3, fr3⟩; rw [HD.out] at own3 ⊢; obtain ⟨a3, cap3, rfl, _, _⟩ := own3.reads.shape; have OWN3 := hid own3; have F3 := hid ((F2.out.alloc (.cells #[.slice a2 rs'.length cap2] 25)).trans fr3.nil); have FW3 := hid (((Fr.refl 0 [] w2).alloc (.cells #[.slice a2 rs'.length cap2] 25)).trans fr3.nil); have SB3 := hid (fr3.keep _ _ (heap_up SB2.out _) (.inr (by simp))); have OB3 := hid (fr3.keep _ _ (heap_alloc_new w2 (.cells #[.slice a2 rs'.length cap2] 25)) (.inr (by simp))); have s3 := cell_of (o := 0) SB3.out rfl; have o3 := cell_of (o := 0) OB3.out rfl; have ls3 := lt_of_get SB3.out; have lo3 := lt_of_get OB3.out; have HV3 := hid (HV2.out.grow FW3.out); have R2 := hid (OWN2.out.reads.grow FW3.out); clear own3 fr3 s2))
        | (go_at_call 11; (with_reducible refine (sameShard_eq _ _ _ _ rs' _ (R2.out.grow ((Fr.refl 0 [] w3).alloc (.cells #[.slice a3 rs'.length cap3] 25))) (OWN3.out.reads.grow ((Fr.refl 0 [] w3).alloc (.cells #[.slice a3 rs'.length cap3] 25))) HDS.out).mono ?_); go_must (rintro e w4 ⟨rfl, fr4⟩; have F4 := hid ((F3.out.alloc (.cells #[.slice a3 rs'.length cap3] 25)).trans fr4.nil); have FW4 := hid (((Fr.refl 0 [] w3).alloc (.cells #[.slice a3 rs'.length cap3] 25)).trans fr4.nil); have SB4 := hid (fr4.keep _ _ (heap_up SB3.out _) (.inr (by simp))); have OB4 := hid (fr4.keep _ _ (heap_up OB3.out _) (.inr (by simp))); have WB4 := hid (fr4.keep _ _ (heap_alloc_new w3 (.cells #[.slice a3 rs'.length cap3] 25)) (.inr (by simp))); have s4 := cell_of (o := 0) SB4.out rfl; have o4 := cell_of (o := 0) OB4.out rfl; have x4 := cell_of (o := 0) WB4.out rfl; have ls4 := lt_of_get SB4.out; have lo4 := lt_of_get OB4.out; have lx4 := lt_of_get WB4.out; have HV4 := hid (HV3.out.grow FW4.out); have R24 := hid (R2.out.grow FW4.out); have R34 := hid (OWN3.out.reads.grow FW4.out); clear fr4 s3 o3))
        | (go_at_call 11; go_must (refine (sameShard_eq _ _ _ _ rs' _ R24.out R34.out HDS.out).mono ?_; rintro e w5 ⟨rfl, fr5⟩)))
        all_goals
          go_ret
          exact ⟨rfl, F4.out.trans fr5.nil⟩
  · have g0 : (1048576 : Int) < (len : Int) := by omega
    have g1 : decide ((1048576 : Int) < (len : Int)) = true := by simp; omega
    go_enter Try.func7, Try.ntmps7
    go_wp2
    go_ret
    exact ⟨rfl, Fr.refl _ _ _⟩

end Go.Proofs.Ytkcpecihgldflaa
