/- The reference's l21Recover, ShardValid, ShardAsk. -/
import Derived.Test.YtkcpecihgldflaaStep3
import Derived.Test.YtkcpecihgldflaaLaws1
namespace Go.Proofs.Ytkcpecihgldflaa
open Go.RowKit
set_option linter.unusedVariables false



/-- What l21Recover says. -/
def RecoverPost (w : World) (rs : List Rc) (e : Ending) (w' : World) : Prop :=
  ∃ v1 v2 s, e = .returned (.tuple #[.agg #[v1, v2], .bool (valid rs)]) ∧ IntsR (new w.heap.size) w' v1 s.refs ∧ IntsR (new w.heap.size) w' v2 s.locks ∧
    s.refs.length = 4 ∧ s.locks.length = 4 ∧ (∀ s', recover rs = some s' → s = s') ∧ Fr w.heap.size [] w w'

theorem valid_none {rs : List Rc} (h : recover rs = none) : valid rs = false := by simp [valid, h]
theorem valid_some {rs : List Rc} {s : St} (h : recover rs = some s) : valid rs = decide (rs.length ≤ 30) := by simp [valid, h]

set_option maxRecDepth 20000 in
set_option maxHeartbeats 2000000 in
theorem l21Recover_any (K : Nat → Bool → Prop) (v : Value) (rs : List Rc) (w : World) (hv : RecsR K w v rs) (hb : rs.length ≤ 1000000000) (hu : ∀ r ∈ rs, r.ups.length ≤ 1000000000) :
    Calls Try.prog 33 #[v] w (RecoverPost w rs) := by
  obtain ⟨a, cap, rfl, hcap, hcell⟩ := hv.shape
  have HU := hid hu
  have HV := hid hv
  clear hu hv
  go_enter Try.func33, Try.ntmps33
  go_wp2_with (go_at_call 60; go_must (refine (l21Begin_any _).mono ?_; rintro e w1 ⟨v1, v2, rfl, tw, fr⟩; obtain ⟨g1, cap1, rfl, _, _, _⟩ := own_shape tw.1 (by decide); obtain ⟨g2, cap2, rfl, _, _, _⟩ := own_shape tw.2.1 (by decide); have TW := hid tw; have F1 := hid (((Fr.refl w.heap.size [] w).alloc (.cells #[.slice none 0 0, .slice none 0 0] 35)).trans fr.nil); have B0 := hid (fr.keep _ _ (heap_alloc_new w (.cells #[.slice none 0 0, .slice none 0 0] 35)) (.inr (by simp))); have hsz := fr.size; clear tw fr))
  have hsz' : w.heap.size < w1.heap.size := by simp at hsz; omega
  go_loopw [5] (fun i wr => ∃ (k : Nat) (v1 v2 : Value) (s : St), k ≤ rs.length ∧ i = .int .i64 k ∧ recTo rs k = some s ∧ wr.heap[w1.heap.size]? = some (.cells #[v1, v2] 35 (0, 0)) ∧
      wr.heap[w.heap.size]? = some (.cells #[.slice none 0 0, .slice none 0 0] 35 (0, 0)) ∧ IntsR (new w.heap.size) wr v1 s.refs ∧ IntsR (new w.heap.size) wr v2 s.locks ∧ Fr w.heap.size [] w wr) (fun i _ => rs.length - (intOf i).toNat)
  case atStart => exact ⟨0, _, _, St.begin, Nat.zero_le _, rfl, rfl, heap_alloc_new w1 _, (Below.heap_alloc _ _ _ hsz').trans B0.out,
      ((IntsR.ofOwn TW.out.1 rfl (by simp)).grow ((Fr.refl 0 [] w1).alloc _)), ((IntsR.ofOwn TW.out.2.1 rfl (by simp)).grow ((Fr.refl 0 [] w1).alloc _)), F1.out.alloc _⟩
  case round =>
    obtain ⟨k, u1, u2, s, hk, rfl, hrec, hbx, hb0, hi1, hi2, hfr⟩ := hrel
    have HR := hid hrec
    have HX := hid hbx
    have HB := hid hb0
    have H1 := hid hi1
    have H2 := hid hi2
    have c1 := cell_of (o := 0) hbx rfl
    have c2 := cell_of (o := 1) hbx rfl
    have f1 := free_of (o := 0) hbx
    have f2 := free_of (o := 1) hbx
    have d1 := cell_of (o := 0) hb0 rfl
    have d2 := cell_of (o := 1) hb0 rfl
    have e1 := free_of (o := 0) hb0
    have e2 := free_of (o := 1) hb0
    obtain ⟨ra, rcap, rfl, _, _⟩ := hi1.shape
    obtain ⟨la, lcap, rfl, _, _⟩ := hi2.shape
    clear hrec hbx hb0 hi1 hi2
    by_cases hlt : k < rs.length
    · rcases hcell with rfl | ⟨b, off, rfl, hbs, hcell⟩
      · simp at hlt
      · obtain ⟨u, h0, h1, h2, h3⟩ := hcell k hlt
        have k0 := hfr.cell hbs h0
        have k1 := hfr.cell hbs h1
        have k2 := hfr.cell hbs h2
        have H3 := hid h3
        have hbr : b < wr.heap.size := Nat.lt_of_lt_of_le hbs hfr.size
        clear h0 h1 h2 h3 hcell
        cases g1 : inR rs[k].txn 0 11
        · have hz := hid (show recover rs = none by
            have := recTo_succ HR.out hlt
            rw [g1] at this
            exact recTo_none this _ hlt)
          go_wp2_with (go_at_call 44; go_must (refine (l12Txn_any _ _).mono ?_; rintro e w' ⟨rfl, rfl⟩))
          have FE := hid ((hfr.setNew (p := ⟨w.heap.size, 0, none⟩) (Nat.le_refl _) (.slice ra s.refs.length rcap)).setNew (p := ⟨w.heap.size, 1, none⟩) (Nat.le_refl _) (.slice la s.locks.length lcap))
          have FT := hid (((Fr.refl 0 [35] wr).setOld (p := ⟨w.heap.size, 0, none⟩) HB.out (Nat.zero_le _) (by simp [otag]) (.slice ra s.refs.length rcap)).setOld (p := ⟨w.heap.size, 1, none⟩) (block_set HB.out 0 _) (Nat.zero_le _) (by simp [otag]) (.slice la s.locks.length lcap))
          exact bodyPost_ret (v := .tuple #[.agg #[.slice ra s.refs.length rcap, .slice la s.locks.length lcap], .bool false]) (by simp [results, Try.results33, go_sem, d1, d2]) rfl
            ⟨_, _, s, by rw [valid_none hz.out], H1.out.keep FT.out (Safe.new (by simp)), H2.out.keep FT.out (Safe.new (by simp)), (recTo_len HR.out).1, (recTo_len HR.out).2, (fun s' h => by rw [hz.out] at h; cases h), FE.out⟩
        · go_wp2_with (go_at_call 44; go_must (refine (l12Txn_any _ _).mono ?_; rintro e w' ⟨rfl, rfl⟩))
          have hne1 : w1.heap.size ≠ wr.heap.size := Nat.ne_of_lt (lt_of_get HX.out)
          have hne0 : w.heap.size ≠ wr.heap.size := Nat.ne_of_lt (lt_of_get HB.out)
          have hne2 : b ≠ wr.heap.size := Nat.ne_of_lt hbr
          have hkc : (k : Int) ≤ (cap : Int) := by omega
          have hkn : (k : Int) < (rs.length : Int) := by omega
          have hk0 : (0 : Int) ≤ (k : Int) := by omega
          go_region_held3 (fun x => x.cell? ⟨w1.heap.size, 0, none⟩ = some (.slice ra s.refs.length rcap) ∧ x.cell? ⟨w1.heap.size, 1, none⟩ = some (.slice la s.locks.length lcap) ∧
              x.cell? ⟨b, off + k * 3, none⟩ = some (.int .i64 rs[k].kind) ∧ x.cell? ⟨b, off + k * 3 + 1, none⟩ = some (.int .i64 rs[k].txn) ∧ x.cell? ⟨b, off + k * 3 + 2, none⟩ = some u ∧ Fr wr.heap.size [] wr x)
            (first
              | exact ⟨c1, c2, k0, k1, k2, (Fr.refl _ _ wr).drew⟩
              | exact ⟨cell_alloc c1, cell_alloc c2, cell_alloc k0, cell_alloc k1, cell_alloc k2, ((Fr.refl _ _ wr).alloc _).drew⟩
              | exact ⟨p1, p2, q0, q1, q2, fw2⟩
              | exact ⟨cell_alloc p1, cell_alloc p2, cell_alloc q0, cell_alloc q1, cell_alloc q2, fw2.alloc _⟩
              | exact ⟨cell_of (block_setne (block_setne HX2 hne1) hne1) rfl, cell_of (block_setne (block_setne HX2 hne1) hne1) rfl, cell_setne (cell_setne q0 hne2) hne2, cell_setne (cell_setne q1 hne2) hne2, cell_setne (cell_setne q2 hne2) hne2, (fw2.setNew (Nat.le_refl _) _).setNew (Nat.le_refl _) _⟩)
            (first
              | (go_at_call 61; (with_reducible refine (l21Step_any K K w.heap.size _ _ _ u (rs.take k) s rs[k] wr.drew (hfr.trans (Fr.refl wr.heap.size [] wr).drew.nil).size ((HV.out.grow (hfr.trans (Fr.refl wr.heap.size [] wr).drew.nil)).take rfl hk) (by rw [List.length_take]; omega) (H1.out.grow (Fr.refl wr.heap.size [] wr).drew) (H2.out.grow (Fr.refl wr.heap.size [] wr).drew) (H3.out.grow (hfr.trans (Fr.refl wr.heap.size [] wr).drew.nil)) (HU.out _ (List.getElem_mem _)) (recTo_len HR.out).1 (recTo_len HR.out).2 (upsOf_len _ HU.out) (upsOf_in HR.out _)).mono ?_); go_must (rintro e w2 ⟨x1, x2, ok, s', rfl, r1, r2, hst, fr2⟩; obtain ⟨xa, xcap, rfl, _, _⟩ := r1.shape; obtain ⟨ya, ycap, rfl, _, _⟩ := r2.shape; have HS := hid hst; have R1 := hid r1; have R2 := hid r2; have fw2 : Fr wr.heap.size [] wr w2 := Fr.trans (Fr.refl wr.heap.size [] wr).drew fr2.nil; have HX2 := fw2.keep _ _ HX.out (.inr (by simp)); have HB2 := hid (fw2.keep _ _ HB.out (.inr (by simp))); have FR2 := hfr.trans fw2.nil; have q0 := fw2.cell hbr k0; have q1 := fw2.cell hbr k1; have q2 := fw2.cell hbr k2; have p1 := cell_of (o := 0) HX2 rfl; have p2 := cell_of (o := 1) HX2 rfl; have HN := hid True.intro; clear r1 r2 hst))
              | (go_at_call 61; (with_reducible refine (l21Step_any K K w.heap.size _ _ _ u (rs.take k) s rs[k] (wr.alloc (.cells #[.slice none 0 0, .slice none 0 0] 35)).drew (hfr.trans ((Fr.refl wr.heap.size [] wr).alloc (.cells #[.slice none 0 0, .slice none 0 0] 35)).drew.nil).size ((HV.out.grow (hfr.trans ((Fr.refl wr.heap.size [] wr).alloc (.cells #[.slice none 0 0, .slice none 0 0] 35)).drew.nil)).take rfl hk) (by rw [List.length_take]; omega) (H1.out.grow ((Fr.refl wr.heap.size [] wr).alloc (.cells #[.slice none 0 0, .slice none 0 0] 35)).drew) (H2.out.grow ((Fr.refl wr.heap.size [] wr).alloc (.cells #[.slice none 0 0, .slice none 0 0] 35)).drew) (H3.out.grow (hfr.trans ((Fr.refl wr.heap.size [] wr).alloc (.cells #[.slice none 0 0, .slice none 0 0] 35)).drew.nil)) (HU.out _ (List.getElem_mem _)) (recTo_len HR.out).1 (recTo_len HR.out).2 (upsOf_len _ HU.out) (upsOf_in HR.out _)).mono ?_); go_must (rintro e w2 ⟨x1, x2, ok, s', rfl, r1, r2, hst, fr2⟩; obtain ⟨xa, xcap, rfl, _, _⟩ := r1.shape; obtain ⟨ya, ycap, rfl, _, _⟩ := r2.shape; have HS := hid hst; have R1 := hid r1; have R2 := hid r2; have fw2 : Fr wr.heap.size [] wr w2 := Fr.trans ((Fr.refl wr.heap.size [] wr).alloc (.cells #[.slice none 0 0, .slice none 0 0] 35)).drew fr2.nil; have HX2 := fw2.keep _ _ HX.out (.inr (by simp)); have HB2 := hid (fw2.keep _ _ HB.out (.inr (by simp))); have FR2 := hfr.trans fw2.nil; have q0 := fw2.cell hbr k0; have q1 := fw2.cell hbr k1; have q2 := fw2.cell hbr k2; have p1 := cell_of (o := 0) HX2 rfl; have p2 := cell_of (o := 1) HX2 rfl; have HN := fr2.keep _ _ (show (wr.alloc (.cells #[.slice none 0 0, .slice none 0 0] 35)).drew.heap[_]? = _ from heap_alloc_new wr (.cells #[.slice none 0 0, .slice none 0 0] 35)) (.inr (by simp)); have n1 := cell_of (o := 0) HN rfl; have n2 := cell_of (o := 1) HN rfl; have n3 := free_of (o := 0) HN; have n4 := free_of (o := 1) HN; clear r1 r2 hst)))
          · have N3 := hid (heap_alloc_new w2 (.cells #[.slice xa s'.refs.length xcap, .slice ya s'.locks.length ycap] 35))
            have T0 := hid ((Below.heap_alloc _ (.cells #[.slice xa s'.refs.length xcap, .slice ya s'.locks.length ycap] 35) _ (lt_of_get HB2.out)).trans HB2.out)
            have T1 := hid ((Below.heap_alloc _ (.cells #[.slice xa s'.refs.length xcap, .slice ya s'.locks.length ycap] 35) _ (lt_of_get HX2)).trans HX2)
            have T3 := hid (H1.out.grow (fw2.nil.trans ((Fr.refl 0 [] w2).alloc (.cells #[.slice xa s'.refs.length xcap, .slice ya s'.locks.length ycap] 35)) : Fr 0 [] wr _))
            have T4 := hid (H2.out.grow (fw2.nil.trans ((Fr.refl 0 [] w2).alloc (.cells #[.slice xa s'.refs.length xcap, .slice ya s'.locks.length ycap] 35)) : Fr 0 [] wr _))
            have T5 := hid (R1.out.grow ((Fr.refl 0 [] w2).alloc (.cells #[.slice xa s'.refs.length xcap, .slice ya s'.locks.length ycap] 35)))
            have T6 := hid (R2.out.grow ((Fr.refl 0 [] w2).alloc (.cells #[.slice xa s'.refs.length xcap, .slice ya s'.locks.length ycap] 35)))
            have FR3 := (hfr.trans fw2.nil).alloc (.cells #[.slice xa s'.refs.length xcap, .slice ya s'.locks.length ycap] 35)
            clear p1 p2 q0 q1 q2 HX2 HB2 FR2 c1 c2 f1 f2 d1 d2 e1 e2 k0 k1 k2
            revert N3 T0 T1 T3 T4 T5 T6 FR3
            generalize w2.alloc (.cells #[.slice xa s'.refs.length xcap, .slice ya s'.locks.length ycap] 35) = W3
            intro N3 T0 T1 T3 T4 T5 T6 FR3
            have t01 := cell_of (o := 0) T0.out rfl
            have t02 := cell_of (o := 1) T0.out rfl
            have t03 := free_of (o := 0) T0.out
            have t04 := free_of (o := 1) T0.out
            have t11 := cell_of (o := 0) T1.out rfl
            have t12 := cell_of (o := 1) T1.out rfl
            have t13 := free_of (o := 0) T1.out
            have t14 := free_of (o := 1) T1.out
            have t21 := cell_of (o := 0) N3.out rfl
            have t22 := cell_of (o := 1) N3.out rfl
            cases ok
            · have hz := hid (show recover rs = none from recTo_none (by rw [recTo_succ HR.out hlt, g1, HS.out]; rfl) _ hlt)
              go_wp2
              have FE := hid ((FR3.setNew (p := ⟨w.heap.size, 0, none⟩) (Nat.le_refl _) (.slice ra s.refs.length rcap)).setNew (p := ⟨w.heap.size, 1, none⟩) (Nat.le_refl _) (.slice la s.locks.length lcap))
              have FT := hid (((Fr.refl 0 [35] W3).setOld (p := ⟨w.heap.size, 0, none⟩) T0.out (Nat.zero_le _) (by simp [otag]) (.slice ra s.refs.length rcap)).setOld (p := ⟨w.heap.size, 1, none⟩) (block_set T0.out 0 _) (Nat.zero_le _) (by simp [otag]) (.slice la s.locks.length lcap))
              exact bodyPost_ret (v := .tuple #[.agg #[.slice ra s.refs.length rcap, .slice la s.locks.length lcap], .bool false]) (by simp [results, Try.results33, go_sem, t01, t02]) rfl
                ⟨_, _, s, by rw [valid_none hz.out], T3.out.keep FT.out (Safe.new (by simp)), T4.out.keep FT.out (Safe.new (by simp)), (recTo_len HR.out).1, (recTo_len HR.out).2, (fun s' h => by rw [hz.out] at h; cases h), FE.out⟩
            · have hz := hid (show recTo rs (k + 1) = some s' by rw [recTo_succ HR.out hlt, g1, HS.out]; rfl)
              go_wp2
              go_roundw
              case rel =>
                have FT := ((Fr.refl 0 [35] W3).setOld (p := ⟨w1.heap.size, 0, none⟩) T1.out (Nat.zero_le _) (by simp [otag]) (.slice xa s'.refs.length xcap)).setOld (p := ⟨w1.heap.size, 1, none⟩) (block_set T1.out 0 _) (Nat.zero_le _) (by simp [otag]) (.slice ya s'.locks.length ycap)
                exact ⟨k + 1, _, _, s', by omega, by go_num, hz.out, block_set (block_set T1.out 0 _) 1 _, block_setne (block_setne T0.out (Nat.ne_of_lt hsz')) (Nat.ne_of_lt hsz'), T5.out.keep FT (Safe.new (by simp)), T6.out.keep FT (Safe.new (by simp)), (FR3.setNew (Nat.le_of_lt hsz') _).setNew (Nat.le_of_lt hsz') _⟩
              case measure => simp [intOf]; omega
          · have N3 := hid (block_set (block_set HN 0 (.slice xa s'.refs.length xcap)) 1 (.slice ya s'.locks.length ycap))
            have T0 := hid (block_setne (u := .slice ya s'.locks.length ycap) (p := ⟨wr.heap.size, 1, none⟩) (block_setne (u := .slice xa s'.refs.length xcap) (p := ⟨wr.heap.size, 0, none⟩) HB2.out hne0) hne0)
            have T1 := hid (block_setne (u := .slice ya s'.locks.length ycap) (p := ⟨wr.heap.size, 1, none⟩) (block_setne (u := .slice xa s'.refs.length xcap) (p := ⟨wr.heap.size, 0, none⟩) HX2 hne1) hne1)
            have T3 := hid (H1.out.grow (((fw2.setNew (p := ⟨wr.heap.size, 0, none⟩) (Nat.le_refl _) (.slice xa s'.refs.length xcap)).setNew (p := ⟨wr.heap.size, 1, none⟩) (Nat.le_refl _) (.slice ya s'.locks.length ycap)).nil : Fr 0 [] wr _))
            have T4 := hid (H2.out.grow (((fw2.setNew (p := ⟨wr.heap.size, 0, none⟩) (Nat.le_refl _) (.slice xa s'.refs.length xcap)).setNew (p := ⟨wr.heap.size, 1, none⟩) (Nat.le_refl _) (.slice ya s'.locks.length ycap)).nil : Fr 0 [] wr _))
            have T5 := hid (R1.out.keep (((Fr.refl 0 [35] w2).setOld (p := ⟨wr.heap.size, 0, none⟩) HN (Nat.zero_le _) (by simp [otag]) (.slice xa s'.refs.length xcap)).setOld (p := ⟨wr.heap.size, 1, none⟩) (block_set HN 0 _) (Nat.zero_le _) (by simp [otag]) (.slice ya s'.locks.length ycap)) (Safe.new (by simp)))
            have T6 := hid (R2.out.keep (((Fr.refl 0 [35] w2).setOld (p := ⟨wr.heap.size, 0, none⟩) HN (Nat.zero_le _) (by simp [otag]) (.slice xa s'.refs.length xcap)).setOld (p := ⟨wr.heap.size, 1, none⟩) (block_set HN 0 _) (Nat.zero_le _) (by simp [otag]) (.slice ya s'.locks.length ycap)) (Safe.new (by simp)))
            have FR3 := hfr.trans ((fw2.setNew (p := ⟨wr.heap.size, 0, none⟩) (Nat.le_refl _) (.slice xa s'.refs.length xcap)).setNew (p := ⟨wr.heap.size, 1, none⟩) (Nat.le_refl _) (.slice ya s'.locks.length ycap)).nil
            clear n1 n2 n3 n4 p1 p2 q0 q1 q2 HX2 HB2 FR2 c1 c2 f1 f2 d1 d2 e1 e2 k0 k1 k2
            revert N3 T0 T1 T3 T4 T5 T6 FR3
            generalize (w2.setCell ⟨wr.heap.size, 0, none⟩ (.slice xa s'.refs.length xcap)).setCell ⟨wr.heap.size, 1, none⟩ (.slice ya s'.locks.length ycap) = W3
            intro N3 T0 T1 T3 T4 T5 T6 FR3
            have t01 := cell_of (o := 0) T0.out rfl
            have t02 := cell_of (o := 1) T0.out rfl
            have t03 := free_of (o := 0) T0.out
            have t04 := free_of (o := 1) T0.out
            have t11 := cell_of (o := 0) T1.out rfl
            have t12 := cell_of (o := 1) T1.out rfl
            have t13 := free_of (o := 0) T1.out
            have t14 := free_of (o := 1) T1.out
            have t21 := cell_of (o := 0) N3.out rfl
            have t22 := cell_of (o := 1) N3.out rfl
            cases ok
            · have hz := hid (show recover rs = none from recTo_none (by rw [recTo_succ HR.out hlt, g1, HS.out]; rfl) _ hlt)
              go_wp2
              have FE := hid ((FR3.setNew (p := ⟨w.heap.size, 0, none⟩) (Nat.le_refl _) (.slice ra s.refs.length rcap)).setNew (p := ⟨w.heap.size, 1, none⟩) (Nat.le_refl _) (.slice la s.locks.length lcap))
              have FT := hid (((Fr.refl 0 [35] W3).setOld (p := ⟨w.heap.size, 0, none⟩) T0.out (Nat.zero_le _) (by simp [otag]) (.slice ra s.refs.length rcap)).setOld (p := ⟨w.heap.size, 1, none⟩) (block_set T0.out 0 _) (Nat.zero_le _) (by simp [otag]) (.slice la s.locks.length lcap))
              exact bodyPost_ret (v := .tuple #[.agg #[.slice ra s.refs.length rcap, .slice la s.locks.length lcap], .bool false]) (by simp [results, Try.results33, go_sem, t01, t02]) rfl
                ⟨_, _, s, by rw [valid_none hz.out], T3.out.keep FT.out (Safe.new (by simp)), T4.out.keep FT.out (Safe.new (by simp)), (recTo_len HR.out).1, (recTo_len HR.out).2, (fun s' h => by rw [hz.out] at h; cases h), FE.out⟩
            · have hz := hid (show recTo rs (k + 1) = some s' by rw [recTo_succ HR.out hlt, g1, HS.out]; rfl)
              go_wp2
              go_roundw
              case rel =>
                have FT := ((Fr.refl 0 [35] W3).setOld (p := ⟨w1.heap.size, 0, none⟩) T1.out (Nat.zero_le _) (by simp [otag]) (.slice xa s'.refs.length xcap)).setOld (p := ⟨w1.heap.size, 1, none⟩) (block_set T1.out 0 _) (Nat.zero_le _) (by simp [otag]) (.slice ya s'.locks.length ycap)
                exact ⟨k + 1, _, _, s', by omega, by go_num, hz.out, block_set (block_set T1.out 0 _) 1 _, block_setne (block_setne T0.out (Nat.ne_of_lt hsz')) (Nat.ne_of_lt hsz'), T5.out.keep FT (Safe.new (by simp)), T6.out.keep FT (Safe.new (by simp)), (FR3.setNew (Nat.le_of_lt hsz') _).setNew (Nat.le_of_lt hsz') _⟩
              case measure => simp [intOf]; omega
    · obtain rfl : k = rs.length := by omega
      go_wp2
      have FE := hid ((hfr.setNew (p := ⟨w.heap.size, 0, none⟩) (Nat.le_refl _) (.slice ra s.refs.length rcap)).setNew (p := ⟨w.heap.size, 1, none⟩) (Nat.le_refl _) (.slice la s.locks.length lcap))
      have FT := hid (((Fr.refl 0 [35] wr).setOld (p := ⟨w.heap.size, 0, none⟩) HB.out (Nat.zero_le _) (by simp [otag]) (.slice ra s.refs.length rcap)).setOld (p := ⟨w.heap.size, 1, none⟩) (block_set HB.out 0 _) (Nat.zero_le _) (by simp [otag]) (.slice la s.locks.length lcap))
      exact bodyPost_ret (v := .tuple #[.agg #[.slice ra s.refs.length rcap, .slice la s.locks.length lcap], .bool (decide ((rs.length : Int) ≤ 30))]) (by simp [results, Try.results33, go_sem, d1, d2]) rfl
            ⟨_, _, s, by rw [valid_some (s := s) HR.out, show decide ((rs.length : Int) ≤ 30) = decide (rs.length ≤ 30) from decide_eq_decide.2 (by omega)], H1.out.keep FT.out (Safe.new (by simp)), H2.out.keep FT.out (Safe.new (by simp)), (recTo_len HR.out).1, (recTo_len HR.out).2, (fun s' h => by rw [show recover rs = some s from HR.out] at h; cases h; rfl), FE.out⟩

end Go.Proofs.Ytkcpecihgldflaa

