/- The reference's ShardDecide. -/
import Derived.Test.YtkcpecihgldflaaPrep
namespace Go.Proofs.Ytkcpecihgldflaa
open Go.RowKit
set_option linter.unusedVariables false

/-- What a decision makes of the records. -/
def dec (rs : List Rc) (t : Int) (c : Bool) : List Rc × Bool :=
  if !(valid rs && inR t 0 11) then ([], false)
  else if ask rs t == (if c then 2 else 3) then (rs, true)
  else if valid (rs ++ [⟨if c then 2 else 3, t, []⟩]) then (rs ++ [⟨if c then 2 else 3, t, []⟩], true) else (rs, false)

set_option maxRecDepth 20000 in
set_option maxHeartbeats 4000000 in
theorem specShardDecide_any (K : Nat → Bool → Prop) (v : Value) (rs : List Rc) (t : Int) (c : Bool) (w : World) (hv : RecsR K w v rs) (hs : Small rs) :
    Calls Try.prog 19 #[.agg #[v], .int .i64 t, .bool c] w (ShardBool w (dec rs t c)) := by
  obtain ⟨a, cap, rfl, hcap, -⟩ := hv.shape
  have HV := hid hv
  have HS := hid hs
  have F0 : Fr w.heap.size [] w ((w.alloc (.cells #[.slice a rs.length cap] 25)).alloc (.cells #[.slice none 0 0] 25)) := ((Fr.refl w.heap.size [] w).alloc _).alloc _
  have hB := two_boxes w (.cells #[.slice a rs.length cap] 25) (.cells #[.slice none 0 0] 25)
  have B0 := hid hB.1
  have C0 := hid hB.2
  clear hv hs hB
  cases g0 : valid rs && inR t 0 11
  case false =>
    have hz := hid (show dec rs t c = ([], false) by unfold dec; rw [g0]; rfl)
    cases g1 : valid rs
    all_goals cases g2 : inR t 0 11
    case true.true => rw [g1, g2] at g0; cases g0
    all_goals
      go_enter Try.func19, Try.ntmps19
      go_wp2_with (first
        | (go_at_call 43; go_must (refine (specShardValid_any K _ rs _ (HV.out.grow F0) HS.out).mono ?_; rintro e w1 ⟨rfl, fr1⟩; have F1 := F0.trans fr1.nil; have C1 := hid (fr1.keep _ _ C0.out (.inr (by simp))); have B1 := hid (fr1.keep _ _ B0.out (.inr (by simp))); have c1 := cell_of (o := 0) C1.out rfl; have c2 := free_of (o := 0) C1.out; have b1 := cell_of (o := 0) B1.out rfl; have hlb := lt_of_get C1.out))
        | (go_at_call 44; go_must (refine (l12Txn_any _ _).mono ?_; rintro e w' ⟨rfl, rfl⟩)))
      exact bodyPost_ret (v := .tuple #[.agg #[.slice none 0 0], .bool false]) (by simp [results, Try.results19, go_sem, c1]) rfl ⟨_, by rw [hz.out], by rw [hz.out]; exact RecsOwn.nil _ _, F1.setNew (by dsimp only; omega) _⟩
  case true =>
    have hg : valid rs = true ∧ inR t 0 11 = true := by simpa using g0
    obtain ⟨g1, g2⟩ := hg
    have hl := valid_len g1
    cases c
    case false =>
      cases g4 : ask rs t == 3
      case true =>
        have hz := hid (show dec rs t false = (rs, true) by unfold dec; rw [g0]; simp only [Bool.not_true, Bool.false_eq_true, if_false, if_true]; rw [g4]; rfl)
        go_enter Try.func19, Try.ntmps19
        go_wp2_with (first
          | (go_at_call 43; go_must (refine (specShardValid_any K _ rs _ (HV.out.grow F0) HS.out).mono ?_; rintro e w1 ⟨rfl, fr1⟩; have F1 := F0.trans fr1.nil; have C1 := hid (fr1.keep _ _ C0.out (.inr (by simp))); have B1 := hid (fr1.keep _ _ B0.out (.inr (by simp))); have c1 := cell_of (o := 0) C1.out rfl; have c2 := free_of (o := 0) C1.out; have b1 := cell_of (o := 0) B1.out rfl; have hlb := lt_of_get C1.out))
          | (go_at_call 44; go_must (refine (l12Txn_any _ _).mono ?_; rintro e w' ⟨rfl, rfl⟩))
          | (go_at_call 45; go_must (refine (l21Ask_any K _ rs _ _ (HV.out.grow F1) HS.out.1).mono ?_; rintro e w' ⟨rfl, rfl⟩))
          | (go_at_call 46; go_must (refine (l21Copy_any K _ rs _ (HV.out.grow F1) HS.out).mono ?_; rintro e w4 ⟨v4, rfl, own4, fr4⟩; obtain ⟨a4, cap4, rfl, _, _⟩ := own4.reads.shape; have OWN4 := hid own4; have F4 := F1.trans fr4.nil; have C4 := hid (fr4.keep _ _ C1.out (.inr (by simp))); have d1 := cell_of (o := 0) C4.out rfl; have d2 := free_of (o := 0) C4.out; clear own4)))
        have FT := hid ((Fr.refl 0 [25] w4).setOld (p := ⟨w.heap.size + 1, 0, none⟩) C4.out (Nat.zero_le _) (by simp [otag]) (.slice a4 rs.length cap4))
        exact bodyPost_ret (v := .tuple #[.agg #[.slice a4 rs.length cap4], .bool true]) (by simp [results, Try.results19, go_sem, d1]) rfl
          ⟨_, by rw [hz.out], by rw [hz.out]; exact (OWN4.out.lower F1.size).keep FT.out (by simp) (by simp), F4.setNew (by dsimp only; omega) _⟩
      case false =>
        have hz := hid (show dec rs t false = if valid (rs ++ [⟨3, t, []⟩]) then (rs ++ [⟨3, t, []⟩], true) else (rs, false) by unfold dec; rw [g0]; simp only [Bool.not_true, Bool.false_eq_true, if_false, if_true]; rw [g4]; rfl)
        go_enter Try.func19, Try.ntmps19
        go_wp2_with (first
          | (go_at_call 43; go_must (refine (specShardValid_any K _ rs _ (HV.out.grow F0) HS.out).mono ?_; rintro e w1 ⟨rfl, fr1⟩; have F1 := F0.trans fr1.nil; have C1 := hid (fr1.keep _ _ C0.out (.inr (by simp))); have B1 := hid (fr1.keep _ _ B0.out (.inr (by simp))); have c1 := cell_of (o := 0) C1.out rfl; have c2 := free_of (o := 0) C1.out; have b1 := cell_of (o := 0) B1.out rfl; have hlb := lt_of_get C1.out))
          | (go_at_call 44; go_must (refine (l12Txn_any _ _).mono ?_; rintro e w' ⟨rfl, rfl⟩))
          | (go_at_call 45; go_must (refine (l21Ask_any K _ rs _ _ (HV.out.grow F1) HS.out.1).mono ?_; rintro e w' ⟨rfl, rfl⟩))
          | (go_at_call 47; go_must (refine (l21Add_any K (new 0) _ _ rs ⟨3, t, []⟩ _ (HV.out.grow F1) HS.out (by omega) (SlR.nil _ _ _ _) (by simp)).mono ?_; rintro e w6 ⟨v6, rfl, own6, fr6⟩; generalize hrs6 : (if valid (rs ++ [⟨3, t, []⟩]) then rs ++ [⟨3, t, []⟩] else rs) = rs6 at own6; have HR6 := hid hrs6; clear hrs6; generalize hok : valid (rs ++ [⟨3, t, []⟩]) = ok; have HOK := hid hok; clear hok; obtain ⟨a6, cap6, rfl, _, _⟩ := own6.reads.shape; have OWN6 := hid own6; have F6 := F1.trans fr6.nil; have C6 := hid (fr6.keep _ _ C1.out (.inr (by simp))); have q1 := cell_of (o := 0) C6.out rfl; have q2 := free_of (o := 0) C6.out; clear own6)))
        have FT := hid ((Fr.refl 0 [25] w6).setOld (p := ⟨w.heap.size + 1, 0, none⟩) C6.out (Nat.zero_le _) (by simp [otag]) (.slice a6 rs6.length cap6))
        exact bodyPost_ret (v := .tuple #[.agg #[.slice a6 rs6.length cap6], .bool ok]) (by simp [results, Try.results19, go_sem, q1]) rfl
          ⟨_, by rw [hz.out, HOK.out]; cases ok <;> rfl, by
            have e6 : (dec rs t false).1 = rs6 := by rw [hz.out, ← HR6.out]; split <;> rfl
            rw [e6]; exact (OWN6.out.lower F1.size).keep FT.out (by simp) (by simp), F6.setNew (by dsimp only; omega) _⟩
    case true =>
      cases g4 : ask rs t == 2
      case true =>
        have hz := hid (show dec rs t true = (rs, true) by unfold dec; rw [g0]; simp only [Bool.not_true, Bool.false_eq_true, if_false, if_true]; rw [g4]; rfl)
        go_enter Try.func19, Try.ntmps19
        go_wp2_with (first
          | (go_at_call 43; go_must (refine (specShardValid_any K _ rs _ (HV.out.grow F0) HS.out).mono ?_; rintro e w1 ⟨rfl, fr1⟩; have F1 := F0.trans fr1.nil; have C1 := hid (fr1.keep _ _ C0.out (.inr (by simp))); have B1 := hid (fr1.keep _ _ B0.out (.inr (by simp))); have c1 := cell_of (o := 0) C1.out rfl; have c2 := free_of (o := 0) C1.out; have b1 := cell_of (o := 0) B1.out rfl; have hlb := lt_of_get C1.out))
          | (go_at_call 44; go_must (refine (l12Txn_any _ _).mono ?_; rintro e w' ⟨rfl, rfl⟩))
          | (go_at_call 45; go_must (refine (l21Ask_any K _ rs _ _ (HV.out.grow F1) HS.out.1).mono ?_; rintro e w' ⟨rfl, rfl⟩))
          | (go_at_call 46; go_must (refine (l21Copy_any K _ rs _ (HV.out.grow F1) HS.out).mono ?_; rintro e w4 ⟨v4, rfl, own4, fr4⟩; obtain ⟨a4, cap4, rfl, _, _⟩ := own4.reads.shape; have OWN4 := hid own4; have F4 := F1.trans fr4.nil; have C4 := hid (fr4.keep _ _ C1.out (.inr (by simp))); have d1 := cell_of (o := 0) C4.out rfl; have d2 := free_of (o := 0) C4.out; clear own4)))
        have FT := hid ((Fr.refl 0 [25] w4).setOld (p := ⟨w.heap.size + 1, 0, none⟩) C4.out (Nat.zero_le _) (by simp [otag]) (.slice a4 rs.length cap4))
        exact bodyPost_ret (v := .tuple #[.agg #[.slice a4 rs.length cap4], .bool true]) (by simp [results, Try.results19, go_sem, d1]) rfl
          ⟨_, by rw [hz.out], by rw [hz.out]; exact (OWN4.out.lower F1.size).keep FT.out (by simp) (by simp), F4.setNew (by dsimp only; omega) _⟩
      case false =>
        have hz := hid (show dec rs t true = if valid (rs ++ [⟨2, t, []⟩]) then (rs ++ [⟨2, t, []⟩], true) else (rs, false) by unfold dec; rw [g0]; simp only [Bool.not_true, Bool.false_eq_true, if_false, if_true]; rw [g4]; rfl)
        go_enter Try.func19, Try.ntmps19
        go_wp2_with (first
          | (go_at_call 43; go_must (refine (specShardValid_any K _ rs _ (HV.out.grow F0) HS.out).mono ?_; rintro e w1 ⟨rfl, fr1⟩; have F1 := F0.trans fr1.nil; have C1 := hid (fr1.keep _ _ C0.out (.inr (by simp))); have B1 := hid (fr1.keep _ _ B0.out (.inr (by simp))); have c1 := cell_of (o := 0) C1.out rfl; have c2 := free_of (o := 0) C1.out; have b1 := cell_of (o := 0) B1.out rfl; have hlb := lt_of_get C1.out))
          | (go_at_call 44; go_must (refine (l12Txn_any _ _).mono ?_; rintro e w' ⟨rfl, rfl⟩))
          | (go_at_call 45; go_must (refine (l21Ask_any K _ rs _ _ (HV.out.grow F1) HS.out.1).mono ?_; rintro e w' ⟨rfl, rfl⟩))
          | (go_at_call 47; go_must (refine (l21Add_any K (new 0) _ _ rs ⟨2, t, []⟩ _ (HV.out.grow F1) HS.out (by omega) (SlR.nil _ _ _ _) (by simp)).mono ?_; rintro e w6 ⟨v6, rfl, own6, fr6⟩; generalize hrs6 : (if valid (rs ++ [⟨2, t, []⟩]) then rs ++ [⟨2, t, []⟩] else rs) = rs6 at own6; have HR6 := hid hrs6; clear hrs6; generalize hok : valid (rs ++ [⟨2, t, []⟩]) = ok; have HOK := hid hok; clear hok; obtain ⟨a6, cap6, rfl, _, _⟩ := own6.reads.shape; have OWN6 := hid own6; have F6 := F1.trans fr6.nil; have C6 := hid (fr6.keep _ _ C1.out (.inr (by simp))); have q1 := cell_of (o := 0) C6.out rfl; have q2 := free_of (o := 0) C6.out; clear own6)))
        have FT := hid ((Fr.refl 0 [25] w6).setOld (p := ⟨w.heap.size + 1, 0, none⟩) C6.out (Nat.zero_le _) (by simp [otag]) (.slice a6 rs6.length cap6))
        exact bodyPost_ret (v := .tuple #[.agg #[.slice a6 rs6.length cap6], .bool ok]) (by simp [results, Try.results19, go_sem, q1]) rfl
          ⟨_, by rw [hz.out, HOK.out]; cases ok <;> rfl, by
            have e6 : (dec rs t true).1 = rs6 := by rw [hz.out, ← HR6.out]; split <;> rfl
            rw [e6]; exact (OWN6.out.lower F1.size).keep FT.out (by simp) (by simp), F6.setNew (by dsimp only; omega) _⟩

end Go.Proofs.Ytkcpecihgldflaa
