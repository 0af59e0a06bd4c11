/- The reference's ShardPrepare. -/
import Derived.Test.YtkcpecihgldflaaAdd
namespace Go.Proofs.Ytkcpecihgldflaa
open Go.RowKit
set_option linter.unusedVariables false

/-- What a vote makes of the records. -/
def prep (rs : List Rc) (t : Int) (us : List Upd) : List Rc × Bool :=
  if !(valid rs && inR t 0 11 && updsOk us) then ([], false)
  else if ask rs t != 0 then (rs, ask rs t == 1)
  else if valid (rs ++ [⟨1, t, us⟩]) then (rs ++ [⟨1, t, us⟩], true)
  else (if valid (rs ++ [⟨3, t, []⟩]) then rs ++ [⟨3, t, []⟩] else rs, false)

/-- A call that returns a shard and a bool. -/
def ShardBool (w : World) (x : List Rc × Bool) (e : Ending) (w' : World) : Prop :=
  ∃ v', e = .returned (.tuple #[.agg #[v'], .bool x.2]) ∧ RecsOwn w.heap.size w' v' x.1 ∧ Fr w.heap.size [] w w'

theorem valid_len {rs : List Rc} (h : valid rs = true) : rs.length ≤ 30 := by
  simp [valid] at h; exact h.2

theorem two_boxes (w : World) (a b : Obj) : ((w.alloc a).alloc b).heap[w.heap.size]? = some a ∧ ((w.alloc a).alloc b).heap[w.heap.size + 1]? = some b :=
  ⟨heap_up (heap_alloc_new w a) b, heap_alloc_eq _ _ (by simp)⟩

set_option maxRecDepth 20000 in
set_option maxHeartbeats 4000000 in
theorem specShardPrepare_any (K K3 : Nat → Bool → Prop) (v vu : Value) (rs : List Rc) (t : Int) (us : List Upd) (w : World) (hv : RecsR K w v rs) (hs : Small rs) (h3 : UpsR K3 w vu us) (hu : us.length ≤ 1000000000) :
    Calls Try.prog 10 #[.agg #[v], .int .i64 t, vu] w (ShardBool w (prep rs t us)) := by
  obtain ⟨a, cap, rfl, hcap, -⟩ := hv.shape
  obtain ⟨ua, ucap, rfl, hucap, -⟩ := h3.shape
  have HV := hid hv
  have HS := hid hs
  have H3 := hid h3
  have F0 : Fr w.heap.size [] w ((w.alloc (.cells #[.slice a rs.length cap] 25)).alloc (.cells #[.slice none 0 0] 25)) := ((Fr.refl w.heap.size [] w).alloc _).alloc _
  have hB := two_boxes w (.cells #[.slice a rs.length cap] 25) (.cells #[.slice none 0 0] 25)
  have B0 := hid hB.1
  have C0 := hid hB.2
  clear hv hs h3 hB
  cases g0 : valid rs && inR t 0 11 && updsOk us
  case false =>
    have hz := hid (show prep rs t us = ([], false) by unfold prep; rw [g0]; rfl)
    cases g1 : valid rs
    all_goals cases g2 : inR t 0 11
    all_goals cases g3 : updsOk us
    case true.true.true => rw [g1, g2, g3] at g0; cases g0
    all_goals
      go_enter Try.func10, Try.ntmps10
      go_wp2_with (first
        | (go_at_call 43; go_must (refine (specShardValid_any K _ rs _ (HV.out.grow F0) HS.out).mono ?_; rintro e w1 ⟨rfl, fr1⟩; have F1 := F0.trans fr1.nil; have C1 := hid (fr1.keep _ _ C0.out (.inr (by simp))); have c1 := cell_of (o := 0) C1.out rfl; have c2 := free_of (o := 0) C1.out))
        | (go_at_call 44; go_must (refine (l12Txn_any _ _).mono ?_; rintro e w' ⟨rfl, rfl⟩))
        | (go_at_call 16; go_must (refine (specUpdatesValid_any K3 _ _ _ (H3.out.grow F1) hu).mono ?_; rintro e w2 ⟨rfl, fr2⟩; have F2 := F1.trans fr2.nil; have C2 := hid (fr2.keep _ _ C1.out (.inr (by simp))); have c3 := cell_of (o := 0) C2.out rfl; have c4 := free_of (o := 0) C2.out)))
      first
        | exact bodyPost_ret (v := .tuple #[.agg #[.slice none 0 0], .bool false]) (by simp [results, Try.results10, go_sem, c3]) rfl ⟨_, by rw [hz.out], by rw [hz.out]; exact RecsOwn.nil _ _, F2.setNew (by dsimp only; omega) _⟩
        | exact bodyPost_ret (v := .tuple #[.agg #[.slice none 0 0], .bool false]) (by simp [results, Try.results10, go_sem, c1]) rfl ⟨_, by rw [hz.out], by rw [hz.out]; exact RecsOwn.nil _ _, F1.setNew (by dsimp only; omega) _⟩
  case true =>
    have hg : (valid rs = true ∧ inR t 0 11 = true) ∧ updsOk us = true := by simpa using g0
    obtain ⟨⟨g1, g2⟩, g3⟩ := hg
    have hl := valid_len g1
    cases g4 : ask rs t != 0
    case true =>
      have hz := hid (show prep rs t us = (rs, ask rs t == 1) by unfold prep; rw [g0, g4]; rfl)
      go_enter Try.func10, Try.ntmps10
      go_wp2_with (first
        | (go_at_call 43; go_must (refine (specShardValid_any K _ rs _ (HV.out.grow F0) HS.out).mono ?_; rintro e w1 ⟨rfl, fr1⟩; have F1 := F0.trans fr1.nil; have C1 := hid (fr1.keep _ _ C0.out (.inr (by simp))); have B1 := hid (fr1.keep _ _ B0.out (.inr (by simp))); have c1 := cell_of (o := 0) C1.out rfl; have c2 := free_of (o := 0) C1.out))
        | (go_at_call 44; go_must (refine (l12Txn_any _ _).mono ?_; rintro e w' ⟨rfl, rfl⟩))
        | (go_at_call 16; go_must (refine (specUpdatesValid_any K3 _ _ _ (H3.out.grow F1) hu).mono ?_; rintro e w2 ⟨rfl, fr2⟩; have F2 := F1.trans fr2.nil; have C2 := hid (fr2.keep _ _ C1.out (.inr (by simp))); have B2 := hid (fr2.keep _ _ B1.out (.inr (by simp))); have c3 := cell_of (o := 0) C2.out rfl; have c4 := free_of (o := 0) C2.out; have b3 := cell_of (o := 0) B2.out rfl))
        | (go_at_call 45; go_must (refine (l21Ask_any K _ rs _ _ (HV.out.grow F2) HS.out.1).mono ?_; rintro e w' ⟨rfl, rfl⟩)))
      have F2d := F2.drew
      go_region_held3 (fun x => x.cell? ⟨w.heap.size, 0, none⟩ = some (.slice a rs.length cap) ∧ Fr w.heap.size [] w x)
        (first
          | exact ⟨b3, F2d⟩
          | exact ⟨b4, F4⟩
          | exact ⟨cell_setne b4 (by dsimp only; omega), F4.setNew (by dsimp only; omega) _⟩)
        (first
          | (go_at_call 46; go_must (refine (l21Copy_any K _ rs _ (HV.out.grow (by assumption)) HS.out).mono ?_; rintro e w4 ⟨v4, rfl, own4, fr4⟩; obtain ⟨a4, cap4, rfl, _, _⟩ := own4.reads.shape; have OWN4 := hid own4; have F4 := F2d.trans fr4.nil; have b4 := cell_of (o := 0) (fr4.keep _ _ (show w2.drew.heap[_]? = _ from B2.out) (.inr (by simp))) rfl; have C4 := hid (fr4.keep _ _ (show w2.drew.heap[_]? = _ from C2.out) (.inr (by simp))); have d1 := cell_of (o := 0) C4.out rfl; have d2 := free_of (o := 0) C4.out; clear own4))
          | (go_at_call 45; go_must (refine (l21Ask_any K _ rs _ _ (HV.out.grow (by assumption)) HS.out.1).mono ?_; rintro e w' ⟨rfl, rfl⟩)))
      go_wp2
      have FT := hid ((Fr.refl 0 [25] w4).setOld (p := ⟨w.heap.size + 1, 0, none⟩) C4.out (Nat.zero_le _) (by simp [otag]) (.slice a4 rs.length cap4))
      exact bodyPost_ret (v := .tuple #[.agg #[.slice a4 rs.length cap4], .bool (ask rs t == 1)]) (by simp [results, Try.results10, go_sem, d1]) rfl
        ⟨_, by rw [hz.out], by rw [hz.out]; exact (OWN4.out.lower F2d.size).keep FT.out (by simp) (by simp), F4.setNew (by dsimp only; omega) _⟩
    case false =>
    cases g5 : valid (rs ++ [⟨1, t, us⟩])
    all_goals
      have hz := hid (show prep rs t us = if valid (rs ++ [⟨1, t, us⟩]) then (rs ++ [⟨1, t, us⟩], true) else (if valid (rs ++ [⟨3, t, []⟩]) then rs ++ [⟨3, t, []⟩] else rs, false) by unfold prep; rw [g0, g4]; rfl)
      have G5 := hid g5
      go_enter Try.func10, Try.ntmps10
      go_wp2_with (first
        | (go_at_call 43; go_must (refine (specShardValid_any K _ rs _ (HV.out.grow F0) HS.out).mono ?_; rintro e w1 ⟨rfl, fr1⟩; have F1 := F0.trans fr1.nil; have C1 := hid (fr1.keep _ _ C0.out (.inr (by simp))); have B1 := hid (fr1.keep _ _ B0.out (.inr (by simp))); have c1 := cell_of (o := 0) C1.out rfl; have c2 := free_of (o := 0) C1.out))
        | (go_at_call 44; go_must (refine (l12Txn_any _ _).mono ?_; rintro e w' ⟨rfl, rfl⟩))
        | (go_at_call 16; go_must (refine (specUpdatesValid_any K3 _ _ _ (H3.out.grow F1) hu).mono ?_; rintro e w2 ⟨rfl, fr2⟩; have F2 := F1.trans fr2.nil; have C2 := hid (fr2.keep _ _ C1.out (.inr (by simp))); have B2 := hid (fr2.keep _ _ B1.out (.inr (by simp))); have c3 := cell_of (o := 0) C2.out rfl; have c4 := free_of (o := 0) C2.out; have b3 := cell_of (o := 0) B2.out rfl))
        | (go_at_call 45; go_must (refine (l21Ask_any K _ rs _ _ (HV.out.grow F2) HS.out.1).mono ?_; rintro e w' ⟨rfl, rfl⟩))
        | (go_at_call 47; (with_reducible refine (l21Add_any K K3 _ _ rs ⟨1, t, us⟩ _ (HV.out.grow F2) HS.out (by omega) (H3.out.grow F2) hu).mono ?_); go_must (rintro e w4 ⟨v4, rfl, own4, fr4⟩; obtain ⟨a4, cap4, rfl, _, _⟩ := own4.reads.shape; have OWN4 := hid own4; have F4 := F2.trans fr4.nil; have B4 := hid (fr4.keep _ _ B2.out (.inr (by simp))); have C4 := hid (fr4.keep _ _ C2.out (.inr (by simp))); have d0 := cell_of (o := 0) B4.out rfl; have d1 := cell_of (o := 0) C4.out rfl; have d2 := free_of (o := 0) C4.out; have hc4 := lt_of_get C4.out; have hb4 := lt_of_get B4.out; rw [G5.out]; clear own4))
        | (go_at_call 47; go_must (refine (l21Add_any K (new 0) _ _ rs ⟨3, t, []⟩ _ (HV.out.grow (F4.alloc _)) HS.out (by omega) (SlR.nil _ _ _ _) (by simp)).mono ?_); go_must (rintro e w6 ⟨v6, rfl, own6, fr6⟩; generalize hrs6 : (if valid (rs ++ [⟨3, t, []⟩]) then rs ++ [⟨3, t, []⟩] else rs) = rs6 at own6; have HR6 := hid hrs6; clear hrs6; obtain ⟨a6, cap6, rfl, _, _⟩ := own6.reads.shape; have OWN6 := hid own6; have F6 := (F4.alloc (.cells #[.slice a4 rs.length cap4] 25)).trans fr6.nil; have C6 := hid (fr6.keep _ _ (heap_up C4.out _) (.inr (by simp))); have X6 := hid (fr6.keep _ _ (heap_alloc_new w4 (.cells #[.slice a4 rs.length cap4] 25)) (.inr (by simp))); have q1 := cell_of (o := 0) C6.out rfl; have q2 := free_of (o := 0) C6.out; have q3 := cell_of (o := 0) X6.out rfl; have q4 := free_of (o := 0) X6.out; clear own6)))
    · have FT := hid (((Fr.refl 0 [25] w6).setOld (p := ⟨w4.heap.size, 0, none⟩) X6.out (Nat.zero_le _) (by simp [otag]) (.slice a6 rs6.length cap6)).setOld (p := ⟨w.heap.size + 1, 0, none⟩) (block_setne C6.out (by dsimp only; omega)) (Nat.zero_le _) (by simp [otag]) (.slice a6 rs6.length cap6))
      exact bodyPost_ret (v := .tuple #[.agg #[.slice a6 rs6.length cap6], .bool false]) (by simp [results, Try.results10, go_sem, q1]) rfl
        ⟨_, by rw [hz.out, G5.out]; rfl, by rw [hz.out, G5.out, if_neg (by decide), HR6.out]; exact (OWN6.out.lower (by simp; omega)).keep FT.out (by simp) (by simp), (F6.setNew (by dsimp only; omega) _).setNew (by dsimp only; omega) _⟩
    · have FT := hid (((Fr.refl 0 [25] w4).setOld (p := ⟨w.heap.size + 1, 0, none⟩) C4.out (Nat.zero_le _) (by simp [otag]) (.slice a4 (rs.length + 1) cap4)).alloc (.cells #[.slice a4 (rs.length + 1) cap4] 25))
      exact bodyPost_ret (v := .tuple #[.agg #[.slice a4 (rs.length + 1) cap4], .bool true]) (by simp [results, Try.results10, go_sem, d1, hc4]) rfl
        ⟨_, by rw [hz.out, G5.out]; rfl, by rw [hz.out, G5.out]; have := OWN4.out; rw [G5.out] at this; simp only [if_true, List.length_append, List.length_singleton] at this ⊢; exact (this.lower F2.size).keep FT.out (by simp) (by simp), (F4.setNew (by dsimp only; omega) _).alloc _⟩

end Go.Proofs.Ytkcpecihgldflaa
