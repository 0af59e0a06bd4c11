/- The program's ShardDecide, at a decision that is not known. -/
import Derived.Test.YtkcpecihgldflaaIDec
namespace Go.Proofs.Ytkcpecihgldflaa
open Go.RowKit
set_option linter.unusedVariables false

set_option maxRecDepth 20000 in
set_option maxHeartbeats 2000000 in
theorem implShardDecide_newA (K : Nat → Bool → Prop) (v : Value) (rs : List Rc) (t : Int) (w : World) (hv : RecsR K w v rs) (hs : Small rs) (g1 : valid rs = true) (g2 : inR t 0 11 = true) (hk : (ask rs t == 3) = false) :
    Calls Try.prog 21 #[.agg #[v], .int .i64 t, .bool false] w (ShardBool w (dec rs t false)) := by
  obtain ⟨a, cap, rfl, hcap, -⟩ := hv.shape
  have HV := hid (hv.weak (K' := old w.heap.size) (fun b t hb _ => hb))
  have HS := hid hs
  have HNC := hid (NC_of_valid g1)
  have hl30 := valid_len g1
  obtain ⟨s, hrec⟩ := valid_rec g1
  have HREC := hid hrec
  have HVS := hid (valid_snoc (r := decRc t false) hrec g2)
  have HD0 := hid (show dec rs t false = if valid (rs ++ [decRc t false]) then (rs ++ [decRc t false], true) else (rs, false) by rw [dec_eq, g1, g2]; show (if (ask rs t == 3) = true then _ else _) = _; rw [hk]; rfl)
  have F0 := hid (((Fr.refl w.heap.size [] w).alloc (.cells #[.slice a rs.length cap] 25)).alloc (.cells #[.slice none 0 0] 25))
  have B0 := hid (two_boxes w (.cells #[.slice a rs.length cap] 25) (.cells #[.slice none 0 0] 25))
  have G1 := hid g1
  have G2 := hid g2
  have hfl := fieldKind
  clear hv hs hrec
  cases h30 : ((rs.length : Int) == 30)
  · have hlt : rs.length < 30 := by
      have : ¬ (rs.length : Int) = 30 := by simpa using h30
      omega
    have hdl : decide (rs.length < 30) = true := decide_eq_true hlt
    rcases hi : istepO (lastTo rs (decRc t false).txn rs.length) s (decRc t false) with _ | s'
    · have HD := hid (show dec rs t false = (rs, false) by rw [HD0.out, HVS.out, hi]; rfl)
      have HII := hid hi
      clear hi hdl
      go_enter Try.func21, Try.ntmps21
      go_wp2_with (first | (go_at_call 37; go_must (refine (read_any (old w.heap.size) _ rs _ (HV.out.grow F0.out) HS.out HNC.out).mono ?_; rintro e w1 ⟨h, he, hh, fr1⟩; rw [G1.out] at he; subst he; have F1 := hid (F0.out.trans fr1.nil); have BA := hid (fr1.keep _ _ B0.out.1 (.inr (by simp))); have BB := hid (fr1.keep _ _ B0.out.2 (.inr (by simp))); have a0 := cell_of (o := 0) BA.out rfl; have b0 := cell_of (o := 0) BB.out rfl; have b1 := free_of (o := 0) BB.out; have hbb := lt_of_get BB.out; obtain ⟨l, m, hist⟩ := hh s HREC.out; have HI := hid hist; obtain ⟨d4, d5⟩ := hist_more HI.out.refsAt.1 HI.out.refsAt.2.1; have hlh := lt_of_get HI.out.refsAt.1; clear hist; clear hh fr1)) | (go_at_call 38; go_must (refine (isTxn_any _ _).mono ?_; rintro e w' ⟨rfl, rfl⟩)))
      obtain ⟨x, u, hlk⟩ := (HI.out.grow (((Fr.refl 0 [] w1).alloc (.cells #[.int .i64 3, .int .i64 t, .slice none 0 0] 72)).drew)).kind HREC.out G2.out
      have a1 := cell_alloc (o := .cells #[.int .i64 3, .int .i64 t, .slice none 0 0] 72) a0
      have FA := hid (F1.out.alloc (.cells #[.int .i64 3, .int .i64 t, .slice none 0 0] 72)).drew
      have BB2 := hid (heap_up BB.out (.cells #[.int .i64 3, .int .i64 t, .slice none 0 0] 72))
      have BA2 := hid (heap_up BA.out (.cells #[.int .i64 3, .int .i64 t, .slice none 0 0] 72))
      have BR := hid (heap_alloc_new w1 (.cells #[.int .i64 3, .int .i64 t, .slice none 0 0] 72))
      have HA := hid (HI.out.grow (((Fr.refl 0 [] w1).alloc (.cells #[.int .i64 3, .int .i64 t, .slice none 0 0] 72)).drew))
      go_region
      go_wp2_with (first | (go_at_call 41; go_must (refine (add_any _ h l m rs.length s (fun t => lastTo rs t rs.length) (.slice none 0 0) (decRc t false) _ HA.out (by omega) (by simp [decRc]) (SlR.nilOld _ _) (NoLock.of_nil rfl)).mono ?_; rintro e w3 ⟨x3, rfl, hx3, -, fr3⟩; rw [HII.out] at hx3; subst hx3; have F3 := hid (FA.out.after (fr3.mono (by simp; omega) (fun _ h => h))); have BB3 := hid (fr3.keep _ _ (blk_drew BB2.out) (.inl (by simp))); have BA3 := hid (fr3.keep _ _ (blk_drew BA2.out) (.inl (by simp; omega))); have BR3 := hid (fr3.keep _ _ (blk_drew BR.out) (.inr (by simp [otag]))); have p0 := cell_of (o := 0) BA3.out rfl; have p1 := cell_of (o := 0) BR3.out rfl; have p2 := cell_of (o := 1) BR3.out rfl; have p3 := cell_of (o := 2) BR3.out rfl; clear fr3)) | (go_at_call 40; go_must (refine (copyShard_any (old w.heap.size) _ rs _ (HV.out.keep F3.out (Safe.old (Nat.le_refl _)) (Safe.old (Nat.le_refl _))) HS.out).mono ?_; rintro e w4 ⟨v4, rfl, own4, fr4⟩; obtain ⟨a4, cap4, rfl, _, _⟩ := own4.reads.shape; have OWN4 := hid (own4.lower (F3.out.size)); have F4 := hid (F3.out.trans fr4.nil); have B4 := hid (fr4.keep _ _ BB3.out (.inr (by simp))); have q0 := cell_of (o := 0) B4.out rfl; have q1 := free_of (o := 0) B4.out; clear own4 fr4)))
      have FT := ((Fr.refl 0 [25] w4).setOld (p := ⟨w.heap.size + 1, 0, none⟩) B4.out (Nat.zero_le _) (by simp [otag]) (.slice a4 rs.length cap4)); exact bodyPost_ret (v := .tuple #[.agg #[(.slice a4 rs.length cap4)], .bool false]) (by simp [results, Try.results21, go_sem, q0]) rfl ⟨_, by rw [HD.out], by rw [HD.out]; exact (OWN4.out).keep FT (by simp) (by simp), (F4.out).setNew (by dsimp only; omega) _⟩
    · have HD := hid (show dec rs t false = (rs ++ [decRc t false], true) by rw [HD0.out, HVS.out, hi, hdl]; rfl)
      have HII := hid hi
      clear hi hdl
      go_enter Try.func21, Try.ntmps21
      go_wp2_with (first | (go_at_call 37; go_must (refine (read_any (old w.heap.size) _ rs _ (HV.out.grow F0.out) HS.out HNC.out).mono ?_; rintro e w1 ⟨h, he, hh, fr1⟩; rw [G1.out] at he; subst he; have F1 := hid (F0.out.trans fr1.nil); have BA := hid (fr1.keep _ _ B0.out.1 (.inr (by simp))); have BB := hid (fr1.keep _ _ B0.out.2 (.inr (by simp))); have a0 := cell_of (o := 0) BA.out rfl; have b0 := cell_of (o := 0) BB.out rfl; have b1 := free_of (o := 0) BB.out; have hbb := lt_of_get BB.out; obtain ⟨l, m, hist⟩ := hh s HREC.out; have HI := hid hist; obtain ⟨d4, d5⟩ := hist_more HI.out.refsAt.1 HI.out.refsAt.2.1; have hlh := lt_of_get HI.out.refsAt.1; clear hist; clear hh fr1)) | (go_at_call 38; go_must (refine (isTxn_any _ _).mono ?_; rintro e w' ⟨rfl, rfl⟩)))
      obtain ⟨x, u, hlk⟩ := (HI.out.grow (((Fr.refl 0 [] w1).alloc (.cells #[.int .i64 3, .int .i64 t, .slice none 0 0] 72)).drew)).kind HREC.out G2.out
      have a1 := cell_alloc (o := .cells #[.int .i64 3, .int .i64 t, .slice none 0 0] 72) a0
      have FA := hid (F1.out.alloc (.cells #[.int .i64 3, .int .i64 t, .slice none 0 0] 72)).drew
      have BB2 := hid (heap_up BB.out (.cells #[.int .i64 3, .int .i64 t, .slice none 0 0] 72))
      have BA2 := hid (heap_up BA.out (.cells #[.int .i64 3, .int .i64 t, .slice none 0 0] 72))
      have BR := hid (heap_alloc_new w1 (.cells #[.int .i64 3, .int .i64 t, .slice none 0 0] 72))
      have HA := hid (HI.out.grow (((Fr.refl 0 [] w1).alloc (.cells #[.int .i64 3, .int .i64 t, .slice none 0 0] 72)).drew))
      go_region
      go_wp2_with (first | (go_at_call 41; go_must (refine (add_any _ h l m rs.length s (fun t => lastTo rs t rs.length) (.slice none 0 0) (decRc t false) _ HA.out (by omega) (by simp [decRc]) (SlR.nilOld _ _) (NoLock.of_nil rfl)).mono ?_; rintro e w3 ⟨x3, rfl, hx3, -, fr3⟩; rw [HII.out] at hx3; subst hx3; have F3 := hid (FA.out.after (fr3.mono (by simp; omega) (fun _ h => h))); have BB3 := hid (fr3.keep _ _ (blk_drew BB2.out) (.inl (by simp))); have BA3 := hid (fr3.keep _ _ (blk_drew BA2.out) (.inl (by simp; omega))); have BR3 := hid (fr3.keep _ _ (blk_drew BR.out) (.inr (by simp [otag]))); have p0 := cell_of (o := 0) BA3.out rfl; have p1 := cell_of (o := 0) BR3.out rfl; have p2 := cell_of (o := 1) BR3.out rfl; have p3 := cell_of (o := 2) BR3.out rfl; clear fr3)) | (go_at_call 42; go_must (refine (with_any (old w.heap.size) (new 0) _ (.slice none 0 0) rs (decRc t false) _ (HV.out.keep F3.out (Safe.old (Nat.le_refl _)) (Safe.old (Nat.le_refl _))) HS.out (by omega) (SlR.nil _ _ _ _) (by simp [decRc])).mono ?_; rintro e w4 ⟨v4, rfl, own4, fr4⟩; obtain ⟨a4, cap4, rfl, _, _⟩ := own4.reads.shape; rw [List.length_append, List.length_singleton] at own4; have OWN4 := hid (own4.lower (F3.out.size)); have F4 := hid (F3.out.trans fr4.nil); have B4 := hid (fr4.keep _ _ BB3.out (.inr (by simp))); have q0 := cell_of (o := 0) B4.out rfl; have q1 := free_of (o := 0) B4.out; clear own4 fr4)))
      have FT := ((Fr.refl 0 [25] w4).setOld (p := ⟨w.heap.size + 1, 0, none⟩) B4.out (Nat.zero_le _) (by simp [otag]) (.slice a4 (rs.length + 1) cap4)); exact bodyPost_ret (v := .tuple #[.agg #[(.slice a4 (rs.length + 1) cap4)], .bool true]) (by simp [results, Try.results21, go_sem, q0]) rfl ⟨_, by rw [HD.out], by rw [HD.out]; exact (OWN4.out).keep FT (by simp) (by simp), (F4.out).setNew (by dsimp only; omega) _⟩
  · have hdl : decide (rs.length < 30) = false := by
      have : (rs.length : Int) = 30 := by simpa using h30
      exact decide_eq_false (by omega)
    have HD := hid (show dec rs t false = (rs, false) by rw [HD0.out, HVS.out, hdl, Bool.and_false]; rfl)
    clear hdl
    go_enter Try.func21, Try.ntmps21
    go_wp2_with (first | (go_at_call 37; go_must (refine (read_any (old w.heap.size) _ rs _ (HV.out.grow F0.out) HS.out HNC.out).mono ?_; rintro e w1 ⟨h, he, hh, fr1⟩; rw [G1.out] at he; subst he; have F1 := hid (F0.out.trans fr1.nil); have BA := hid (fr1.keep _ _ B0.out.1 (.inr (by simp))); have BB := hid (fr1.keep _ _ B0.out.2 (.inr (by simp))); have a0 := cell_of (o := 0) BA.out rfl; have b0 := cell_of (o := 0) BB.out rfl; have b1 := free_of (o := 0) BB.out; have hbb := lt_of_get BB.out; obtain ⟨l, m, hist⟩ := hh s HREC.out; have HI := hid hist; obtain ⟨d4, d5⟩ := hist_more HI.out.refsAt.1 HI.out.refsAt.2.1; have hlh := lt_of_get HI.out.refsAt.1; clear hist; clear hh fr1)) | (go_at_call 38; go_must (refine (isTxn_any _ _).mono ?_; rintro e w' ⟨rfl, rfl⟩)))
    obtain ⟨x, u, hlk⟩ := (HI.out.grow (((Fr.refl 0 [] w1).alloc (.cells #[.int .i64 3, .int .i64 t, .slice none 0 0] 72)).drew)).kind HREC.out G2.out
    have a1 := cell_alloc (o := .cells #[.int .i64 3, .int .i64 t, .slice none 0 0] 72) a0
    have FA := hid (F1.out.alloc (.cells #[.int .i64 3, .int .i64 t, .slice none 0 0] 72)).drew
    have BB2 := hid (heap_up BB.out (.cells #[.int .i64 3, .int .i64 t, .slice none 0 0] 72))
    have BA2 := hid (heap_up BA.out (.cells #[.int .i64 3, .int .i64 t, .slice none 0 0] 72))
    have BR := hid (heap_alloc_new w1 (.cells #[.int .i64 3, .int .i64 t, .slice none 0 0] 72))
    have HA := hid (HI.out.grow (((Fr.refl 0 [] w1).alloc (.cells #[.int .i64 3, .int .i64 t, .slice none 0 0] 72)).drew))
    go_region
    go_wp2_with (go_at_call 40; go_must (refine (copyShard_any (old w.heap.size) _ rs _ (HV.out.grow FA.out) HS.out).mono ?_; rintro e w4 ⟨v4, rfl, own4, fr4⟩; obtain ⟨a4, cap4, rfl, _, _⟩ := own4.reads.shape; have OWN4 := hid (own4.lower (FA.out.size)); have F4 := hid (FA.out.trans fr4.nil); have B4 := hid (fr4.keep _ _ (blk_drew BB2.out) (.inr (by simp))); have q0 := cell_of (o := 0) B4.out rfl; have q1 := free_of (o := 0) B4.out; clear own4 fr4))
    have FT := ((Fr.refl 0 [25] w4).setOld (p := ⟨w.heap.size + 1, 0, none⟩) B4.out (Nat.zero_le _) (by simp [otag]) (.slice a4 rs.length cap4)); exact bodyPost_ret (v := .tuple #[.agg #[(.slice a4 rs.length cap4)], .bool false]) (by simp [results, Try.results21, go_sem, q0]) rfl ⟨_, by rw [HD.out], by rw [HD.out]; exact (OWN4.out).keep FT (by simp) (by simp), (F4.out).setNew (by dsimp only; omega) _⟩

set_option maxRecDepth 20000 in
set_option maxHeartbeats 2000000 in
theorem implShardDecide_newC (K : Nat → Bool → Prop) (v : Value) (rs : List Rc) (t : Int) (w : World) (hv : RecsR K w v rs) (hs : Small rs) (g1 : valid rs = true) (g2 : inR t 0 11 = true) (hk : (ask rs t == 2) = false) :
    Calls Try.prog 21 #[.agg #[v], .int .i64 t, .bool true] w (ShardBool w (dec rs t true)) := by
  obtain ⟨a, cap, rfl, hcap, -⟩ := hv.shape
  have HV := hid (hv.weak (K' := old w.heap.size) (fun b t hb _ => hb))
  have HS := hid hs
  have HNC := hid (NC_of_valid g1)
  have hl30 := valid_len g1
  obtain ⟨s, hrec⟩ := valid_rec g1
  have HREC := hid hrec
  have HVS := hid (valid_snoc (r := decRc t true) hrec g2)
  have HD0 := hid (show dec rs t true = if valid (rs ++ [decRc t true]) then (rs ++ [decRc t true], true) else (rs, false) by rw [dec_eq, g1, g2]; show (if (ask rs t == 2) = true then _ else _) = _; rw [hk]; rfl)
  have F0 := hid (((Fr.refl w.heap.size [] w).alloc (.cells #[.slice a rs.length cap] 25)).alloc (.cells #[.slice none 0 0] 25))
  have B0 := hid (two_boxes w (.cells #[.slice a rs.length cap] 25) (.cells #[.slice none 0 0] 25))
  have G1 := hid g1
  have G2 := hid g2
  have hfl := fieldKind
  clear hv hs hrec
  cases h30 : ((rs.length : Int) == 30)
  · have hlt : rs.length < 30 := by
      have : ¬ (rs.length : Int) = 30 := by simpa using h30
      omega
    have hdl : decide (rs.length < 30) = true := decide_eq_true hlt
    rcases hi : istepO (lastTo rs (decRc t true).txn rs.length) s (decRc t true) with _ | s'
    · have HD := hid (show dec rs t true = (rs, false) by rw [HD0.out, HVS.out, hi]; rfl)
      have HII := hid hi
      clear hi hdl
      go_enter Try.func21, Try.ntmps21
      go_wp2_with (first | (go_at_call 37; go_must (refine (read_any (old w.heap.size) _ rs _ (HV.out.grow F0.out) HS.out HNC.out).mono ?_; rintro e w1 ⟨h, he, hh, fr1⟩; rw [G1.out] at he; subst he; have F1 := hid (F0.out.trans fr1.nil); have BA := hid (fr1.keep _ _ B0.out.1 (.inr (by simp))); have BB := hid (fr1.keep _ _ B0.out.2 (.inr (by simp))); have a0 := cell_of (o := 0) BA.out rfl; have b0 := cell_of (o := 0) BB.out rfl; have b1 := free_of (o := 0) BB.out; have hbb := lt_of_get BB.out; obtain ⟨l, m, hist⟩ := hh s HREC.out; have HI := hid hist; obtain ⟨d4, d5⟩ := hist_more HI.out.refsAt.1 HI.out.refsAt.2.1; have hlh := lt_of_get HI.out.refsAt.1; clear hist; clear hh fr1)) | (go_at_call 38; go_must (refine (isTxn_any _ _).mono ?_; rintro e w' ⟨rfl, rfl⟩)))
      obtain ⟨x, u, hlk⟩ := (HI.out.grow (((Fr.refl 0 [] w1).alloc (.cells #[.int .i64 2, .int .i64 t, .slice none 0 0] 72)).drew)).kind HREC.out G2.out
      have a1 := cell_alloc (o := .cells #[.int .i64 2, .int .i64 t, .slice none 0 0] 72) a0
      have FA := hid (F1.out.alloc (.cells #[.int .i64 2, .int .i64 t, .slice none 0 0] 72)).drew
      have BB2 := hid (heap_up BB.out (.cells #[.int .i64 2, .int .i64 t, .slice none 0 0] 72))
      have BA2 := hid (heap_up BA.out (.cells #[.int .i64 2, .int .i64 t, .slice none 0 0] 72))
      have BR := hid (heap_alloc_new w1 (.cells #[.int .i64 2, .int .i64 t, .slice none 0 0] 72))
      have HA := hid (HI.out.grow (((Fr.refl 0 [] w1).alloc (.cells #[.int .i64 2, .int .i64 t, .slice none 0 0] 72)).drew))
      go_region
      go_wp2_with (first | (go_at_call 41; go_must (refine (add_any _ h l m rs.length s (fun t => lastTo rs t rs.length) (.slice none 0 0) (decRc t true) _ HA.out (by omega) (by simp [decRc]) (SlR.nilOld _ _) (NoLock.of_nil rfl)).mono ?_; rintro e w3 ⟨x3, rfl, hx3, -, fr3⟩; rw [HII.out] at hx3; subst hx3; have F3 := hid (FA.out.after (fr3.mono (by simp; omega) (fun _ h => h))); have BB3 := hid (fr3.keep _ _ (blk_drew BB2.out) (.inl (by simp))); have BA3 := hid (fr3.keep _ _ (blk_drew BA2.out) (.inl (by simp; omega))); have BR3 := hid (fr3.keep _ _ (blk_drew BR.out) (.inr (by simp [otag]))); have p0 := cell_of (o := 0) BA3.out rfl; have p1 := cell_of (o := 0) BR3.out rfl; have p2 := cell_of (o := 1) BR3.out rfl; have p3 := cell_of (o := 2) BR3.out rfl; clear fr3)) | (go_at_call 40; go_must (refine (copyShard_any (old w.heap.size) _ rs _ (HV.out.keep F3.out (Safe.old (Nat.le_refl _)) (Safe.old (Nat.le_refl _))) HS.out).mono ?_; rintro e w4 ⟨v4, rfl, own4, fr4⟩; obtain ⟨a4, cap4, rfl, _, _⟩ := own4.reads.shape; have OWN4 := hid (own4.lower (F3.out.size)); have F4 := hid (F3.out.trans fr4.nil); have B4 := hid (fr4.keep _ _ BB3.out (.inr (by simp))); have q0 := cell_of (o := 0) B4.out rfl; have q1 := free_of (o := 0) B4.out; clear own4 fr4)))
      have FT := ((Fr.refl 0 [25] w4).setOld (p := ⟨w.heap.size + 1, 0, none⟩) B4.out (Nat.zero_le _) (by simp [otag]) (.slice a4 rs.length cap4)); exact bodyPost_ret (v := .tuple #[.agg #[(.slice a4 rs.length cap4)], .bool false]) (by simp [results, Try.results21, go_sem, q0]) rfl ⟨_, by rw [HD.out], by rw [HD.out]; exact (OWN4.out).keep FT (by simp) (by simp), (F4.out).setNew (by dsimp only; omega) _⟩
    · have HD := hid (show dec rs t true = (rs ++ [decRc t true], true) by rw [HD0.out, HVS.out, hi, hdl]; rfl)
      have HII := hid hi
      clear hi hdl
      go_enter Try.func21, Try.ntmps21
      go_wp2_with (first | (go_at_call 37; go_must (refine (read_any (old w.heap.size) _ rs _ (HV.out.grow F0.out) HS.out HNC.out).mono ?_; rintro e w1 ⟨h, he, hh, fr1⟩; rw [G1.out] at he; subst he; have F1 := hid (F0.out.trans fr1.nil); have BA := hid (fr1.keep _ _ B0.out.1 (.inr (by simp))); have BB := hid (fr1.keep _ _ B0.out.2 (.inr (by simp))); have a0 := cell_of (o := 0) BA.out rfl; have b0 := cell_of (o := 0) BB.out rfl; have b1 := free_of (o := 0) BB.out; have hbb := lt_of_get BB.out; obtain ⟨l, m, hist⟩ := hh s HREC.out; have HI := hid hist; obtain ⟨d4, d5⟩ := hist_more HI.out.refsAt.1 HI.out.refsAt.2.1; have hlh := lt_of_get HI.out.refsAt.1; clear hist; clear hh fr1)) | (go_at_call 38; go_must (refine (isTxn_any _ _).mono ?_; rintro e w' ⟨rfl, rfl⟩)))
      obtain ⟨x, u, hlk⟩ := (HI.out.grow (((Fr.refl 0 [] w1).alloc (.cells #[.int .i64 2, .int .i64 t, .slice none 0 0] 72)).drew)).kind HREC.out G2.out
      have a1 := cell_alloc (o := .cells #[.int .i64 2, .int .i64 t, .slice none 0 0] 72) a0
      have FA := hid (F1.out.alloc (.cells #[.int .i64 2, .int .i64 t, .slice none 0 0] 72)).drew
      have BB2 := hid (heap_up BB.out (.cells #[.int .i64 2, .int .i64 t, .slice none 0 0] 72))
      have BA2 := hid (heap_up BA.out (.cells #[.int .i64 2, .int .i64 t, .slice none 0 0] 72))
      have BR := hid (heap_alloc_new w1 (.cells #[.int .i64 2, .int .i64 t, .slice none 0 0] 72))
      have HA := hid (HI.out.grow (((Fr.refl 0 [] w1).alloc (.cells #[.int .i64 2, .int .i64 t, .slice none 0 0] 72)).drew))
      go_region
      go_wp2_with (first | (go_at_call 41; go_must (refine (add_any _ h l m rs.length s (fun t => lastTo rs t rs.length) (.slice none 0 0) (decRc t true) _ HA.out (by omega) (by simp [decRc]) (SlR.nilOld _ _) (NoLock.of_nil rfl)).mono ?_; rintro e w3 ⟨x3, rfl, hx3, -, fr3⟩; rw [HII.out] at hx3; subst hx3; have F3 := hid (FA.out.after (fr3.mono (by simp; omega) (fun _ h => h))); have BB3 := hid (fr3.keep _ _ (blk_drew BB2.out) (.inl (by simp))); have BA3 := hid (fr3.keep _ _ (blk_drew BA2.out) (.inl (by simp; omega))); have BR3 := hid (fr3.keep _ _ (blk_drew BR.out) (.inr (by simp [otag]))); have p0 := cell_of (o := 0) BA3.out rfl; have p1 := cell_of (o := 0) BR3.out rfl; have p2 := cell_of (o := 1) BR3.out rfl; have p3 := cell_of (o := 2) BR3.out rfl; clear fr3)) | (go_at_call 42; go_must (refine (with_any (old w.heap.size) (new 0) _ (.slice none 0 0) rs (decRc t true) _ (HV.out.keep F3.out (Safe.old (Nat.le_refl _)) (Safe.old (Nat.le_refl _))) HS.out (by omega) (SlR.nil _ _ _ _) (by simp [decRc])).mono ?_; rintro e w4 ⟨v4, rfl, own4, fr4⟩; obtain ⟨a4, cap4, rfl, _, _⟩ := own4.reads.shape; rw [List.length_append, List.length_singleton] at own4; have OWN4 := hid (own4.lower (F3.out.size)); have F4 := hid (F3.out.trans fr4.nil); have B4 := hid (fr4.keep _ _ BB3.out (.inr (by simp))); have q0 := cell_of (o := 0) B4.out rfl; have q1 := free_of (o := 0) B4.out; clear own4 fr4)))
      have FT := ((Fr.refl 0 [25] w4).setOld (p := ⟨w.heap.size + 1, 0, none⟩) B4.out (Nat.zero_le _) (by simp [otag]) (.slice a4 (rs.length + 1) cap4)); exact bodyPost_ret (v := .tuple #[.agg #[(.slice a4 (rs.length + 1) cap4)], .bool true]) (by simp [results, Try.results21, go_sem, q0]) rfl ⟨_, by rw [HD.out], by rw [HD.out]; exact (OWN4.out).keep FT (by simp) (by simp), (F4.out).setNew (by dsimp only; omega) _⟩
  · have hdl : decide (rs.length < 30) = false := by
      have : (rs.length : Int) = 30 := by simpa using h30
      exact decide_eq_false (by omega)
    have HD := hid (show dec rs t true = (rs, false) by rw [HD0.out, HVS.out, hdl, Bool.and_false]; rfl)
    clear hdl
    go_enter Try.func21, Try.ntmps21
    go_wp2_with (first | (go_at_call 37; go_must (refine (read_any (old w.heap.size) _ rs _ (HV.out.grow F0.out) HS.out HNC.out).mono ?_; rintro e w1 ⟨h, he, hh, fr1⟩; rw [G1.out] at he; subst he; have F1 := hid (F0.out.trans fr1.nil); have BA := hid (fr1.keep _ _ B0.out.1 (.inr (by simp))); have BB := hid (fr1.keep _ _ B0.out.2 (.inr (by simp))); have a0 := cell_of (o := 0) BA.out rfl; have b0 := cell_of (o := 0) BB.out rfl; have b1 := free_of (o := 0) BB.out; have hbb := lt_of_get BB.out; obtain ⟨l, m, hist⟩ := hh s HREC.out; have HI := hid hist; obtain ⟨d4, d5⟩ := hist_more HI.out.refsAt.1 HI.out.refsAt.2.1; have hlh := lt_of_get HI.out.refsAt.1; clear hist; clear hh fr1)) | (go_at_call 38; go_must (refine (isTxn_any _ _).mono ?_; rintro e w' ⟨rfl, rfl⟩)))
    obtain ⟨x, u, hlk⟩ := (HI.out.grow (((Fr.refl 0 [] w1).alloc (.cells #[.int .i64 2, .int .i64 t, .slice none 0 0] 72)).drew)).kind HREC.out G2.out
    have a1 := cell_alloc (o := .cells #[.int .i64 2, .int .i64 t, .slice none 0 0] 72) a0
    have FA := hid (F1.out.alloc (.cells #[.int .i64 2, .int .i64 t, .slice none 0 0] 72)).drew
    have BB2 := hid (heap_up BB.out (.cells #[.int .i64 2, .int .i64 t, .slice none 0 0] 72))
    have BA2 := hid (heap_up BA.out (.cells #[.int .i64 2, .int .i64 t, .slice none 0 0] 72))
    have BR := hid (heap_alloc_new w1 (.cells #[.int .i64 2, .int .i64 t, .slice none 0 0] 72))
    have HA := hid (HI.out.grow (((Fr.refl 0 [] w1).alloc (.cells #[.int .i64 2, .int .i64 t, .slice none 0 0] 72)).drew))
    go_region
    go_wp2_with (go_at_call 40; go_must (refine (copyShard_any (old w.heap.size) _ rs _ (HV.out.grow FA.out) HS.out).mono ?_; rintro e w4 ⟨v4, rfl, own4, fr4⟩; obtain ⟨a4, cap4, rfl, _, _⟩ := own4.reads.shape; have OWN4 := hid (own4.lower (FA.out.size)); have F4 := hid (FA.out.trans fr4.nil); have B4 := hid (fr4.keep _ _ (blk_drew BB2.out) (.inr (by simp))); have q0 := cell_of (o := 0) B4.out rfl; have q1 := free_of (o := 0) B4.out; clear own4 fr4))
    have FT := ((Fr.refl 0 [25] w4).setOld (p := ⟨w.heap.size + 1, 0, none⟩) B4.out (Nat.zero_le _) (by simp [otag]) (.slice a4 rs.length cap4)); exact bodyPost_ret (v := .tuple #[.agg #[(.slice a4 rs.length cap4)], .bool false]) (by simp [results, Try.results21, go_sem, q0]) rfl ⟨_, by rw [HD.out], by rw [HD.out]; exact (OWN4.out).keep FT (by simp) (by simp), (F4.out).setNew (by dsimp only; omega) _⟩

theorem implShardDecide_any (K : Nat → Bool → Prop) (v : Value) (rs : List Rc) (t : Int) (c : Bool) (w : World) (hv : RecsR K w v rs) (hs : Small rs) (hnc : NC rs) :
    Calls Try.prog 21 #[.agg #[v], .int .i64 t, .bool c] w (ShardBool w (dec rs t c)) := by
  cases g : (valid rs && inR t 0 11)
  · exact implShardDecide_bad K v rs t c w hv hs hnc g
  · have hg : valid rs = true ∧ inR t 0 11 = true := by simpa using g
    cases hk : (ask rs t == (decRc t c).kind)
    · cases c
      · exact implShardDecide_newA K v rs t w hv hs hg.1 hg.2 hk
      · exact implShardDecide_newC K v rs t w hv hs hg.1 hg.2 hk
    · exact implShardDecide_known K v rs t c w hv hs hg.1 hg.2 hk

end Go.Proofs.Ytkcpecihgldflaa
