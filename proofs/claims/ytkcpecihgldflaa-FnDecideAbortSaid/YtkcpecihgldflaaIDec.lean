/- The program's Shard.with, ShardDecide, LocksOf. -/
import Derived.Test.YtkcpecihgldflaaIOps
import Derived.Test.YtkcpecihgldflaaDec
namespace Go.Proofs.Ytkcpecihgldflaa
open Go.RowKit
set_option linter.unusedVariables false

set_option maxRecDepth 20000 in
set_option maxHeartbeats 1000000 in
theorem with_any (K K3 : Nat → Bool → Prop) (v vu : Value) (rs : List Rc) (r : Rc) (w : World) (hv : RecsR K w v rs) (hs : Small rs) (hl : rs.length ≤ 999999999) (h3 : UpsR K3 w vu r.ups) (hu : r.ups.length ≤ 1000000000) :
    Calls Try.prog 42 #[.agg #[v], .agg #[.int .i64 r.kind, .int .i64 r.txn, vu]] w fun e w' => ∃ v', e = .returned (.agg #[v']) ∧ RecsOwn w.heap.size w' v' (rs ++ [r]) ∧ Fr w.heap.size [] w w' := by
  obtain ⟨a, cap, rfl, hcap, -⟩ := hv.shape
  obtain ⟨ua, ucap, rfl, hucap, -⟩ := h3.shape
  obtain ⟨ir, hri, hrz0, hrz1, hrz2⟩ := info_parts infoR
  have HV := hid hv
  have HS := hid hs
  have H3 := hid h3
  have hW := Boxes3.made w (.cells #[.slice a rs.length cap] 25) (.cells #[.int .i64 r.kind, .int .i64 r.txn, .slice ua r.ups.length ucap] 72) (.cells #[.slice none 0 0] 25)
  have F0 := hid ((((Fr.refl w.heap.size [] w).alloc (.cells #[.slice a rs.length cap] 25)).alloc (.cells #[.int .i64 r.kind, .int .i64 r.txn, .slice ua r.ups.length ucap] 72)).alloc (.cells #[.slice none 0 0] 25))
  have HW := hid hW
  clear hv hs h3 hW
  go_enter Try.func42, Try.ntmps42
  go_wp2_with (first
    | (go_at_call 40; (with_reducible refine (copyShard_any K _ rs _ (HV.out.grow F0.out) HS.out).mono ?_); go_must (rintro e w1 ⟨v1, rfl, own1, fr1⟩; obtain ⟨a1, cap1, rfl, _, _⟩ := own1.reads.shape; obtain ⟨zs, z1, z2, z3⟩ := id own1; have Z1 := hid z1; have Z2 := hid z2; have Z3 := hid z3; have F1 := hid (F0.out.trans fr1.nil); have W1 := hid (HW.out.grow fr1); have hs1 := fr1.size; have c0 := cell_of (o := 0) W1.out.1 rfl; have c1 := cell_of (o := 0) W1.out.2.1 rfl; have c2 := cell_of (o := 1) W1.out.2.1 rfl; have c3 := cell_of (o := 2) W1.out.2.1 rfl; have hb2 := lt_of_get W1.out.2.2; have hb1 := lt_of_get W1.out.2.1; have hb0 := lt_of_get W1.out.1; clear own1 z1 z2 z3 fr1))
    | (go_at_call 67; go_must (refine (cloneU_any K3 _ _ _ _ _ (H3.out.grow (F1.out.alloc _)) (oneU _) hu).mono ?_; rintro e w2 ⟨v2, rfl, own2, fr2⟩; obtain ⟨a2, cap2, rfl⟩ := own_any own2; have FW := hid (((Fr.refl w1.heap.size [] w1).alloc (.cells #[.slice a1 rs.length cap1] 25)).trans fr2.nil); have OWN2 := hid own2; have W2 := hid (W1.out.grow FW.out); have BX := hid (fr2.keep _ _ (heap_alloc_new w1 (.cells #[.slice a1 rs.length cap1] 25)) (.inr (by simp))); have hs2 := FW.out.size; have d0 := cell_of (o := 0) W2.out.1 rfl; have d1 := cell_of (o := 0) W2.out.2.1 rfl; have d2 := cell_of (o := 1) W2.out.2.1 rfl; have d3 := cell_of (o := 2) W2.out.2.1 rfl; have d4 := free_of (o := 2) W2.out.2.1; have d5 := cell_of (o := 0) BX.out rfl; have d6 := free_of (o := 0) BX.out; have hbx := lt_of_get BX.out; have hb2 := lt_of_get W2.out.2.2; have hb1 := lt_of_get W2.out.2.1; have hb0 := lt_of_get W2.out.1; clear own2 fr2 c0 c1 c2 c3))
    | ((at_builtin; go_must (refine wpList_push rfl (.tmp 13) (.tmp 15) 23 rfl (w.heap.size + 1 + 1 + 1) 72 ir (.agg #[.int .i64 0, .int .i64 0, .slice none 0 0]) 3 40 Try.underlying23 hri hrz0 hrz1 hrz2 rfl (by decide) _ _ _ (ownsRow_setCell_below (a := ⟨w.heap.size + 1, 2, none⟩) (ownsRow_grow (own_size Z2.out) FW.out) (by dsimp only; omega) _) rfl (oneR (UpsR.ofOwn OWN2.out rfl (Nat.le_refl _)) _ _) (by unfold maxLen; omega) (by omega) (by simp [World.setCell]; omega) (by rfl) _ (by rfl) (by simp [World.setCell]) ?_; intro v4 w4 own4 fr4 _)); go_must (obtain ⟨g4, cap4, rfl, _, _, _⟩ := own_shape own4 (by omega); have FS := hid ((Fr.refl 0 [72] w2).setOld (p := ⟨w.heap.size + 1, 2, none⟩) W2.out.2.1 (Nat.zero_le _) (by simp [otag]) (.slice a2 r.ups.length cap2)); have F14 := hid (((FW.out.nil (B' := 0) (T := [72])).trans FS.out).trans (fr4.mono (Nat.zero_le _) (fun _ h => h))); have F24 := hid (FS.out.trans (fr4.mono (Nat.zero_le _) (fun _ h => h))); have OWN4 := hid (RecsOwn.snoc (lo := w.heap.size + 1 + 1 + 1) (r := r) Z1.out (fun z hz => ((Z3.out z hz).weak (fun b t _ hb => new_le (by simp) b t hb)).keep F14.out (Safe.new (by simp))) ((UpsR.ofOwn (lo' := w.heap.size + 1 + 1 + 1) OWN2.out rfl (by simp; omega)).keep F24.out (Safe.new (by simp))) rfl own4); have F4 := hid (((F1.out.trans FW.out.nil).setNew (p := ⟨w.heap.size + 1, 2, none⟩) (by dsimp only; omega) (.slice a2 r.ups.length cap2)).after (fr4.mono (by omega) (fun _ h => h))); have A4 := hid (fr4.keep _ _ (block_setne (p := ⟨w.heap.size + 1, 2, none⟩) W2.out.1 (by dsimp only; omega)) (.inl (by omega))); have C4 := hid (fr4.keep _ _ (block_setne (p := ⟨w.heap.size + 1, 2, none⟩) W2.out.2.2 (by dsimp only; omega)) (.inl (by omega))); have X4 := hid (fr4.keep _ _ (block_setne (p := ⟨w.heap.size + 1, 2, none⟩) BX.out (by dsimp only; omega)) (.inr (by simp [otag]))); have e0 := cell_of (o := 0) X4.out rfl; have e1 := free_of (o := 0) X4.out; have e2 := cell_of (o := 0) C4.out rfl; have e3 := free_of (o := 0) C4.out; have hb4 := fr4.size; have hx4 := lt_of_get X4.out; have hc4 := lt_of_get C4.out; clear own4 fr4 d0 d1 d2 d3 d4 d5 d6)))
  have FT := ((Fr.refl 0 [25] w4).setOld (p := ⟨w1.heap.size, 0, none⟩) X4.out (Nat.zero_le _) (by simp [otag]) (.slice (some ⟨g4, 0, none⟩) (rs.length + 1) cap4)).setOld (p := ⟨w.heap.size + 1 + 1, 0, none⟩) (block_setne C4.out (by dsimp only; omega)) (Nat.zero_le _) (by simp [otag]) (.slice (some ⟨g4, 0, none⟩) (rs.length + 1) cap4)
  exact bodyPost_ret (v := .agg #[.slice (some ⟨g4, 0, none⟩) (rs.length + 1) cap4]) (by simp [results, Try.results42, go_sem, e2]) rfl
      ⟨_, rfl, (OWN4.out.lower (by omega)).keep FT (by simp) (by simp), (F4.out.setNew (p := ⟨w1.heap.size, 0, none⟩) (by dsimp only; omega) _).setNew (by dsimp only; omega) _⟩

theorem recover_snoc {rs : List Rc} {s : St} {r : Rc} (hs : recover rs = some s) (hr : inR r.txn 0 11 = true) : recover (rs ++ [r]) = istepO (lastTo rs r.txn rs.length) s r := by
  have h1 : recTo (rs ++ [r]) rs.length = some s := by rw [recTo_append rs r _ (Nat.le_refl _)]; exact hs
  have h2 : rs.length < (rs ++ [r]).length := by simp
  have h3 := recTo_succ h1 h2
  unfold recover
  rw [List.length_append, List.length_singleton, h3, istep_eq (k := rs.length) hs (Nat.le_refl _) r]
  rw [List.getElem_concat_length rfl, List.take_append_of_le_length (Nat.le_refl _)]

theorem valid_snoc {rs : List Rc} {s : St} {r : Rc} (hs : recover rs = some s) (hr : inR r.txn 0 11 = true) : valid (rs ++ [r]) = ((istepO (lastTo rs r.txn rs.length) s r).isSome && decide (rs.length < 30)) := by
  unfold valid
  rw [recover_snoc hs hr, List.length_append, List.length_singleton]
  congr 1

/-- A decision. -/
def decRc (t : Int) (c : Bool) : Rc := ⟨if c then 2 else 3, t, []⟩

theorem dec_eq (rs : List Rc) (t : Int) (c : Bool) : dec rs t c = if !(valid rs && inR t 0 11) then ([], false) else if ask rs t == (decRc t c).kind then (rs, true) else (if valid (rs ++ [decRc t c]) then (rs ++ [decRc t c], true) else (rs, false)) := by
  unfold dec decRc
  cases c <;> rfl

theorem SlR.nilOld (B : Nat) (w : World) : UpsR (old B) w (.slice none 0 0) [] := SlR.nil _ _ _ _

set_option maxRecDepth 20000 in
set_option maxHeartbeats 1000000 in
theorem implShardDecide_bad (K : Nat → Bool → Prop) (v : Value) (rs : List Rc) (t : Int) (c : Bool) (w : World) (hv : RecsR K w v rs) (hs : Small rs) (hnc : NC rs) (hbad : (valid rs && inR t 0 11) = false) :
    Calls Try.prog 21 #[.agg #[v], .int .i64 t, .bool c] w (ShardBool w (dec rs t c)) := by
  obtain ⟨a, cap, rfl, hcap, -⟩ := hv.shape
  have HV := hid (hv.weak (K' := old w.heap.size) (fun b t hb _ => hb))
  have HS := hid hs
  have HNC := hid hnc
  have HD := hid (show dec rs t c = ([], false) by rw [dec_eq, hbad]; rfl)
  have F0 := hid (((Fr.refl w.heap.size [] w).alloc (.cells #[.slice a rs.length cap] 25)).alloc (.cells #[.slice none 0 0] 25))
  have B0 := hid (two_boxes w (.cells #[.slice a rs.length cap] 25) (.cells #[.slice none 0 0] 25))
  clear hv hs hnc
  cases g1 : valid rs
  all_goals cases g2 : inR t 0 11
  case true.true => rw [g1, g2] at hbad; cases hbad
  all_goals
    clear hbad
    have G1 := hid g1
    go_enter Try.func21, Try.ntmps21
    go_wp2_with (first | (go_at_call 37; go_must (refine (read_any (old w.heap.size) _ rs _ (HV.out.grow F0.out) HS.out HNC.out).mono ?_; rintro e w1 ⟨h, he, hh, fr1⟩; rw [G1.out] at he; subst he; have F1 := hid (F0.out.trans fr1.nil); have BA := hid (fr1.keep _ _ B0.out.1 (.inr (by simp))); have BB := hid (fr1.keep _ _ B0.out.2 (.inr (by simp))); have a0 := cell_of (o := 0) BA.out rfl; have b0 := cell_of (o := 0) BB.out rfl; have b1 := free_of (o := 0) BB.out; have hbb := lt_of_get BB.out; skip; clear hh fr1)) | (go_at_call 38; go_must (refine (isTxn_any _ _).mono ?_; rintro e w' ⟨rfl, rfl⟩)))
    have q0 := b0
    have FT := ((Fr.refl 0 [25] w1).setOld (p := ⟨w.heap.size + 1, 0, none⟩) BB.out (Nat.zero_le _) (by simp [otag]) (.slice none 0 0)); exact bodyPost_ret (v := .tuple #[.agg #[(.slice none 0 0)], .bool false]) (by simp [results, Try.results21, go_sem, q0]) rfl ⟨_, by rw [HD.out], by rw [HD.out]; exact (RecsOwn.nil _ _).keep FT (by simp) (by simp), (F1.out).setNew (by dsimp only; omega) _⟩

set_option maxRecDepth 20000 in
set_option maxHeartbeats 1000000 in
theorem implShardDecide_known (K : Nat → Bool → Prop) (v : Value) (rs : List Rc) (t : Int) (c : Bool) (w : World) (hv : RecsR K w v rs) (hs : Small rs) (g1 : valid rs = true) (g2 : inR t 0 11 = true) (hk : (ask rs t == (decRc t c).kind) = true) :
    Calls Try.prog 21 #[.agg #[v], .int .i64 t, .bool c] w (ShardBool w (dec rs t c)) := by
  obtain ⟨a, cap, rfl, hcap, -⟩ := hv.shape
  have HV := hid (hv.weak (K' := old w.heap.size) (fun b t hb _ => hb))
  have HS := hid hs
  have HNC := hid (NC_of_valid g1)
  have HD := hid (show dec rs t c = (rs, true) by rw [dec_eq, g1, g2, hk]; rfl)
  have F0 := hid (((Fr.refl w.heap.size [] w).alloc (.cells #[.slice a rs.length cap] 25)).alloc (.cells #[.slice none 0 0] 25))
  have B0 := hid (two_boxes w (.cells #[.slice a rs.length cap] 25) (.cells #[.slice none 0 0] 25))
  obtain ⟨s, hrec⟩ := valid_rec g1
  have HREC := hid hrec
  have G1 := hid g1
  have G2 := hid g2
  have hfl := fieldKind
  clear hv hs hrec
  cases c
  · have hk' : (ask rs t == 3) = true := hk
    clear hk
    go_enter Try.func21, Try.ntmps21
    go_wp2_with (first | (go_at_call 37; go_must (refine (read_any (old w.heap.size) _ rs _ (HV.out.grow F0.out) HS.out HNC.out).mono ?_; rintro e w1 ⟨h, he, hh, fr1⟩; rw [G1.out] at he; subst he; have F1 := hid (F0.out.trans fr1.nil); have BA := hid (fr1.keep _ _ B0.out.1 (.inr (by simp))); have BB := hid (fr1.keep _ _ B0.out.2 (.inr (by simp))); have a0 := cell_of (o := 0) BA.out rfl; have b0 := cell_of (o := 0) BB.out rfl; have b1 := free_of (o := 0) BB.out; have hbb := lt_of_get BB.out; obtain ⟨l, m, hist⟩ := hh s HREC.out; have HI := hid hist; obtain ⟨d4, d5⟩ := hist_more HI.out.refsAt.1 HI.out.refsAt.2.1; have hlh := lt_of_get HI.out.refsAt.1; clear hist; clear hh fr1)) | (go_at_call 38; go_must (refine (isTxn_any _ _).mono ?_; rintro e w' ⟨rfl, rfl⟩)))
    obtain ⟨x, u, hlk⟩ := (HI.out.grow (((Fr.refl 0 [] w1).alloc (.cells #[.int .i64 3, .int .i64 t, .slice none 0 0] 72)).drew)).kind HREC.out G2.out
    have a1 := cell_alloc (o := .cells #[.int .i64 3, .int .i64 t, .slice none 0 0] 72) a0
    have FA := hid (F1.out.alloc (.cells #[.int .i64 3, .int .i64 t, .slice none 0 0] 72)).drew
    have BB2 := hid (heap_up BB.out (.cells #[.int .i64 3, .int .i64 t, .slice none 0 0] 72))
    go_region
    go_wp2_with (go_at_call 40; go_must (refine (copyShard_any (old w.heap.size) _ rs _ (HV.out.grow FA.out) HS.out).mono ?_; rintro e w4 ⟨v4, rfl, own4, fr4⟩; obtain ⟨a4, cap4, rfl, _, _⟩ := own4.reads.shape; have OWN4 := hid (own4.lower (FA.out.size)); have F4 := hid (FA.out.trans fr4.nil); have B4 := hid (fr4.keep _ _ (blk_drew BB2.out) (.inr (by simp))); have q0 := cell_of (o := 0) B4.out rfl; have q1 := free_of (o := 0) B4.out; clear own4 fr4))
    have FT := ((Fr.refl 0 [25] w4).setOld (p := ⟨w.heap.size + 1, 0, none⟩) B4.out (Nat.zero_le _) (by simp [otag]) (.slice a4 rs.length cap4)); exact bodyPost_ret (v := .tuple #[.agg #[(.slice a4 rs.length cap4)], .bool true]) (by simp [results, Try.results21, go_sem, q0]) rfl ⟨_, by rw [HD.out], by rw [HD.out]; exact (OWN4.out).keep FT (by simp) (by simp), (F4.out).setNew (by dsimp only; omega) _⟩
  · have hk' : (ask rs t == 2) = true := hk
    clear hk
    go_enter Try.func21, Try.ntmps21
    go_wp2_with (first | (go_at_call 37; go_must (refine (read_any (old w.heap.size) _ rs _ (HV.out.grow F0.out) HS.out HNC.out).mono ?_; rintro e w1 ⟨h, he, hh, fr1⟩; rw [G1.out] at he; subst he; have F1 := hid (F0.out.trans fr1.nil); have BA := hid (fr1.keep _ _ B0.out.1 (.inr (by simp))); have BB := hid (fr1.keep _ _ B0.out.2 (.inr (by simp))); have a0 := cell_of (o := 0) BA.out rfl; have b0 := cell_of (o := 0) BB.out rfl; have b1 := free_of (o := 0) BB.out; have hbb := lt_of_get BB.out; obtain ⟨l, m, hist⟩ := hh s HREC.out; have HI := hid hist; obtain ⟨d4, d5⟩ := hist_more HI.out.refsAt.1 HI.out.refsAt.2.1; have hlh := lt_of_get HI.out.refsAt.1; clear hist; clear hh fr1)) | (go_at_call 38; go_must (refine (isTxn_any _ _).mono ?_; rintro e w' ⟨rfl, rfl⟩)))
    obtain ⟨x, u, hlk⟩ := (HI.out.grow (((Fr.refl 0 [] w1).alloc (.cells #[.int .i64 2, .int .i64 t, .slice none 0 0] 72)).drew)).kind HREC.out G2.out
    have a1 := cell_alloc (o := .cells #[.int .i64 2, .int .i64 t, .slice none 0 0] 72) a0
    have FA := hid (F1.out.alloc (.cells #[.int .i64 2, .int .i64 t, .slice none 0 0] 72)).drew
    have BB2 := hid (heap_up BB.out (.cells #[.int .i64 2, .int .i64 t, .slice none 0 0] 72))
    go_region
    go_wp2_with (go_at_call 40; go_must (refine (copyShard_any (old w.heap.size) _ rs _ (HV.out.grow FA.out) HS.out).mono ?_; rintro e w4 ⟨v4, rfl, own4, fr4⟩; obtain ⟨a4, cap4, rfl, _, _⟩ := own4.reads.shape; have OWN4 := hid (own4.lower (FA.out.size)); have F4 := hid (FA.out.trans fr4.nil); have B4 := hid (fr4.keep _ _ (blk_drew BB2.out) (.inr (by simp))); have q0 := cell_of (o := 0) B4.out rfl; have q1 := free_of (o := 0) B4.out; clear own4 fr4))
    have FT := ((Fr.refl 0 [25] w4).setOld (p := ⟨w.heap.size + 1, 0, none⟩) B4.out (Nat.zero_le _) (by simp [otag]) (.slice a4 rs.length cap4)); exact bodyPost_ret (v := .tuple #[.agg #[(.slice a4 rs.length cap4)], .bool true]) (by simp [results, Try.results21, go_sem, q0]) rfl ⟨_, by rw [HD.out], by rw [HD.out]; exact (OWN4.out).keep FT (by simp) (by simp), (F4.out).setNew (by dsimp only; omega) _⟩

end Go.Proofs.Ytkcpecihgldflaa
