/- The program's ShardRecover, ShardAsk, Shard.with, LocksOf. -/
import Derived.Test.YtkcpecihgldflaaICopy
import Derived.Test.YtkcpecihgldflaaILaws
namespace Go.Proofs.Ytkcpecihgldflaa
open Go.RowKit
set_option linter.unusedVariables false

/-- The four numbers at the head of a block. -/
theorem row4_SlR {w : World} {h : Nat} {l : List Int} {tl : List Value} {T : TypeId} (hb : w.heap[h]? = some (.cells (row4 l tl) T (0, 0))) (h4 : l.length = 4) : SlR (fun _ _ => True) T 1 w (.slice (some ⟨h, 0, none⟩) 4 4) 4 (l.map (Value.int .i64)) := by
  refine ⟨_, 4, rfl, by simp [h4], Nat.le_refl _, fun h => (by cases h), fun _ => ⟨h, 0, _, T, (0, 0), rfl, trivial, hb, fun j u hu => ?_⟩⟩
  unfold row4
  rw [Nat.zero_add, List.getElem?_toArray]
  have hj : j < (l.map (Value.int .i64)).length := by
    rcases Nat.lt_or_ge j (l.map (Value.int .i64)).length with h | h
    · exact h
    · rw [List.getElem?_eq_none h] at hu; cases hu
  rw [List.getElem?_append_left hj]; exact hu

theorem row4_Ints {w : World} {l lo : Nat} {xs : List Int} (hb : w.heap[l]? = some (.cells (row4 xs []) 3 (0, 0))) (h4 : xs.length = 4) (hl : lo ≤ l) : IntsR (new lo) w (.slice (some ⟨l, 0, none⟩) 4 4) xs := by
  obtain ⟨a, cap, h1, h2, h3, h5, h6⟩ := row4_SlR hb h4
  cases h1
  unfold IntsR
  rw [h4]
  refine ⟨_, 4, rfl, h2, h3, h5, fun hn => ?_⟩
  obtain ⟨b, off, cur, e, fr, g1, g2, g3, g4⟩ := h6 hn
  cases g1
  rw [hb] at g3
  cases g3
  exact ⟨l, 0, _, _, _, rfl, ⟨hl, by simp⟩, hb, g4⟩

set_option maxRecDepth 20000 in
set_option maxHeartbeats 1000000 in
theorem implShardRecover_any (K : Nat → Bool → Prop) (v : Value) (rs : List Rc) (s : St) (w : World) (hv : RecsR K w v rs) (hs : Small rs) (hok : valid rs = true) (hrec : recover rs = some s) :
    Calls Try.prog 13 #[.agg #[v]] w fun e w' => ∃ v1 v2, e = .returned (.tuple #[.agg #[v1, v2], .bool true]) ∧ IntsR (new w.heap.size) w' v1 s.refs ∧ IntsR (new w.heap.size) w' v2 s.locks ∧ s.refs.length = 4 ∧ s.locks.length = 4 ∧ Fr w.heap.size [] w w' := by
  obtain ⟨a, cap, rfl, hcap, -⟩ := hv.shape
  have HV := hid hv
  have HS := hid hs
  have HOK := hid hok
  have HREC := hid hrec
  have HNC := hid (NC_of_valid hok)
  clear hv hs hok hrec
  have F0 := hid (((Fr.refl w.heap.size [] w).alloc (.cells #[.slice a rs.length cap] 25)).alloc (.cells #[.slice none 0 0, .slice none 0 0] 35))
  have B0 := hid (two_boxes w (.cells #[.slice a rs.length cap] 25) (.cells #[.slice none 0 0, .slice none 0 0] 35))
  go_enter Try.func13, Try.ntmps13
  go_wp2_with (go_at_call 37; go_must (refine (read_any K _ rs _ (HV.out.grow F0.out) HS.out HNC.out).mono ?_; rintro e w1 ⟨h, he, hh, fr1⟩; rw [HOK.out] at he; subst he; obtain ⟨l, m, hist⟩ := hh s HREC.out; have HI := hid hist; have F1 := hid (F0.out.trans fr1.nil); have B1 := hid (fr1.keep _ _ B0.out.2 (.inr (by simp))); clear hh hist fr1))
  obtain ⟨d4, d5⟩ := hist_more HI.out.refsAt.1 HI.out.refsAt.2.1
  have hh2 := lt_of_get HI.out.refsAt.1
  have hlo := HI.out.refsAt.2.2.1
  have hlo2 := HI.out.refsAt.2.2.2
  simp at hlo hlo2
  have c1 := cell_of (o := 0) B1.out rfl
  have c1' := cell_of (o := 1) B1.out rfl
  have f1 := free_of (o := 0) B1.out
  have f1' := free_of (o := 1) B1.out
  have hb1 := lt_of_get B1.out
  have hone : ∀ u ∈ s.refs.map (Value.int .i64), u.oneCell' = true := oneI _
  have hne : h ≠ w.heap.size + 1 := by omega
  go_region_held3 (fun x => x.cell? ⟨h, 4, none⟩ = some (.slice (some ⟨l, 0, none⟩) 4 4))
    (first | exact d4 | exact e4 | exact cell_setne (cell_setne e4 hne) hne | exact cell_setne e4 hne)
    (first
      | (go_at_call 49; go_must (refine (cloneI_any _ 77 _ _ _ _ (row4_SlR (blk_drew HI.out.refsAt.1) HI.out.refsAt.2.1) hone (by decide)).mono ?_; rintro e w2 ⟨v2, rfl, own2, fr2⟩; obtain ⟨a2, cap2, rfl⟩ := own_any own2; have FW := hid ((Fr.refl w1.heap.size [] w1).drew.trans fr2); have e4 := FW.out.cell hh2 d4; have OWN2 := hid own2; have B2 := hid (FW.out.keep _ _ B1.out (.inr (by simp))); have g0 := cell_of (o := 0) B2.out rfl; have g1 := cell_of (o := 1) B2.out rfl; have g2 := free_of (o := 0) B2.out; have g3 := free_of (o := 1) B2.out; have g4 := lt_of_get B2.out; clear own2 fr2)))
  go_wp2
  have FT := ((Fr.refl 0 [35] w2).setOld (p := ⟨w.heap.size + 1, 0, none⟩) B2.out (Nat.zero_le _) (by simp [otag]) (.slice a2 4 cap2)).setOld (p := ⟨w.heap.size + 1, 1, none⟩) (block_set B2.out 0 _) (Nat.zero_le _) (by simp [otag]) (.slice (some ⟨l, 0, none⟩) 4 4)
  exact bodyPost_ret (v := .tuple #[.agg #[.slice a2 4 cap2, .slice (some ⟨l, 0, none⟩) 4 4], .bool true]) (by simp [results, Try.results13, go_sem, g0, g1]) rfl
    ⟨_, _, rfl, (IntsR.ofOwn OWN2.out HI.out.refsAt.2.1.symm F1.out.size).keep FT (Safe.new (by simp)), ((row4_Ints HI.out.locksAt.1 HI.out.locksAt.2 (by omega)).grow FW.out).keep FT (Safe.new (by simp)), HI.out.refsAt.2.1, HI.out.locksAt.2, ((F1.out.trans FW.out.nil).setNew (p := ⟨w.heap.size + 1, 0, none⟩) (by dsimp only; omega) _).setNew (by dsimp only; omega) _⟩

theorem ask_in {rs : List Rc} {s : St} (h : recover rs = some s) (t : Int) : 0 ≤ ask rs t ∧ ask rs t ≤ 3 := by
  have e := last_ask h t
  cases hl : lastTo rs t rs.length with
  | none => rw [hl] at e; simp only at e; omega
  | some x =>
    rw [hl] at e
    obtain ⟨_, _, _, hk, _⟩ := (last_inv (k := rs.length) h (Nat.le_refl _) t).2 x hl
    simp only at e
    omega

/-- The kind in the value that the map holds. -/
theorem Hist.kind {lo : Nat} {w : World} {h l m n : Nat} {s : St} {rs : List Rc} (hh : Hist lo w h l m n s (fun t => lastTo rs t rs.length)) (hr : recover rs = some s) {t : Int} (ht : inR t 0 11 = true) :
    ∃ x u : Value, (Instr.lookup 75 (.map (some m)) (.int .i64 t) false).run Try.prog w = .ok (.agg #[.int .i64 (ask rs t), x, u]) w := by
  obtain ⟨v, h1, h2, h3, h4⟩ := hh.look ht
  have e := last_ask hr t
  cases hl : lastTo rs t rs.length with
  | none =>
    obtain rfl := h3 hl
    rw [hl] at e
    exact ⟨_, _, by rw [h2, ← e]⟩
  | some x =>
    obtain ⟨u, rfl, _⟩ := h4 x hl
    rw [hl] at e
    exact ⟨_, _, by rw [h2, ← e]⟩

theorem fieldKind (w : World) (a : Int) (x u : Value) : (Instr.field 72 (.agg #[.int .i64 a, x, u]) 0).run Try.prog w = .ok (.int .i64 a) w := by kernel_rfl

set_option maxRecDepth 20000 in
set_option maxHeartbeats 1000000 in
theorem implShardAsk_any (K : Nat → Bool → Prop) (v : Value) (rs : List Rc) (t : Int) (w : World) (hv : RecsR K w v rs) (hs : Small rs) (hnc : NC rs) :
    Calls Try.prog 15 #[.agg #[v], .int .i64 t] w fun e w' => e = .returned (.int .i64 (if valid rs && inR t 0 11 then ask rs t else -1)) ∧ Fr w.heap.size [] w w' := by
  obtain ⟨a, cap, rfl, hcap, -⟩ := hv.shape
  have HV := hid hv
  have HS := hid hs
  have HNC := hid hnc
  clear hv hs hnc
  have F0 := hid ((Fr.refl w.heap.size [] w).alloc (.cells #[.slice a rs.length cap] 25))
  cases g1 : valid rs
  · have G1 := hid g1
    go_enter Try.func15, Try.ntmps15
    go_wp2_with (first
      | (go_at_call 37; go_must (refine (read_any K _ rs _ (HV.out.grow F0.out) HS.out HNC.out).mono ?_; rintro e w1 ⟨h, he, hh, fr1⟩; rw [G1.out] at he; subst he; have F1 := hid (F0.out.trans fr1.nil); clear hh fr1)))
    go_ret
    exact ⟨rfl, F1.out⟩
  · have G1 := hid g1
    obtain ⟨s, hrec⟩ := valid_rec g1
    have HREC := hid hrec
    clear hrec
    cases g2 : inR t 0 11
    · skip
      go_enter Try.func15, Try.ntmps15
      go_wp2_with (first
        | (go_at_call 37; go_must (refine (read_any K _ rs _ (HV.out.grow F0.out) HS.out HNC.out).mono ?_; rintro e w1 ⟨h, he, hh, fr1⟩; rw [G1.out] at he; subst he; have F1 := hid (F0.out.trans fr1.nil); clear hh fr1))
        | (go_at_call 38; go_must (refine (isTxn_any _ _).mono ?_; rintro e w' ⟨rfl, rfl⟩)))
      go_ret
      exact ⟨rfl, F1.out⟩
    · have G2 := hid g2
      have hfl := fieldKind
      go_enter Try.func15, Try.ntmps15
      go_wp2_with (first
        | (go_at_call 37; go_must (refine (read_any K _ rs _ (HV.out.grow F0.out) HS.out HNC.out).mono ?_; rintro e w1 ⟨h, he, hh, fr1⟩; rw [G1.out] at he; subst he; obtain ⟨l, m, hist⟩ := hh s HREC.out; have F1 := hid (F0.out.trans fr1.nil); obtain ⟨x, u, hlk⟩ := hist.kind HREC.out G2.out; obtain ⟨d4, d5⟩ := hist_more hist.refsAt.1 hist.refsAt.2.1; clear hh fr1 hist))
        | (go_at_call 38; go_must (refine (isTxn_any _ _).mono ?_; rintro e w' ⟨rfl, rfl⟩)))
      go_ret
      exact ⟨rfl, F1.out⟩

end Go.Proofs.Ytkcpecihgldflaa
