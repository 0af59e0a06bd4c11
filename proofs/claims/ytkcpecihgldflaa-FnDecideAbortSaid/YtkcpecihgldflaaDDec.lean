/- The draw of a decision. -/
import Derived.Test.YtkcpecihgldflaaDraw4
namespace Go.Proofs.Ytkcpecihgldflaa
open Go.RowKit
set_option linter.unusedVariables false

theorem Bytes.up {B B' : Nat} {T : List Nat} {w w' : World} {a : Option Addr} {n cap : Nat} (h : Bytes B w a n cap) (hf : Fr B T w w') (hB : B ≤ B') : Bytes B' w' a n cap := by
  refine ⟨h.1, fun hn => ?_⟩
  obtain ⟨b, off, h1, h2, h3⟩ := h.2 hn
  exact ⟨b, off, h1, Nat.lt_of_lt_of_le h2 hB, fun i hi => by
    obtain ⟨c, hc, hcc⟩ := h3 i hi
    exact ⟨c, hc, hf.cell h2 hcc⟩⟩

set_option maxRecDepth 20000 in
set_option maxHeartbeats 1000000 in
theorem drawDec_any {w : World} {a : Option Addr} {n cap : Nat} (hb : Bytes w.heap.size w a n cap) (hm : cap ≤ maxLen) :
    Calls Try.prog 29 #[.slice a n cap] w fun e w' => ∃ (v : Value) (rs : List Rc) (t : Int) (c : Bool), e = .returned (.tuple #[.agg #[v], .int .i64 t, .bool c]) ∧ RecsR (new w.heap.size) w' v rs ∧ Few 40 rs ∧ NC rs ∧ -1000 ≤ t ∧ t ≤ 1000 ∧ Fr w.heap.size [] w w' := by
  have F0 := hid ((Fr.refl w.heap.size [] w).alloc (.cells #[.slice none 0 0] 25))
  have hs0 : (w.alloc (.cells #[.slice none 0 0] 25)).heap.size = w.heap.size + 1 := by simp
  have HB := hid (show Bytes (w.alloc (.cells #[.slice none 0 0] 25)).heap.size (w.alloc (.cells #[.slice none 0 0] 25)) a n cap from hb.up F0.out (by simp))
  have B0 := hid (heap_alloc_new w (.cells #[.slice none 0 0] 25))
  clear hb
  go_enter Try.func29, Try.ntmps29
  go_wp2_with (first
    | (go_at_call 31; go_must (refine (l6Open_any HB.out hm).mono ?_; rw [hs0]; rintro e w1 ⟨rfl, hR1, fr1⟩; have B1 := hid (fr1.keep _ _ B0.out (.inr (by simp)))))
    | (go_at_call 32; go_must (refine (l92Shard_any (p := 0) hR1 (by omega)).mono ?_; rintro e w2 ⟨v, rs, q, rfl, hv, few, nc, hR2, hq, fr2⟩; obtain ⟨va, vcap, rfl, _, _⟩ := hv.shape; have HV := hid (hv.weak (K' := new w.heap.size) (fun b t _ hb => ⟨Nat.le_trans (Nat.le_trans (by simp) fr1.size) hb.1, hb.2⟩)); have B2 := hid (fr2.keep _ _ B1.out (.inr (by simp [otag]))); have c0 := free_of (o := 0) B2.out; have c1 := cell_of (o := 0) B2.out rfl; have G2 := hid (heap_alloc_new w2 (.cells #[.slice va rs.length vcap] 25)); have hlt2 := lt_of_get B2.out; have B2A := hid (heap_up B2.out (.cells #[.slice va rs.length vcap] 25)); clear hv))
    | (go_at_call 34; go_must (refine (l92Txn_any (hR2.alloc _) (by omega)).mono ?_; rintro e w3 ⟨t, q3, rfl, hR3, hq3, fr3, ht1, ht2⟩; have G3 := hid (fr3.keep _ _ G2.out (.inr (by simp [otag]))); have B3 := hid (fr3.keep _ _ B2A.out (.inr (by simp [otag]))); have d0 := cell_of (o := 0) G3.out rfl; have d1 := cell_of (o := 0) B3.out rfl; have d2 := free_of (o := 0) B3.out; have d3 := lt_of_get G3.out; have d4 := lt_of_get B3.out)))
  first
  | go_region_held3 (fun x => x.cell? ⟨w2.heap.size, 0, none⟩ = some (.slice va rs.length vcap))
      (first | exact d0 | exact e0 | exact cell_setne e0 (by dsimp only; omega))
      (first | (go_at_call 35; go_must (refine (pick_at (n := 3) (hR3.keep (Fr.refl _ [] w3).drew (by simp)) (by omega)).mono ?_; rintro e w4 ⟨k, rfl, hk, hR4, hf4⟩; have G4 := hid (hf4.keep _ _ G3.out (.inr (by simp [otag]))); have B4 := hid (hf4.keep _ _ B3.out (.inr (by simp [otag]))); have e0 := cell_of (o := 0) G4.out rfl; have e1 := cell_of (o := 0) B4.out rfl; have e2 := free_of (o := 0) B4.out; have e3 := lt_of_get G4.out; have e4 := lt_of_get B4.out)))
  all_goals go_wp2
  have g := cell_of (o := 0) (block_set B4.out 0 (.slice va rs.length vcap)) rfl
  have FT : Fr 0 [25] w4 (w4.setCell ⟨w.heap.size, 0, none⟩ (.slice va rs.length vcap)) := (Fr.refl 0 [25] w4).setOld (p := ⟨w.heap.size, 0, none⟩) B4.out (Nat.zero_le _) (by simp [otag]) _
  have FA : Fr 0 [95] w2 w4 := ((((Fr.refl 0 [95] w2).alloc (.cells #[.slice va rs.length vcap] 25)).trans (fr3.mono (Nat.zero_le _) (fun _ h => h))).drew).trans (hf4.mono (Nat.zero_le _) (fun _ h => h))
  have FW : Fr (w.alloc (.cells #[.slice none 0 0] 25)).heap.size [95] (w.alloc (.cells #[.slice none 0 0] 25)) w4 := by
    rw [hs0]
    exact (((((Fr.refl _ [95] _).trans fr1.nil).trans fr2).alloc (.cells #[.slice va rs.length vcap] 25)).trans fr3).drew.trans hf4
  exact bodyPost_ret (v := .tuple #[.agg #[.slice va rs.length vcap], .int .i64 t, .bool (decide (0 < k))]) (by simp [results, Try.results29, go_sem, g]) rfl
    ⟨_, rs, t, _, rfl, (HV.out.keep FA (Safe.new (by simp)) (Safe.new (by simp))).keep FT (Safe.new (by simp)) (Safe.new (by simp)), few, nc, by omega, by omega, (F0.out.trans FW.fresh).setNew (Nat.le_refl _) _⟩

end Go.Proofs.Ytkcpecihgldflaa
