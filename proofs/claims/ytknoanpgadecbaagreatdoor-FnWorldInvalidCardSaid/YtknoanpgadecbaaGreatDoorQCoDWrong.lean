/- The draw of a run that may be spoilt: DrawWorldValid. -/
import Derived.Test.YtknoanpgadecbaaGreatDoorQCoWrong2
import Derived.Test.YtknoanpgadecbaaGreatDoorQM6
set_option linter.unusedVariables false
set_option linter.unusedSimpArgs false
namespace Go.Proofs.YtknoanpgadecbaaGreatDoor
open Go.RowKit
set_option linter.unusedVariables false

set_option maxRecDepth 20000 in
set_option maxHeartbeats 8000000 in
theorem drawWorldValid_any {w : World} {a : Option Addr} {n cap : Nat} (hb : Bytes w.heap.size w a n cap) (hm : cap ≤ maxLen) :
  Calls Tryz.prog 4 #[.slice a n cap] w fun e w' => ∃ v1 v2 v3 v4 d, e = .returned (.agg #[v1, v2, v3, v4]) ∧ WdR 0 w' v1 v2 v3 v4 d ∧ WdB d ∧ Fr w.heap.size [] w w' := by
 have F0 := hid ((Fr.refl w.heap.size [] w).alloc (.cells #[.slice none 0 0, .slice none 0 0, .slice none 0 0, .slice none 0 0] 30))
 have hsz0 : (w.alloc (.cells #[.slice none 0 0, .slice none 0 0, .slice none 0 0, .slice none 0 0] 30)).heap.size = w.heap.size + 1 := by simp
 have HB := hid (show Bytes (w.alloc (.cells #[.slice none 0 0, .slice none 0 0, .slice none 0 0, .slice none 0 0] 30)).heap.size (w.alloc (.cells #[.slice none 0 0, .slice none 0 0, .slice none 0 0, .slice none 0 0] 30)) a n cap from hb.up F0.out (by simp))
 have B0 := hid (heap_alloc_new w (.cells #[.slice none 0 0, .slice none 0 0, .slice none 0 0, .slice none 0 0] 30))
 clear hb
 go_enter Tryz.func4, Tryz.ntmps4
 go_wp2_with (first
  | (go_at_call 12; go_must (refine (l6Open_any HB.out hm).mono ?_; rw [hsz0]; rintro e w0 ⟨rfl, hR0, fr0⟩; have R0 := hid (fr0.keep _ _ B0.out (.inr (by simp))); have FA := hid (F0.out.trans fr0.nil); have hl0 := hR0.lt; clear fr0))
  | (go_at_call 11; go_must (refine (l92Wrong_any hR0 (by omega)).mono ?_; rintro e w3 ⟨u1, u2, u3, u4, d3, q3, rfl, wd, wb, hR3, hq3, hf3⟩; obtain ⟨ta, tc, rfl, _, _⟩ := wd.1.1.shape; obtain ⟨oa, oc, rfl, _, _⟩ := wd.1.2.shape; obtain ⟨sa, sc, rfl, _, _⟩ := wd.2.1.shape; obtain ⟨na, nc, rfl, _, _⟩ := wd.2.2.shape; have WD := hid (WdR.lower wd (Nat.zero_le _)); have WB := hid wb; have F3 := hid hf3; have R3 := hid (hf3.keep _ _ R0.out (.inr (by simp [otag]))); have rf := fun o => free_of (o := o) R3.out; have rl := lt_of_get R3.out; have r0 := cell_of (o := 0) R3.out rfl; have r1 := cell_of (o := 1) R3.out rfl; have r2 := cell_of (o := 2) R3.out rfl; have r3 := cell_of (o := 3) R3.out rfl; clear wd wb hf3)))
 have h4 := box4 (u1 := .slice ta d3.co.txns.length tc) (u2 := .slice oa d3.co.order.length oc) (u3 := .slice sa d3.shards.length sc) (u4 := .slice na d3.net.length nc) R3.out
 have g0 := cell_of (o := 0) h4 rfl
 have g1 := cell_of (o := 1) h4 rfl
 have g2 := cell_of (o := 2) h4 rfl
 have g3 := cell_of (o := 3) h4 rfl
 have FT := box4_fr (u1 := .slice ta d3.co.txns.length tc) (u2 := .slice oa d3.co.order.length oc) (u3 := .slice sa d3.shards.length sc) (u4 := .slice na d3.net.length nc) R3.out
 have FB : Fr w.heap.size [] w w3 := Fr.fresh (T := [86]) ((FA.out.mono (Nat.le_refl _) (fun _ h => by simp at h)).trans (F3.out.mono (by omega) (fun _ h => h)))
 exact bodyPost_ret (v := .agg #[.slice ta d3.co.txns.length tc, .slice oa d3.co.order.length oc, .slice sa d3.shards.length sc, .slice na d3.net.length nc]) (by simp [results, Tryz.results4, go_sem, g0, g1, g2, g3]) rfl
  ⟨_, _, _, _, d3, rfl, WD.out.tk FT (by simp [Apt]), WB.out, box4_new FB (Nat.le_refl _)⟩

end Go.Proofs.YtknoanpgadecbaaGreatDoor
