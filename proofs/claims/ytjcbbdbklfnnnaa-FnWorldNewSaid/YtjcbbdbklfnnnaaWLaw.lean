import Derived.Test.YtjcbbdbklfnnnaaWWorld
import Derived.Deep.RegionHeld3
namespace Go.Proofs.Ytjcbbdbklfnnnaa
open Go.RowKit
set_option linter.unusedVariables false

set_option maxRecDepth 20000 in
set_option maxHeartbeats 1000000 in
theorem worldNew_walk (w : World) (a : Option Addr) (len cap : Nat) :
    Calls Try.prog 3 #[.slice a len cap] w fun e w' => e = .returned (.bool true) ∧ Fr w.heap.size [] w w' := by
  by_cases hlen : len ≤ 1048576
  · have g0 : ¬ (1048576 : Int) < (len : Int) := by omega
    have g1 : decide ((1048576 : Int) < (len : Int)) = false := by simp; omega
    have g2 : ((0 : Int) ≤ (len : Int)) := by omega
    go_enter Try.func3, Try.ntmps3
    go_wp2_with (go_at_call 4; go_must (refine (implNew_any _).mono ?_; rintro e w1 ⟨b, rfl, b1, hb, fr1⟩; have D0 := hid (heap_up b1 (.cells #[.slice none 0 0, .slice none 0 0, .slice (some ⟨b, 0, none⟩) 3 3, .slice none 0 0] 30)); have B0 := hid (heap_alloc_new w1 (.cells #[.slice none 0 0, .slice none 0 0, .slice (some ⟨b, 0, none⟩) 3 3, .slice none 0 0] 30)); have FW := fr1.alloc (.cells #[.slice none 0 0, .slice none 0 0, .slice (some ⟨b, 0, none⟩) 3 3, .slice none 0 0] 30); have q := w1.heap.size; clear b1))
    go_region_held3 (fun x => x.heap[w1.heap.size]? = some (.cells #[.slice none 0 0, .slice none 0 0, .slice (some ⟨b, 0, none⟩) 3 3, .slice none 0 0] 30 (0, 0)) ∧ x.cell? ⟨w1.heap.size, 0, none⟩ = some (.slice none 0 0) ∧ x.cell? ⟨w1.heap.size, 1, none⟩ = some (.slice none 0 0) ∧ x.cell? ⟨w1.heap.size, 2, none⟩ = some (.slice (some ⟨b, 0, none⟩) 3 3) ∧ x.cell? ⟨w1.heap.size, 3, none⟩ = some (.slice none 0 0) ∧ Fr w.heap.size [] w x)
      (first | exact ⟨B0.out, cell_of B0.out rfl, cell_of B0.out rfl, cell_of B0.out rfl, cell_of B0.out rfl, FW⟩ | exact ⟨B0.out, cell_of (o := 0) B0.out rfl, cell_of (o := 1) B0.out rfl, cell_of (o := 2) B0.out rfl, cell_of (o := 3) B0.out rfl, FW.drew⟩)
      (first
      | (go_at_call 6; go_must (refine (specNew_any _).mono ?_; rintro e w2 ⟨t, o, u, n, xs, rfl, own, hx, fr2⟩; have D0 := hid (fr2.keep _ _ D0.out (.inr (by simp))); have B0 := hid (fr2.keep _ _ B0.out (.inr (by simp))); have FW := FW.drew.trans fr2.nil; have OWN := hid own; clear own))
      | (go_at_call 5; go_must (refine (sameWorld_new _ b _ D0.out _ _ OWN.out hx _ _ _).mono ?_; rintro e w3 ⟨rfl, fr3⟩; have D0 := hid (fr3.keep _ _ D0.out (.inr (by simp))); have B0 := hid (fr3.keep _ _ B0.out (.inr (by simp))); have FW := FW.trans fr3.nil))
      | (go_at_call 7; go_must (refine (worldValid_new _ b D0.out).mono ?_; rintro e w4 ⟨rfl, fr4⟩; have D0 := hid (fr4.keep _ _ D0.out (.inr (by simp))); have B0 := hid (fr4.keep _ _ B0.out (.inr (by simp))); have FW := FW.trans fr4.nil)))
    all_goals go_wp2
    all_goals go_ret
    all_goals exact ⟨rfl, FW⟩
  · have g0 : (1048576 : Int) < (len : Int) := by omega
    have g1 : decide ((1048576 : Int) < (len : Int)) = true := by simp; omega
    go_enter Try.func3, Try.ntmps3
    go_wp2
    go_ret
    exact ⟨rfl, Fr.refl _ _ _⟩

end Go.Proofs.Ytjcbbdbklfnnnaa
