import Derived.Test.YtjcbbdbklfnnnaaWValid
import Derived.Deep.RegionHeld3
namespace Go.Proofs.Ytjcbbdbklfnnnaa
open Go.RowKit
set_option linter.unusedVariables false

set_option maxRecDepth 20000 in
set_option maxHeartbeats 1000000 in
theorem sameCoord_nil (w : World) (t o : Option Addr) :
    Calls Try.prog 8 #[.agg #[.slice none 0 0, .slice none 0 0], .agg #[.slice t 0 0, .slice o 0 0]] w fun e w' => e = .returned (.bool true) ∧ Fr w.heap.size [] w w' := by
  go_enter Try.func8, Try.ntmps8
  go_wp2_with (go_at_call 15; go_must (refine (sameInts_nil _ _ _ _ _).mono ?_; rintro e w1 ⟨rfl, fr1⟩; have b1 := fr1.keep _ _ (heap_up (heap_alloc_new w (.cells #[.slice none 0 0, .slice none 0 0] 26)) _) (.inr (by simp)); have b2 := fr1.keep _ _ (heap_alloc_eq (n := w.heap.size + 1) (w.alloc (.cells #[.slice none 0 0, .slice none 0 0] 26)) (.cells #[.slice t 0 0, .slice o 0 0] 26) (by simp)) (.inr (by simp)); have k0 := cell_of (o := 0) b1 rfl; have k1 := cell_of (o := 1) b1 rfl; have k2 := cell_of (o := 0) b2 rfl; have k3 := cell_of (o := 1) b2 rfl; clear b1 b2))
  refine wp_loop_rounds 1 ?_
  rw [rounds_succ]
  go_wp2
  go_ret
  exact ⟨rfl, (((Fr.refl _ _ _).alloc _).alloc _).trans fr1.nil⟩

set_option maxRecDepth 20000 in
set_option maxHeartbeats 1000000 in
theorem sameShards_nil (w : World) (b lo : Nat) (hb : w.heap[b]? = some (.cells #[.slice none 0 0, .slice none 0 0, .slice none 0 0] 41 (0, 0))) (u : Value) (xs : List Value)
    (hu : w.ownsRow lo 41 1 u 3 xs) (hx : ∀ x ∈ xs, ∃ a, x = .slice a 0 0) :
    Calls Try.prog 9 #[.slice (some ⟨b, 0, none⟩) 3 3, u] w fun e w' => e = .returned (.bool true) ∧ Fr w.heap.size [] w w' := by
  obtain ⟨g, cap, rfl, -, -, -⟩ := own_shape hu (by omega)
  have hl : xs.length = 3 := hu.1
  match xs, hl with
  | [x0, x1, x2], _ =>
    obtain ⟨a0, rfl⟩ := hx x0 (by simp)
    obtain ⟨a1, rfl⟩ := hx x1 (by simp)
    obtain ⟨a2, rfl⟩ := hx x2 (by simp)
    have c0 := cell_of (o := 0) hb rfl
    have c1 := cell_of (o := 1) hb rfl
    have c2 := cell_of (o := 2) hb rfl
    have e0 := hu.cellAt 0 (by omega)
    have e1 := hu.cellAt 1 (by omega)
    have e2 := hu.cellAt 2 (by omega)
    have lb := lt_of_get hb
    simp only [List.getElem?_cons_zero, List.getElem?_cons_succ] at e0 e1 e2
    have lg := World.block_lt_of_cell? _ _ e0
    clear hb hu hx
    dsimp only at lg
    go_enter Try.func9, Try.ntmps9
    go_wp2
    have FW := Fr.refl w.heap.size [] w
    refine wp_loop_rounds 4 ?_
    all_goals rw [rounds_succ]
    all_goals go_wp2
    all_goals go_region_held3 (fun x => x.cell? ⟨b, 0, none⟩ = some (.slice none 0 0) ∧ x.cell? ⟨b, 1, none⟩ = some (.slice none 0 0) ∧ x.cell? ⟨b, 2, none⟩ = some (.slice none 0 0) ∧ x.cell? ⟨g, 0, none⟩ = some (.slice a0 0 0) ∧ x.cell? ⟨g, 1, none⟩ = some (.slice a1 0 0) ∧ x.cell? ⟨g, 2, none⟩ = some (.slice a2 0 0) ∧ Fr w.heap.size [] w x)
      (first | exact ⟨c0, c1, c2, e0, e1, e2, FW⟩ | exact ⟨c0, c1, c2, e0, e1, e2, FW.drew⟩)
      (first | (go_at_call 17; go_must (refine (sameShard_nil _ _ _ _ _).mono ?_; rintro e w1 ⟨rfl, fr1⟩; have c0 := fr1.cell lb c0; have c1 := fr1.cell lb c1; have c2 := fr1.cell lb c2; have e0 := fr1.cell lg e0; have e1 := fr1.cell lg e1; have e2 := fr1.cell lg e2; have lb := Nat.lt_of_lt_of_le lb fr1.size; have lg := Nat.lt_of_lt_of_le lg fr1.size; have FW := FW.drew.trans fr1.nil)))
    all_goals go_wp2
    all_goals rw [rounds_succ]
    all_goals go_wp2
    all_goals go_region_held3 (fun x => x.cell? ⟨b, 0, none⟩ = some (.slice none 0 0) ∧ x.cell? ⟨b, 1, none⟩ = some (.slice none 0 0) ∧ x.cell? ⟨b, 2, none⟩ = some (.slice none 0 0) ∧ x.cell? ⟨g, 0, none⟩ = some (.slice a0 0 0) ∧ x.cell? ⟨g, 1, none⟩ = some (.slice a1 0 0) ∧ x.cell? ⟨g, 2, none⟩ = some (.slice a2 0 0) ∧ Fr w.heap.size [] w x)
      (first | exact ⟨c0, c1, c2, e0, e1, e2, FW⟩ | exact ⟨c0, c1, c2, e0, e1, e2, FW.drew⟩)
      (first | (go_at_call 17; go_must (refine (sameShard_nil _ _ _ _ _).mono ?_; rintro e w1 ⟨rfl, fr1⟩; have c0 := fr1.cell lb c0; have c1 := fr1.cell lb c1; have c2 := fr1.cell lb c2; have e0 := fr1.cell lg e0; have e1 := fr1.cell lg e1; have e2 := fr1.cell lg e2; have lb := Nat.lt_of_lt_of_le lb fr1.size; have lg := Nat.lt_of_lt_of_le lg fr1.size; have FW := FW.drew.trans fr1.nil)))
    all_goals go_wp2
    all_goals rw [rounds_succ]
    all_goals go_wp2
    all_goals go_region_held3 (fun x => x.cell? ⟨b, 0, none⟩ = some (.slice none 0 0) ∧ x.cell? ⟨b, 1, none⟩ = some (.slice none 0 0) ∧ x.cell? ⟨b, 2, none⟩ = some (.slice none 0 0) ∧ x.cell? ⟨g, 0, none⟩ = some (.slice a0 0 0) ∧ x.cell? ⟨g, 1, none⟩ = some (.slice a1 0 0) ∧ x.cell? ⟨g, 2, none⟩ = some (.slice a2 0 0) ∧ Fr w.heap.size [] w x)
      (first | exact ⟨c0, c1, c2, e0, e1, e2, FW⟩ | exact ⟨c0, c1, c2, e0, e1, e2, FW.drew⟩)
      (first | (go_at_call 17; go_must (refine (sameShard_nil _ _ _ _ _).mono ?_; rintro e w1 ⟨rfl, fr1⟩; have c0 := fr1.cell lb c0; have c1 := fr1.cell lb c1; have c2 := fr1.cell lb c2; have e0 := fr1.cell lg e0; have e1 := fr1.cell lg e1; have e2 := fr1.cell lg e2; have lb := Nat.lt_of_lt_of_le lb fr1.size; have lg := Nat.lt_of_lt_of_le lg fr1.size; have FW := FW.drew.trans fr1.nil)))
    all_goals go_wp2
    all_goals rw [rounds_succ]
    all_goals go_wp2
    all_goals go_ret
    all_goals exact ⟨rfl, FW⟩

set_option maxRecDepth 20000 in
set_option maxHeartbeats 1000000 in
theorem sameWorld_new (w : World) (b lo : Nat) (hb : w.heap[b]? = some (.cells #[.slice none 0 0, .slice none 0 0, .slice none 0 0] 41 (0, 0))) (u : Value) (xs : List Value)
    (hu : w.ownsRow lo 41 1 u 3 xs) (hx : ∀ x ∈ xs, ∃ a, x = .slice a 0 0) (t o n : Option Addr) :
    Calls Try.prog 5 #[.agg #[.slice none 0 0, .slice none 0 0, .slice (some ⟨b, 0, none⟩) 3 3, .slice none 0 0], .agg #[.slice t 0 0, .slice o 0 0, u, .slice n 0 0]] w fun e w' => e = .returned (.bool true) ∧ Fr w.heap.size [] w w' := by
  obtain ⟨g, cap, rfl, -, -, -⟩ := own_shape hu (by omega)
  have HB := hid hb
  have HU := hid hu
  clear hb hu
  go_enter Try.func5, Try.ntmps5
  go_wp2_with (first
   | (go_at_call 8; go_must (refine (sameCoord_nil _ _ _).mono ?_; rintro e w1 ⟨rfl, fr1⟩; have b1 := fr1.keep _ _ (heap_up (heap_alloc_new w (.cells #[.slice none 0 0, .slice none 0 0, .slice (some ⟨b, 0, none⟩) 3 3, .slice none 0 0] 30)) _) (.inr (by simp)); have b2 := fr1.keep _ _ (heap_alloc_eq (n := w.heap.size + 1) (w.alloc (.cells #[.slice none 0 0, .slice none 0 0, .slice (some ⟨b, 0, none⟩) 3 3, .slice none 0 0] 30)) (.cells #[.slice t 0 0, .slice o 0 0, .slice (some ⟨g, 0, none⟩) 3 cap, .slice n 0 0] 30) (by simp)) (.inr (by simp)); have k2 := cell_of (o := 2) b1 rfl; have k3 := cell_of (o := 3) b1 rfl; have m2 := cell_of (o := 2) b2 rfl; have m3 := cell_of (o := 3) b2 rfl; have E1 := hid b1; have E2 := hid b2; clear b1 b2; have D1 := hid (fr1.keep _ _ (heap_up (heap_up HB.out _) _) (.inr (by simp))); have U1 := hid (ownsRow_grow HU.out (((Fr.refl 0 [] _).alloc _).alloc _ |>.trans fr1.nil))))
   | (go_at_call 9; go_must (refine (sameShards_nil _ b lo D1.out _ _ U1.out hx).mono ?_; rintro e w2 ⟨rfl, fr2⟩; have b3 := fr2.keep _ _ E1.out (.inr (by simp)); have b4 := fr2.keep _ _ E2.out (.inr (by simp)); clear k2 k3 m2 m3; have k3 := cell_of (o := 3) b3 rfl; have m3 := cell_of (o := 3) b4 rfl; clear b3 b4)))
  refine wp_loop_rounds 1 ?_
  rw [rounds_succ]
  go_wp2
  go_ret
  exact ⟨rfl, ((((Fr.refl _ _ _).alloc _).alloc _).trans fr1.nil).trans fr2.nil⟩

end Go.Proofs.Ytjcbbdbklfnnnaa
