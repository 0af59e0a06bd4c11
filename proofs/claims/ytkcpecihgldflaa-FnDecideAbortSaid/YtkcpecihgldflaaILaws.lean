/- The laws' comparisons, at equal data. -/
import Derived.Test.YtkcpecihgldflaaCopy
import Derived.Laws.StructEq
import Derived.Deep.DeepMust
namespace Go.Proofs.Ytkcpecihgldflaa
open Go.RowKit
set_option linter.unusedVariables false

set_option maxRecDepth 20000 in
set_option maxHeartbeats 1000000 in
theorem sameInts_eq (K K' : Nat → Bool → Prop) (v v' : Value) (l : List Int) (w : World) (h1 : IntsR K w v l) (h2 : IntsR K' w v' l) (hl : l.length ≤ 1000000000) :
    Calls Try.prog 14 #[v, v'] w fun e w' => e = .returned (.bool true) ∧ Fr w.heap.size [] w w' := by
  obtain ⟨a, cap, rfl, hc, hcell⟩ := h1.shape
  obtain ⟨a', cap', rfl, hc', hcell'⟩ := h2.shape
  have HC := hid hcell
  have HC' := hid hcell'
  clear h1 h2 hcell hcell'
  go_enter Try.func14, Try.ntmps14
  go_wp2
  go_loopw [5] (fun i wr => ∃ k : Nat, k ≤ l.length ∧ i = .int .i64 k ∧ Fr w.heap.size [] w wr) (fun i _ => l.length - (intOf i).toNat)
  case atStart => exact ⟨0, Nat.zero_le _, rfl, Fr.refl _ _ _⟩
  case round =>
    obtain ⟨k, hk, rfl, hfr⟩ := hrel
    by_cases hlt : k < l.length
    · rcases HC.out with rfl | ⟨b, off, rfl, hbs, hcell⟩
      · simp at hlt
      rcases HC'.out with h | ⟨b', off', rfl, hbs', hcell'⟩
      · rw [h] at hlt; simp at hlt
      have c0 := hfr.cell hbs (hcell k hlt)
      have d0 := hfr.cell hbs' (hcell' k hlt)
      have hki : (k : Int) < (l.length : Int) := by omega
      clear hcell hcell'
      go_wp2
      go_quiet (fail)
      go_wp2
      go_roundw
      case rel => exact ⟨k + 1, by omega, by go_num, hfr.drewN _⟩
      case measure => simp [intOf]; omega
    · obtain rfl : k = l.length := by omega
      go_wp2
      go_ret
      exact ⟨rfl, hfr⟩

set_option maxRecDepth 20000 in
set_option maxHeartbeats 1000000 in
theorem sameUpdates_eq (K K' : Nat → Bool → Prop) (v v' : Value) (l : List Upd) (w : World) (h1 : UpsR K w v l) (h2 : UpsR K' w v' l) (hl : l.length ≤ 1000000000) :
    Calls Try.prog 69 #[v, v'] w fun e w' => e = .returned (.bool true) ∧ Fr w.heap.size [] w w' := by
  obtain ⟨a, cap, rfl, hc, hcell⟩ := h1.shape
  obtain ⟨a', cap', rfl, hc', hcell'⟩ := h2.shape
  have HC := hid hcell
  have HC' := hid hcell'
  have hne : ∀ (w : World) (x y z : Int), (binOp .neq 39 (.agg #[.int .i64 x, .int .i64 y, .int .i64 z]) (.agg #[.int .i64 x, .int .i64 y, .int .i64 z])).run Try.prog w = .ok (.bool false) w := by
    intro w x y z
    rw [run_neq_struct, run_equalIn_struct w 9999 39 _ _ (by kernel_rfl) (by kernel_rfl)]
    simp [go_sem, Try.underlying39, Try.underlying3, Result.andThen]
  clear h1 h2 hcell hcell'
  go_enter Try.func69, Try.ntmps69
  go_wp2
  go_loopw [5] (fun i wr => ∃ k : Nat, k ≤ l.length ∧ i = .int .i64 k ∧ Fr w.heap.size [] w wr) (fun i _ => l.length - (intOf i).toNat)
  case atStart => exact ⟨0, Nat.zero_le _, rfl, Fr.refl _ _ _⟩
  case round =>
    obtain ⟨k, hk, rfl, hfr⟩ := hrel
    by_cases hlt : k < l.length
    · rcases HC.out with rfl | ⟨b, off, rfl, hbs, hcell⟩
      · simp at hlt
      rcases HC'.out with h | ⟨b', off', rfl, hbs', hcell'⟩
      · rw [h] at hlt; simp at hlt
      obtain ⟨x0, x1, x2⟩ := hcell k hlt
      obtain ⟨y0, y1, y2⟩ := hcell' k hlt
      have c0 := hfr.cell hbs x0
      have c1 := hfr.cell hbs x1
      have c2 := hfr.cell hbs x2
      have d0 := hfr.cell hbs' y0
      have d1 := hfr.cell hbs' y1
      have d2 := hfr.cell hbs' y2
      have hki : (k : Int) < (l.length : Int) := by omega
      clear hcell hcell' x0 x1 x2 y0 y1 y2
      go_wp2
      go_quiet (fail)
      go_wp2
      go_roundw
      case rel => exact ⟨k + 1, by omega, by go_num, hfr.drewN _⟩
      case measure => simp [intOf]; omega
    · obtain rfl : k = l.length := by omega
      go_wp2
      go_ret
      exact ⟨rfl, hfr⟩

set_option maxRecDepth 20000 in
set_option maxHeartbeats 1000000 in
theorem sameRecord_eq (K K' : Nat → Bool → Prop) (u u' : Value) (r : Rc) (w : World) (h1 : UpsR K w u r.ups) (h2 : UpsR K' w u' r.ups) (hl : r.ups.length ≤ 1000000000) :
    Calls Try.prog 48 #[.agg #[.int .i64 r.kind, .int .i64 r.txn, u], .agg #[.int .i64 r.kind, .int .i64 r.txn, u']] w fun e w' => e = .returned (.bool true) ∧ Fr w.heap.size [] w w' := by
  obtain ⟨a, cap, rfl, _, _⟩ := h1.shape
  obtain ⟨a', cap', rfl, _, _⟩ := h2.shape
  have H1 := hid h1
  have H2 := hid h2
  have F := hid (((Fr.refl 0 [] w).alloc (.cells #[.int .i64 r.kind, .int .i64 r.txn, .slice a r.ups.length cap] 72)).alloc (.cells #[.int .i64 r.kind, .int .i64 r.txn, .slice a' r.ups.length cap'] 72))
  clear h1 h2
  go_enter Try.func48, Try.ntmps48
  go_wp2_with (go_at_call 69; go_must (refine (sameUpdates_eq K K' _ _ _ _ (H1.out.grow F.out) (H2.out.grow F.out) hl).mono ?_; rintro e w1 ⟨rfl, fr1⟩))
  go_ret
  exact ⟨rfl, (((Fr.refl _ _ _).alloc _).alloc _).trans fr1.nil⟩

set_option maxRecDepth 20000 in
set_option maxHeartbeats 1000000 in
theorem sameShard_eq (K K' : Nat → Bool → Prop) (v v' : Value) (rs : List Rc) (w : World) (h1 : RecsR K w v rs) (h2 : RecsR K' w v' rs) (hs : Small rs) :
    Calls Try.prog 11 #[.agg #[v], .agg #[v']] w fun e w' => e = .returned (.bool true) ∧ Fr w.heap.size [] w w' := by
  obtain ⟨a, cap, rfl, hc, hcell⟩ := h1.shape
  obtain ⟨a', cap', rfl, hc', hcell'⟩ := h2.shape
  have HC := hid hcell
  have HC' := hid hcell'
  have HS := hid hs
  have hsl := hs.1
  clear h1 h2 hcell hcell' hs
  go_enter Try.func11, Try.ntmps11
  go_wp2
  go_loopw [5] (fun i wr => ∃ k : Nat, k ≤ rs.length ∧ i = .int .i64 k ∧ wr.heap[w.heap.size]? = some (.cells #[.slice a rs.length cap] 25 (0, 0)) ∧ wr.heap[w.heap.size + 1]? = some (.cells #[.slice a' rs.length cap'] 25 (0, 0)) ∧ Fr w.heap.size [] w wr) (fun i _ => rs.length - (intOf i).toNat)
  case atStart => exact ⟨0, Nat.zero_le _, rfl, heap_up (heap_alloc_new _ _) _, heap_alloc_eq _ _ (by simp), ((Fr.refl _ _ _).alloc _).alloc _⟩
  case round =>
    obtain ⟨k, hk, rfl, b0, b1, hfr⟩ := hrel
    have B0 := hid b0
    have B1 := hid b1
    have e0 := cell_of (o := 0) b0 rfl
    have e1 := cell_of (o := 0) b1 rfl
    have l0 := lt_of_get b0
    have l1 := lt_of_get b1
    clear b0 b1
    by_cases hlt : k < rs.length
    · rcases HC.out with rfl | ⟨b, off, rfl, hbs, hcell⟩
      · simp at hlt
      rcases HC'.out with h | ⟨b', off', rfl, hbs', hcell'⟩
      · rw [h] at hlt; simp at hlt
      obtain ⟨u, x0, x1, x2, hu⟩ := hcell k hlt
      obtain ⟨u', y0, y1, y2, hu'⟩ := hcell' k hlt
      have c0 := hfr.cell hbs x0
      have c1 := hfr.cell hbs x1
      have c2 := hfr.cell hbs x2
      have d0 := hfr.cell hbs' y0
      have d1 := hfr.cell hbs' y1
      have d2 := hfr.cell hbs' y2
      have HU := hid (hu.grow hfr)
      have HU' := hid (hu'.grow hfr)
      have hbr := Nat.lt_of_lt_of_le hbs hfr.size
      have hbr' := Nat.lt_of_lt_of_le hbs' hfr.size
      have hul := HS.out.2 _ (List.getElem_mem hlt)
      have hki : (k : Int) < (rs.length : Int) := by omega
      clear hcell hcell' x0 x1 x2 y0 y1 y2 hu hu'
      go_wp2
      go_region_held3 (fun x => x.cell? ⟨w.heap.size, 0, none⟩ = some (.slice (some ⟨b, off, none⟩) rs.length cap) ∧ x.cell? ⟨w.heap.size + 1, 0, none⟩ = some (.slice (some ⟨b', off', none⟩) rs.length cap') ∧
          x.cell? ⟨b, off + k * 3, none⟩ = some (.int .i64 rs[k].kind) ∧ x.cell? ⟨b, off + k * 3 + 1, none⟩ = some (.int .i64 rs[k].txn) ∧ x.cell? ⟨b, off + k * 3 + 2, none⟩ = some u ∧
          x.cell? ⟨b', off' + k * 3, none⟩ = some (.int .i64 rs[k].kind) ∧ x.cell? ⟨b', off' + k * 3 + 1, none⟩ = some (.int .i64 rs[k].txn) ∧ x.cell? ⟨b', off' + k * 3 + 2, none⟩ = some u')
        (first | exact ⟨e0, e1, c0, c1, c2, d0, d1, d2⟩ | exact ⟨fr1.cell l0 e0, fr1.cell l1 e1, fr1.cell hbr c0, fr1.cell hbr c1, fr1.cell hbr c2, fr1.cell hbr' d0, fr1.cell hbr' d1, fr1.cell hbr' d2⟩)
        (first
          | (go_at_call 48; go_must (refine (sameRecord_eq K K' u u' rs[k] _ (HU.out.grow (Fr.refl 0 [] wr).drew) (HU'.out.grow (Fr.refl 0 [] wr).drew) hul).mono ?_; rintro e w1 ⟨rfl, fr⟩; have fr1 : Fr wr.heap.size [] wr w1 := (Fr.refl wr.heap.size [] wr).drew.trans fr)))
      go_wp2
      go_roundw
      case rel => exact ⟨k + 1, by omega, by go_num, fr1.keep _ _ B0.out (.inr (by simp)), fr1.keep _ _ B1.out (.inr (by simp)), hfr.trans fr1.nil⟩
      case measure => simp [intOf]; omega
    · obtain rfl : k = rs.length := by omega
      go_wp2
      go_ret
      exact ⟨rfl, hfr⟩

end Go.Proofs.Ytkcpecihgldflaa
