/- The laws' comparisons, at equal data. -/
import Derived.Test.YtjgbconlpolddaaQPkPackS2
import Derived.Laws.StructEq
set_option linter.unusedVariables false
set_option linter.unusedSimpArgs false
namespace Go.Proofs.Ytjgbconlpolddaa
open Go.RowKit
set_option linter.unusedVariables false

set_option maxRecDepth 20000 in
set_option maxHeartbeats 1000000 in
theorem sameInts_eq (K K' : Nat → Bool → Prop) (v v' : Value) (l : List Int) (w : World) (h1 : IntsR K w v l) (h2 : IntsR K' w v' l) (hl : l.length ≤ 1000000000) :
    Calls Try.prog 45 #[v, v'] w fun e w' => e = .returned (.bool true) ∧ Fr w.heap.size [] w w' := by
  obtain ⟨a, cap, rfl, hc, hcell⟩ := h1.shape
  obtain ⟨a', cap', rfl, hc', hcell'⟩ := h2.shape
  have HC := hid hcell
  have HC' := hid hcell'
  clear h1 h2 hcell hcell'
  go_enter Try.func45, Try.ntmps45
  go_wp2
  go_loopw [5] (fun i wr => ∃ k : Nat, k ≤ l.length ∧ i = .int .i64 k ∧ Fr w.heap.size [] w wr) (fun i _ => l.length - (intOf i).toNat)
  case atStart => exact ⟨0, Nat.zero_le _, rfl, Fr.refl _ _ _⟩
  case round =>
    obtain ⟨k, hk, rfl, hfr⟩ := hrel
    by_cases hlt : k < l.length
    · rcases HC.out with h | ⟨b, off, rfl, hbs, hcell⟩
      · rw [h] at hlt; simp at hlt
      rcases HC'.out with h | ⟨b', off', rfl, hbs', hcell'⟩
      · rw [h] at hlt; simp at hlt
      have c0 := hfr.cell hbs (hcell k hlt)
      have d0 := hfr.cell hbs' (hcell' k hlt)
      have hki : (k : Int) < (l.length : Int) := by omega
      clear hcell hcell'
      go_wp2
      go_quiet (fail)
      go_wp2
      go_roundw
      case rel => exact ⟨k + 1, by omega, by go_num, hfr.drewN _⟩
      case measure => simp [intOf]; omega
    · obtain rfl : k = l.length := by omega
      go_wp2
      go_ret
      exact ⟨rfl, hfr⟩

set_option maxRecDepth 20000 in
set_option maxHeartbeats 1000000 in
theorem sameOps_eq (K K' : Nat → Bool → Prop) (v v' : Value) (l : List Opn) (w : World) (h1 : OpsR K w v l) (h2 : OpsR K' w v' l) (hl : l.length ≤ 1000000000) :
    Calls Try.prog 46 #[v, v'] w fun e w' => e = .returned (.bool true) ∧ Fr w.heap.size [] w w' := by
  obtain ⟨a, cap, rfl, hc, hcell⟩ := h1.shape
  obtain ⟨a', cap', rfl, hc', hcell'⟩ := h2.shape
  have HC := hid hcell
  have HC' := hid hcell'
  have hne : ∀ (w : World) (x y : Int) (z : ByteArray), (binOp .neq 109 (.agg #[.int .i64 x, .int .i64 y, .string z]) (.agg #[.int .i64 x, .int .i64 y, .string z])).run Try.prog w = .ok (.bool false) w := by
    intro w x y z
    rw [run_neq_struct, run_equalIn_struct w 9999 109 _ _ (by kernel_rfl) (by kernel_rfl)]
    simp [go_sem, Try.underlying109, Try.underlying3, Try.underlying9, Result.andThen]
  clear h1 h2 hcell hcell'
  go_enter Try.func46, Try.ntmps46
  go_wp2
  go_loopw [5] (fun i wr => ∃ k : Nat, k ≤ l.length ∧ i = .int .i64 k ∧ Fr w.heap.size [] w wr) (fun i _ => l.length - (intOf i).toNat)
  case atStart => exact ⟨0, Nat.zero_le _, rfl, Fr.refl _ _ _⟩
  case round =>
    obtain ⟨k, hk, rfl, hfr⟩ := hrel
    by_cases hlt : k < l.length
    · rcases HC.out with h | ⟨b, off, rfl, hbs, hcell⟩
      · rw [h] at hlt; simp at hlt
      rcases HC'.out with h | ⟨b', off', rfl, hbs', hcell'⟩
      · rw [h] at hlt; simp at hlt
      obtain ⟨x0, x1, x2⟩ := hcell k hlt
      obtain ⟨y0, y1, y2⟩ := hcell' k hlt
      have c0 := hfr.cell hbs x0
      have c1 := hfr.cell hbs x1
      have c2 := hfr.cell hbs x2
      have d0 := hfr.cell hbs' y0
      have d1 := hfr.cell hbs' y1
      have d2 := hfr.cell hbs' y2
      have hki : (k : Int) < (l.length : Int) := by omega
      clear hcell hcell' x0 x1 x2 y0 y1 y2
      go_wp2
      go_quiet (fail)
      go_wp2
      go_roundw
      case rel => exact ⟨k + 1, by omega, by go_num, hfr.drewN _⟩
      case measure => simp [intOf]; omega
    · obtain rfl : k = l.length := by omega
      go_wp2
      go_ret
      exact ⟨rfl, hfr⟩

/-- Entries that the laws may compare. -/
def EnsB (es : List En) : Prop := es.length ≤ 1000000000 ∧ ∀ e ∈ es, e.links.length ≤ 1000000000 ∧ e.ops.length ≤ 1000000000

set_option maxRecDepth 20000 in
set_option maxHeartbeats 4000000 in
theorem samePack_eq (K K' : Nat → Bool → Prop) (v v' : Value) (es : List En) (w : World) (h1 : EnsR K w v es) (h2 : EnsR K' w v' es) (hb : EnsB es) :
    Calls Try.prog 12 #[v, v'] w fun e w' => e = .returned (.bool true) ∧ Fr w.heap.size [] w w' := by
  obtain ⟨a, cap, rfl, hc, hcell⟩ := h1.shape
  obtain ⟨a', cap', rfl, hc', hcell'⟩ := h2.shape
  have HC := hid hcell
  have HC' := hid hcell'
  have HB := hid hb
  have hel := hb.1
  clear h1 h2 hcell hcell' hb
  go_enter Try.func12, Try.ntmps12
  go_wp2
  go_loopw [5] (fun i wr => ∃ k : Nat, k ≤ es.length ∧ i = .int .i64 k ∧ Fr w.heap.size [] w wr) (fun i _ => es.length - (intOf i).toNat)
  case atStart => exact ⟨0, Nat.zero_le _, rfl, Fr.refl _ _ _⟩
  case round =>
    obtain ⟨k, hk, rfl, hfr⟩ := hrel
    by_cases hlt : k < es.length
    · rcases HC.out with h | ⟨b, off, rfl, hbs, hcell⟩
      · rw [h] at hlt; simp at hlt
      rcases HC'.out with h | ⟨b', off', rfl, hbs', hcell'⟩
      · rw [h] at hlt; simp at hlt
      obtain ⟨u, p, x0, x1, x2, x3, hu, hp⟩ := hcell k hlt
      obtain ⟨u', p', y0, y1, y2, y3, hu', hp'⟩ := hcell' k hlt
      have c0 := hfr.cell hbs x0
      have c1 := hfr.cell hbs x1
      have c2 := hfr.cell hbs x2
      have c3 := hfr.cell hbs x3
      have d0 := hfr.cell hbs' y0
      have d1 := hfr.cell hbs' y1
      have d2 := hfr.cell hbs' y2
      have d3 := hfr.cell hbs' y3
      have HU := hid (hu.grow hfr)
      have HU' := hid (hu'.grow hfr)
      have HP := hid (hp.grow hfr)
      have HP' := hid (hp'.grow hfr)
      have hbr := Nat.lt_of_lt_of_le hbs hfr.size
      have hbr' := Nat.lt_of_lt_of_le hbs' hfr.size
      have hil := (HB.out.2 _ (List.getElem_mem hlt)).1
      have hol := (HB.out.2 _ (List.getElem_mem hlt)).2
      have hki : (k : Int) < (es.length : Int) := by omega
      clear hcell hcell' x0 x1 x2 x3 y0 y1 y2 y3 hu hu' hp hp'
      go_wp2
      go_region_held3 (fun x => x.cell? ⟨b, off + k * 4, none⟩ = some (.int .i64 es[k].kind) ∧ x.cell? ⟨b, off + k * 4 + 1, none⟩ = some u ∧ x.cell? ⟨b, off + k * 4 + 2, none⟩ = some (.int .i64 es[k].base) ∧ x.cell? ⟨b, off + k * 4 + 3, none⟩ = some p ∧
          x.cell? ⟨b', off' + k * 4, none⟩ = some (.int .i64 es[k].kind) ∧ x.cell? ⟨b', off' + k * 4 + 1, none⟩ = some u' ∧ x.cell? ⟨b', off' + k * 4 + 2, none⟩ = some (.int .i64 es[k].base) ∧ x.cell? ⟨b', off' + k * 4 + 3, none⟩ = some p')
        (first | exact ⟨c0, c1, c2, c3, d0, d1, d2, d3⟩ | exact ⟨fr1.cell hbr c0, fr1.cell hbr c1, fr1.cell hbr c2, fr1.cell hbr c3, fr1.cell hbr' d0, fr1.cell hbr' d1, fr1.cell hbr' d2, fr1.cell hbr' d3⟩ | exact ⟨fr2.cell hbr c0, fr2.cell hbr c1, fr2.cell hbr c2, fr2.cell hbr c3, fr2.cell hbr' d0, fr2.cell hbr' d1, fr2.cell hbr' d2, fr2.cell hbr' d3⟩)
        (first
          | (go_at_call 45; go_must (refine (sameInts_eq K K' u u' es[k].links _ (HU.out.grow (Fr.refl 0 [] wr).drew) (HU'.out.grow (Fr.refl 0 [] wr).drew) hil).mono ?_; rintro e w1 ⟨rfl, fr⟩; have fr1 : Fr wr.heap.size [] wr w1 := (Fr.refl wr.heap.size [] wr).drew.trans fr))
          | (go_at_call 46; go_must (refine (sameOps_eq K K' p p' es[k].ops _ (HP.out.grow fr1) (HP'.out.grow fr1) hol).mono ?_; rintro e w2 ⟨rfl, fr⟩; have fr2 : Fr wr.heap.size [] wr w2 := fr1.trans fr.nil)))
      go_wp2
      go_roundw
      case rel => exact ⟨k + 1, by omega, by go_num, hfr.trans fr2.nil⟩
      case measure => simp [intOf]; omega
    · obtain rfl : k = es.length := by omega
      go_wp2
      go_ret
      exact ⟨rfl, hfr⟩

end Go.Proofs.Ytjgbconlpolddaa
