/- Lists of objects that the laws compare. -/
import Derived.Test.YtjgbconlpolddaaPkSame
import Derived.Test.YtjgbconlpolddaaPkList
namespace Go.Proofs.Ytjgbconlpolddaa
open Go.RowKit
set_option linter.unusedVariables false

set_option maxRecDepth 20000 in
set_option maxHeartbeats 4000000 in
theorem sameObject_eq (K K' : Nat → Bool → Prop) (v v' : Value) (o : Ob) (w : World) (h1 : IntsR K w v o.links) (h2 : IntsR K' w v' o.links) (hl : o.links.length ≤ 1000000000) :
    Calls Try.prog 22 #[.agg #[.int .i64 o.kind, v, .string (tx o.text)], .agg #[.int .i64 o.kind, v', .string (tx o.text)]] w fun e w' => e = .returned (.bool true) ∧ Fr w.heap.size [] w w' := by
  obtain ⟨a, cap, rfl, hc, -⟩ := h1.shape
  obtain ⟨a', cap', rfl, hc', -⟩ := h2.shape
  have H1 := hid h1
  have H2 := hid h2
  have FA := hid (((Fr.refl w.heap.size [] w).alloc (.cells #[.int .i64 o.kind, .slice a o.links.length cap, .string (tx o.text)] 40)).alloc (.cells #[.int .i64 o.kind, .slice a' o.links.length cap', .string (tx o.text)] 40))
  clear h1 h2
  go_enter Try.func22, Try.ntmps22
  go_wp2_with (go_at_call 45; go_must (refine (sameInts_eq K K' _ _ o.links _ (H1.out.grow FA.out) (H2.out.grow FA.out) hl).mono ?_; rintro e w1 ⟨rfl, fr⟩; have F1 := hid (FA.out.trans fr.nil); clear fr))
  go_ret
  exact ⟨rfl, F1.out⟩

set_option maxRecDepth 20000 in
set_option maxHeartbeats 4000000 in
theorem sameObjects_eq (K K' : Nat → Bool → Prop) (v v' : Value) (os : List Ob) (w : World) (h1 : ObsR K w v os) (h2 : ObsR K' w v' os) (hb : ObsB os) :
    Calls Try.prog 15 #[v, v'] w fun e w' => e = .returned (.bool true) ∧ Fr w.heap.size [] w w' := by
  obtain ⟨a, cap, rfl, hc, hcell⟩ := h1.shape
  obtain ⟨a', cap', rfl, hc', hcell'⟩ := h2.shape
  have HC := hid hcell
  have HC' := hid hcell'
  have HB := hid hb
  have hel := hb.1
  clear h1 h2 hcell hcell' hb
  go_enter Try.func15, Try.ntmps15
  go_wp2
  go_loopw [5] (fun i wr => ∃ k : Nat, k ≤ os.length ∧ i = .int .i64 k ∧ Fr w.heap.size [] w wr) (fun i _ => os.length - (intOf i).toNat)
  case atStart => exact ⟨0, Nat.zero_le _, rfl, Fr.refl _ _ _⟩
  case round =>
    obtain ⟨k, hk, rfl, hfr⟩ := hrel
    by_cases hlt : k < os.length
    · rcases HC.out with h | ⟨b, off, rfl, hbs, hcell⟩
      · rw [h] at hlt; simp at hlt
      rcases HC'.out with h | ⟨b', off', rfl, hbs', hcell'⟩
      · rw [h] at hlt; simp at hlt
      obtain ⟨u, x0, x1, x2, hu⟩ := hcell k hlt
      obtain ⟨u', y0, y1, y2, hu'⟩ := hcell' k hlt
      have c0 := hfr.cell hbs x0
      have c1 := hfr.cell hbs x1
      have c2 := hfr.cell hbs x2
      have d0 := hfr.cell hbs' y0
      have d1 := hfr.cell hbs' y1
      have d2 := hfr.cell hbs' y2
      have HU := hid (hu.grow hfr)
      have HU' := hid (hu'.grow hfr)
      have hbr := Nat.lt_of_lt_of_le hbs hfr.size
      have hbr' := Nat.lt_of_lt_of_le hbs' hfr.size
      have hil := HB.out.2 _ (List.getElem_mem hlt)
      have hki : (k : Int) < (os.length : Int) := by omega
      clear hcell hcell' x0 x1 x2 y0 y1 y2 hu hu'
      go_wp2
      go_region_held3 (fun x => x.cell? ⟨b, off + k * 3, none⟩ = some (.int .i64 os[k].kind) ∧ x.cell? ⟨b, off + k * 3 + 1, none⟩ = some u ∧ x.cell? ⟨b, off + k * 3 + 2, none⟩ = some (.string (tx os[k].text)) ∧
          x.cell? ⟨b', off' + k * 3, none⟩ = some (.int .i64 os[k].kind) ∧ x.cell? ⟨b', off' + k * 3 + 1, none⟩ = some u' ∧ x.cell? ⟨b', off' + k * 3 + 2, none⟩ = some (.string (tx os[k].text)))
        (first | exact ⟨c0, c1, c2, d0, d1, d2⟩ | exact ⟨fr1.cell hbr c0, fr1.cell hbr c1, fr1.cell hbr c2, fr1.cell hbr' d0, fr1.cell hbr' d1, fr1.cell hbr' d2⟩)
        (first
          | (go_at_call 22; go_must (refine (sameObject_eq K K' u u' os[k] _ (HU.out.grow (Fr.refl 0 [] wr).drew) (HU'.out.grow (Fr.refl 0 [] wr).drew) hil).mono ?_; rintro e w1 ⟨rfl, fr⟩; have fr1 : Fr wr.heap.size [] wr w1 := (Fr.refl wr.heap.size [] wr).drew.trans fr)))
      go_wp2
      go_roundw
      case rel => exact ⟨k + 1, by omega, by go_num, hfr.trans fr1.nil⟩
      case measure => simp [intOf]; omega
    · obtain rfl : k = os.length := by omega
      go_wp2
      go_ret
      exact ⟨rfl, hfr⟩

end Go.Proofs.Ytjgbconlpolddaa
