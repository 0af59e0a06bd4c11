/- The exact laws' comparisons, at equal data. -/
import Derived.Test.YtjgbconlpolddaaQExTo2
set_option linter.unusedVariables false
set_option linter.unusedSimpArgs false
namespace Go.Proofs.Ytjgbconlpolddaa
open Go.RowKit
set_option linter.unusedVariables false

set_option maxRecDepth 20000 in
set_option maxHeartbeats 1000000 in
theorem eqInts_any (K K' : Nat → Bool → Prop) (v v' : Value) (l : List Int) (w : World) (h1 : IntsR K w v l) (h2 : IntsR K' w v' l) (hl : l.length ≤ 1000000000) :
    Calls Try.prog 98 #[v, v'] w fun e w' => e = .returned (.bool true) ∧ Fr w.heap.size [] w w' := by
  obtain ⟨a, cap, rfl, hc, hcell⟩ := h1.shape
  obtain ⟨a', cap', rfl, hc', hcell'⟩ := h2.shape
  have HC := hid hcell
  have HC' := hid hcell'
  clear h1 h2 hcell hcell'
  go_enter Try.func98, Try.ntmps98
  go_wp2
  go_loopw [5] (fun i wr => ∃ k : Nat, k ≤ l.length ∧ i = .int .i64 k ∧ Fr w.heap.size [] w wr) (fun i _ => l.length - (intOf i).toNat)
  case atStart => exact ⟨0, Nat.zero_le _, rfl, Fr.refl _ _ _⟩
  case round =>
    obtain ⟨k, hk, rfl, hfr⟩ := hrel
    by_cases hlt : k < l.length
    · rcases HC.out with h | ⟨b, off, rfl, hbs, hcell⟩
      · rw [h] at hlt; simp at hlt
      rcases HC'.out with h | ⟨b', off', rfl, hbs', hcell'⟩
      · rw [h] at hlt; simp at hlt
      have c0 := hfr.cell hbs (hcell k hlt)
      have d0 := hfr.cell hbs' (hcell' k hlt)
      have hki : (k : Int) < (l.length : Int) := by omega
      clear hcell hcell'
      go_wp2
      go_quiet (fail)
      go_wp2
      go_roundw
      case rel => exact ⟨k + 1, by omega, by go_num, hfr.drewN _⟩
      case measure => simp [intOf]; omega
    · obtain rfl : k = l.length := by omega
      go_wp2
      go_ret
      exact ⟨rfl, hfr⟩

set_option maxRecDepth 20000 in
set_option maxHeartbeats 4000000 in
theorem eqObject_any (K K' : Nat → Bool → Prop) (v v' : Value) (o : Ob) (w : World) (h1 : IntsR K w v o.links) (h2 : IntsR K' w v' o.links) (hl : o.links.length ≤ 1000000000) :
    Calls Try.prog 65 #[.agg #[.int .i64 o.kind, v, .string (tx o.text)], .agg #[.int .i64 o.kind, v', .string (tx o.text)]] w fun e w' => e = .returned (.bool true) ∧ Fr w.heap.size [] w w' := by
  obtain ⟨a, cap, rfl, hc, -⟩ := h1.shape
  obtain ⟨a', cap', rfl, hc', -⟩ := h2.shape
  have FA := hid (((Fr.refl w.heap.size [] w).alloc (.cells #[.int .i64 o.kind, .slice a o.links.length cap, .string (tx o.text)] 40)).alloc (.cells #[.int .i64 o.kind, .slice a' o.links.length cap', .string (tx o.text)] 40))
  have BB := hid (twoBoxes w (.cells #[.int .i64 o.kind, .slice a o.links.length cap, .string (tx o.text)] 40) (.cells #[.int .i64 o.kind, .slice a' o.links.length cap', .string (tx o.text)] 40))
  have H1 := hid (h1.grow FA.out)
  have H2 := hid (h2.grow FA.out)
  clear h1 h2
  go_enter Try.func65, Try.ntmps65
  go_wp2_with (go_at_call 98; go_must (refine (eqInts_any K K' _ _ o.links _ H1.out H2.out hl).mono ?_; rintro e w1 ⟨rfl, fr⟩; have F1 := hid (FA.out.trans fr.nil); have BX := hid (fr.keep _ _ BB.out.1 (.inr (by simp))); have BY := hid (fr.keep _ _ BB.out.2 (.inr (by simp))); have x2 := cell_of (o := 2) BX.out rfl; have y2 := cell_of (o := 2) BY.out rfl; clear fr))
  go_ret
  exact ⟨rfl, F1.out⟩

set_option maxRecDepth 20000 in
set_option maxHeartbeats 1000000 in
theorem eqOp_any (o : Opn) (w : World) :
    Calls Try.prog 113 #[.agg #[.int .i64 o.pos, .int .i64 o.size, .string (tx o.text)], .agg #[.int .i64 o.pos, .int .i64 o.size, .string (tx o.text)]] w fun e w' => e = .returned (.bool true) ∧ Fr w.heap.size [] w w' := by
  go_enter Try.func113, Try.ntmps113
  go_wp2
  go_ret
  exact ⟨rfl, ((Fr.refl w.heap.size [] w).alloc _).alloc _⟩

set_option maxRecDepth 20000 in
set_option maxHeartbeats 4000000 in
theorem eqObjects_any (K K' : Nat → Bool → Prop) (v v' : Value) (os : List Ob) (w : World) (h1 : ObsR K w v os) (h2 : ObsR K' w v' os) (hl : os.length ≤ 1000000000) (hb : ∀ o ∈ os, o.links.length ≤ 1000000000) :
    Calls Try.prog 28 #[v, v'] w fun e w' => e = .returned (.bool true) ∧ Fr w.heap.size [] w w' := by
  obtain ⟨a, cap, rfl, hc, hcell⟩ := h1.shape
  obtain ⟨a', cap', rfl, hc', hcell'⟩ := h2.shape
  have HC := hid hcell
  have HC' := hid hcell'
  have HB := hid hb
  clear h1 h2 hcell hcell' hb
  go_enter Try.func28, Try.ntmps28
  go_wp2
  go_loopw [5] (fun i wr => ∃ k : Nat, k ≤ os.length ∧ i = .int .i64 k ∧ Fr w.heap.size [] w wr) (fun i _ => os.length - (intOf i).toNat)
  case atStart => exact ⟨0, Nat.zero_le _, rfl, Fr.refl _ _ _⟩
  case round =>
    obtain ⟨k, hk, rfl, hfr⟩ := hrel
    by_cases hlt : k < os.length
    · rcases HC.out with h | ⟨b, off, rfl, hbs, hcell⟩
      · rw [h] at hlt; simp at hlt
      rcases HC'.out with h | ⟨b', off', rfl, hbs', hcell'⟩
      · rw [h] at hlt; simp at hlt
      obtain ⟨u, x0, x1, x2, hu⟩ := hcell k hlt
      obtain ⟨u', y0, y1, y2, hu'⟩ := hcell' k hlt
      obtain ⟨ua, ucap, rfl, _, _⟩ := hu.shape
      obtain ⟨ua', ucap', rfl, _, _⟩ := hu'.shape
      have c0 := hfr.cell hbs x0
      have c1 := hfr.cell hbs x1
      have c2 := hfr.cell hbs x2
      have d0 := hfr.cell hbs' y0
      have d1 := hfr.cell hbs' y1
      have d2 := hfr.cell hbs' y2
      have HU := hid (hu.grow hfr)
      have HU' := hid (hu'.grow hfr)
      have hil := HB.out _ (List.getElem_mem hlt)
      clear x0 x1 x2 y0 y1 y2 hu hu'
      have hbr := Nat.lt_of_lt_of_le hbs hfr.size
      have hbr' := Nat.lt_of_lt_of_le hbs' hfr.size
      have hki : (k : Int) < (os.length : Int) := by omega
      clear hcell hcell'
      generalize os[k] = o at *
      go_wp2
      go_region_held3 (fun x => x.cell? ⟨b, off + k * 3, none⟩ = some (.int .i64 o.kind) ∧ x.cell? ⟨b, off + k * 3 + 1, none⟩ = some (.slice ua o.links.length ucap) ∧ x.cell? ⟨b, off + k * 3 + 2, none⟩ = some (.string (tx o.text)) ∧ x.cell? ⟨b', off' + k * 3, none⟩ = some (.int .i64 o.kind) ∧ x.cell? ⟨b', off' + k * 3 + 1, none⟩ = some (.slice ua' o.links.length ucap') ∧ x.cell? ⟨b', off' + k * 3 + 2, none⟩ = some (.string (tx o.text)))
        (first | exact ⟨c0, c1, c2, d0, d1, d2⟩ | exact ⟨fr1.cell hbr c0, fr1.cell hbr c1, fr1.cell hbr c2, fr1.cell hbr' d0, fr1.cell hbr' d1, fr1.cell hbr' d2⟩)
        (first
          | (go_at_call 65; go_must (refine (eqObject_any K K' _ _ o _ (HU.out.grow (Fr.refl 0 [] wr).drew) (HU'.out.grow (Fr.refl 0 [] wr).drew) hil).mono ?_; rintro e w1 ⟨rfl, fr⟩; have fr1 : Fr wr.heap.size [] wr w1 := (Fr.refl wr.heap.size [] wr).drew.trans fr)))
      go_wp2
      go_roundw
      case rel => exact ⟨k + 1, by omega, by go_num, hfr.trans fr1.nil⟩
      case measure => simp [intOf]; omega
    · obtain rfl : k = os.length := by omega
      go_wp2
      go_ret
      exact ⟨rfl, hfr⟩

set_option maxRecDepth 20000 in
set_option maxHeartbeats 4000000 in
theorem eqOps_any (K K' : Nat → Bool → Prop) (v v' : Value) (os : List Opn) (w : World) (h1 : OpsR K w v os) (h2 : OpsR K' w v' os) (hl : os.length ≤ 1000000000) :
    Calls Try.prog 99 #[v, v'] w fun e w' => e = .returned (.bool true) ∧ Fr w.heap.size [] w w' := by
  obtain ⟨a, cap, rfl, hc, hcell⟩ := h1.shape
  obtain ⟨a', cap', rfl, hc', hcell'⟩ := h2.shape
  have HC := hid hcell
  have HC' := hid hcell'
  skip
  clear h1 h2 hcell hcell'
  go_enter Try.func99, Try.ntmps99
  go_wp2
  go_loopw [5] (fun i wr => ∃ k : Nat, k ≤ os.length ∧ i = .int .i64 k ∧ Fr w.heap.size [] w wr) (fun i _ => os.length - (intOf i).toNat)
  case atStart => exact ⟨0, Nat.zero_le _, rfl, Fr.refl _ _ _⟩
  case round =>
    obtain ⟨k, hk, rfl, hfr⟩ := hrel
    by_cases hlt : k < os.length
    · rcases HC.out with h | ⟨b, off, rfl, hbs, hcell⟩
      · rw [h] at hlt; simp at hlt
      rcases HC'.out with h | ⟨b', off', rfl, hbs', hcell'⟩
      · rw [h] at hlt; simp at hlt
      obtain ⟨x0, x1, x2⟩ := hcell k hlt
      obtain ⟨y0, y1, y2⟩ := hcell' k hlt
      have c0 := hfr.cell hbs x0
      have c1 := hfr.cell hbs x1
      have c2 := hfr.cell hbs x2
      have d0 := hfr.cell hbs' y0
      have d1 := hfr.cell hbs' y1
      have d2 := hfr.cell hbs' y2
      clear x0 x1 x2 y0 y1 y2
      have hbr := Nat.lt_of_lt_of_le hbs hfr.size
      have hbr' := Nat.lt_of_lt_of_le hbs' hfr.size
      have hki : (k : Int) < (os.length : Int) := by omega
      clear hcell hcell'
      generalize os[k] = o at *
      go_wp2
      go_region_held3 (fun x => x.cell? ⟨b, off + k * 3, none⟩ = some (.int .i64 o.pos) ∧ x.cell? ⟨b, off + k * 3 + 1, none⟩ = some (.int .i64 o.size) ∧ x.cell? ⟨b, off + k * 3 + 2, none⟩ = some (.string (tx o.text)) ∧ x.cell? ⟨b', off' + k * 3, none⟩ = some (.int .i64 o.pos) ∧ x.cell? ⟨b', off' + k * 3 + 1, none⟩ = some (.int .i64 o.size) ∧ x.cell? ⟨b', off' + k * 3 + 2, none⟩ = some (.string (tx o.text)))
        (first | exact ⟨c0, c1, c2, d0, d1, d2⟩ | exact ⟨fr1.cell hbr c0, fr1.cell hbr c1, fr1.cell hbr c2, fr1.cell hbr' d0, fr1.cell hbr' d1, fr1.cell hbr' d2⟩)
        (first
          | (go_at_call 113; go_must (refine (eqOp_any o _).mono ?_; rintro e w1 ⟨rfl, fr⟩; have fr1 : Fr wr.heap.size [] wr w1 := (Fr.refl wr.heap.size [] wr).drew.trans fr)))
      go_wp2
      go_roundw
      case rel => exact ⟨k + 1, by omega, by go_num, hfr.trans fr1.nil⟩
      case measure => simp [intOf]; omega
    · obtain rfl : k = os.length := by omega
      go_wp2
      go_ret
      exact ⟨rfl, hfr⟩

set_option maxRecDepth 20000 in
set_option maxHeartbeats 4000000 in
theorem eqEntry_any (K K' : Nat → Bool → Prop) (u p u' p' : Value) (o : En) (w : World) (h1 : IntsR K w u o.links) (h2 : IntsR K' w u' o.links) (g1 : OpsR K w p o.ops) (g2 : OpsR K' w p' o.ops) (hl : o.links.length ≤ 1000000000) (hpl : o.ops.length ≤ 1000000000) :
    Calls Try.prog 66 #[.agg #[.int .i64 o.kind, u, .int .i64 o.base, p], .agg #[.int .i64 o.kind, u', .int .i64 o.base, p']] w fun e w' => e = .returned (.bool true) ∧ Fr w.heap.size [] w w' := by
  obtain ⟨a, cap, rfl, hc, -⟩ := h1.shape
  obtain ⟨a', cap', rfl, hc', -⟩ := h2.shape
  obtain ⟨b, bcap, rfl, hb, -⟩ := g1.shape
  obtain ⟨b', bcap', rfl, hb', -⟩ := g2.shape
  have FA := hid (((Fr.refl w.heap.size [] w).alloc (.cells #[.int .i64 o.kind, .slice a o.links.length cap, .int .i64 o.base, .slice b o.ops.length bcap] 32)).alloc (.cells #[.int .i64 o.kind, .slice a' o.links.length cap', .int .i64 o.base, .slice b' o.ops.length bcap'] 32))
  have BB := hid (twoBoxes w (.cells #[.int .i64 o.kind, .slice a o.links.length cap, .int .i64 o.base, .slice b o.ops.length bcap] 32) (.cells #[.int .i64 o.kind, .slice a' o.links.length cap', .int .i64 o.base, .slice b' o.ops.length bcap'] 32))
  have H1 := hid (h1.grow FA.out)
  have H2 := hid (h2.grow FA.out)
  have G1 := hid (g1.grow FA.out)
  have G2 := hid (g2.grow FA.out)
  clear h1 h2 g1 g2
  go_enter Try.func66, Try.ntmps66
  go_wp2_with (first
    | (go_at_call 98; go_must (refine (eqInts_any K K' _ _ o.links _ H1.out H2.out hl).mono ?_; rintro e w1 ⟨rfl, fr⟩; have F1 := hid (FA.out.trans fr.nil); have BX := hid (fr.keep _ _ BB.out.1 (.inr (by simp))); have BY := hid (fr.keep _ _ BB.out.2 (.inr (by simp))); have x2 := cell_of (o := 2) BX.out rfl; have y2 := cell_of (o := 2) BY.out rfl; have x3 := cell_of (o := 3) BX.out rfl; have y3 := cell_of (o := 3) BY.out rfl; have G1 := hid (G1.out.grow fr); have G2 := hid (G2.out.grow fr); clear fr))
    | (go_at_call 99; go_must (refine (eqOps_any K K' _ _ o.ops _ G1.out G2.out hpl).mono ?_; rintro e w2 ⟨rfl, fr⟩; have F2 := hid (F1.out.trans fr.nil); clear fr)))
  go_ret
  exact ⟨rfl, F2.out⟩

set_option maxRecDepth 20000 in
set_option maxHeartbeats 4000000 in
theorem eqEntries_any (K K' : Nat → Bool → Prop) (v v' : Value) (os : List En) (w : World) (h1 : EnsR K w v os) (h2 : EnsR K' w v' os) (hl : os.length ≤ 1000000000) (hb : ∀ o ∈ os, o.links.length ≤ 1000000000 ∧ o.ops.length ≤ 1000000000) :
    Calls Try.prog 29 #[v, v'] w fun e w' => e = .returned (.bool true) ∧ Fr w.heap.size [] w w' := by
  obtain ⟨a, cap, rfl, hc, hcell⟩ := h1.shape
  obtain ⟨a', cap', rfl, hc', hcell'⟩ := h2.shape
  have HC := hid hcell
  have HC' := hid hcell'
  have HB := hid hb
  clear h1 h2 hcell hcell' hb
  go_enter Try.func29, Try.ntmps29
  go_wp2
  go_loopw [5] (fun i wr => ∃ k : Nat, k ≤ os.length ∧ i = .int .i64 k ∧ Fr w.heap.size [] w wr) (fun i _ => os.length - (intOf i).toNat)
  case atStart => exact ⟨0, Nat.zero_le _, rfl, Fr.refl _ _ _⟩
  case round =>
    obtain ⟨k, hk, rfl, hfr⟩ := hrel
    by_cases hlt : k < os.length
    · rcases HC.out with h | ⟨b, off, rfl, hbs, hcell⟩
      · rw [h] at hlt; simp at hlt
      rcases HC'.out with h | ⟨b', off', rfl, hbs', hcell'⟩
      · rw [h] at hlt; simp at hlt
      obtain ⟨u, p, x0, x1, x2, x3, hu, hp⟩ := hcell k hlt
      obtain ⟨u', p', y0, y1, y2, y3, hu', hp'⟩ := hcell' k hlt
      obtain ⟨ua, ucap, rfl, _, _⟩ := hu.shape
      obtain ⟨ua', ucap', rfl, _, _⟩ := hu'.shape
      obtain ⟨pa, pcap, rfl, _, _⟩ := hp.shape
      obtain ⟨pa', pcap', rfl, _, _⟩ := hp'.shape
      have c0 := hfr.cell hbs x0
      have c1 := hfr.cell hbs x1
      have c2 := hfr.cell hbs x2
      have c3 := hfr.cell hbs x3
      have d0 := hfr.cell hbs' y0
      have d1 := hfr.cell hbs' y1
      have d2 := hfr.cell hbs' y2
      have d3 := hfr.cell hbs' y3
      have HU := hid (hu.grow hfr)
      have HU' := hid (hu'.grow hfr)
      have HP := hid (hp.grow hfr)
      have HP' := hid (hp'.grow hfr)
      obtain ⟨hil, hpl⟩ := HB.out _ (List.getElem_mem hlt)
      clear x0 x1 x2 x3 y0 y1 y2 y3 hu hu' hp hp'
      have hbr := Nat.lt_of_lt_of_le hbs hfr.size
      have hbr' := Nat.lt_of_lt_of_le hbs' hfr.size
      have hki : (k : Int) < (os.length : Int) := by omega
      clear hcell hcell'
      generalize os[k] = o at *
      go_wp2
      go_region_held3 (fun x => x.cell? ⟨b, off + k * 4, none⟩ = some (.int .i64 o.kind) ∧ x.cell? ⟨b, off + k * 4 + 1, none⟩ = some (.slice ua o.links.length ucap) ∧ x.cell? ⟨b, off + k * 4 + 2, none⟩ = some (.int .i64 o.base) ∧ x.cell? ⟨b, off + k * 4 + 3, none⟩ = some (.slice pa o.ops.length pcap) ∧ x.cell? ⟨b', off' + k * 4, none⟩ = some (.int .i64 o.kind) ∧ x.cell? ⟨b', off' + k * 4 + 1, none⟩ = some (.slice ua' o.links.length ucap') ∧ x.cell? ⟨b', off' + k * 4 + 2, none⟩ = some (.int .i64 o.base) ∧ x.cell? ⟨b', off' + k * 4 + 3, none⟩ = some (.slice pa' o.ops.length pcap'))
        (first | exact ⟨c0, c1, c2, c3, d0, d1, d2, d3⟩ | exact ⟨fr1.cell hbr c0, fr1.cell hbr c1, fr1.cell hbr c2, fr1.cell hbr c3, fr1.cell hbr' d0, fr1.cell hbr' d1, fr1.cell hbr' d2, fr1.cell hbr' d3⟩)
        (first
          | (go_at_call 66; go_must (refine (eqEntry_any K K' _ _ _ _ o _ (HU.out.grow (Fr.refl 0 [] wr).drew) (HU'.out.grow (Fr.refl 0 [] wr).drew) (HP.out.grow (Fr.refl 0 [] wr).drew) (HP'.out.grow (Fr.refl 0 [] wr).drew) hil hpl).mono ?_; rintro e w1 ⟨rfl, fr⟩; have fr1 : Fr wr.heap.size [] wr w1 := (Fr.refl wr.heap.size [] wr).drew.trans fr)))
      go_wp2
      go_roundw
      case rel => exact ⟨k + 1, by omega, by go_num, hfr.trans fr1.nil⟩
      case measure => simp [intOf]; omega
    · obtain rfl : k = os.length := by omega
      go_wp2
      go_ret
      exact ⟨rfl, hfr⟩

end Go.Proofs.Ytjgbconlpolddaa
