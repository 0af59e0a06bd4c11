/- The id of a valid object, program and reference. -/
import Derived.Test.YtjgbconlpolddaaQM2
import Derived.Lib.ConvBytes
set_option linter.unusedVariables false
set_option linter.unusedSimpArgs false
namespace Go.Proofs.Ytjgbconlpolddaa
open Go.RowKit
set_option linter.unusedVariables false

theorem Fr.bytesWorld {B : Nat} {T : List Nat} {a w : World} (h : Fr B T a w) (e : TypeId) (s : ByteArray) : Fr B T a (Lib.bytesWorld w e s) := by
  have hs := Lib.bytesWorld_size w e s
  refine h.trans ⟨?_, ?_, ?_, by omega, fun k o hk _ => by rw [Lib.bytesWorld_at_old w e s k (lt_of_get hk)]; exact hk⟩
  all_goals
    unfold Lib.bytesWorld World.freeze
    split
    · rfl
    · rfl

set_option maxRecDepth 20000 in
set_option maxHeartbeats 2000000 in
theorem id_any (K : Nat → Bool → Prop) (v : Value) (o : Ob) (w : World) (hv : IntsR K w v o.links) (hok : obOk o = true) :
    Calls Try.prog 51 #[.agg #[.int .i64 o.kind, v, .string (tx o.text)]] w fun e w' => e = .returned (.int .i64 (oid o)) ∧ Fr w.heap.size [] w w' := by
  obtain ⟨a, cap, rfl, hcap, hcell⟩ := hv.shape
  have hsz := tx_size o.text
  have hkd := obOk_kind hok
  have hln := obOk_len hok
  have OK := hid hok
  clear hv hok
  have F0 := hid ((Fr.refl w.heap.size [] w).alloc (.cells #[.int .i64 o.kind, .slice a o.links.length cap, .string (tx o.text)] 40))
  have B0 := hid (heap_alloc_new w (.cells #[.int .i64 o.kind, .slice a o.links.length cap, .string (tx o.text)] 40))
  go_enter Try.func51, Try.ntmps51
  go_wp2
  go_loopw [3, 18] (fun n i wr => ∃ k : Nat, k ≤ o.links.length ∧ i = .int .i64 k ∧ n = .int .i64 (idL o k) ∧ wr.heap[w.heap.size]? = some (.cells #[.int .i64 o.kind, .slice a o.links.length cap, .string (tx o.text)] 40 (0, 0)) ∧ Fr w.heap.size [] w wr) (fun _ i _ => o.links.length - (intOf i).toNat)
  case atStart => exact ⟨0, Nat.zero_le _, rfl, rfl, B0.out, F0.out⟩
  case round =>
    obtain ⟨k, hk, rfl, rfl, b0, hfr⟩ := hrel
    have B1 := hid b0
    have c0 := cell_of (o := 0) b0 rfl
    have c1 := cell_of (o := 1) b0 rfl
    have c2 := cell_of (o := 2) b0 rfl
    have hn := idL_in OK.out k
    clear b0
    by_cases hlt : k < o.links.length
    · rcases hcell with hh | ⟨b, off, rfl, hbs, hcell⟩
      · rw [hh] at hlt; cases hlt
      · have d0 := hfr.cell hbs (hcell k hlt)
        have hl := obOk_link OK.out k hlt
        have HS := hid (idL_succ hlt)
        have hki : (k : Int) < (o.links.length : Int) := by omega
        have hm : (idL o k * 613 + o.links[k] + 1).tmod 991 = (idL o k * 613 + o.links[k] + 1) % 991 := Int.tmod_eq_emod_of_nonneg (by omega)
        clear hcell
        go_wp2
        go_roundw
        case rel => exact ⟨k + 1, by omega, by go_num, by rw [HS.out], B1.out, hfr⟩
        case measure => simp [intOf]; omega
    · obtain rfl : k = o.links.length := by omega
      clear hcell
      obtain ⟨W1, hW1⟩ : ∃ W1, W1 = Lib.bytesWorld wr 5 (tx o.text) := ⟨_, rfl⟩
      have hcv := Lib.run_convert_string_bytes (P := Try.prog) wr 9 22 5 (tx o.text) (u := .string) Try.underlying9 Try.underlying22 Try.underlying5
      rw [← hW1] at hcv
      have F1 := hid (show Fr w.heap.size [] w W1 by rw [hW1]; exact hfr.bytesWorld _ _)
      have BY := hid (show ∀ j (hj : j < o.text.length), W1.cell? ⟨wr.heap.size, j, none⟩ = some (.int .u8 ((o.text[j].toNat : Nat) : Int)) from fun j hj => by
        have := Lib.bytesWorld_cell wr 5 (tx o.text) j (by rw [tx_size]; exact hj)
        rw [← hW1, tx_data, List.getD_eq_getElem?_getD, List.getElem?_eq_getElem hj] at this
        exact this)
      have hlt1 : wr.heap.size < W1.heap.size := by
        rw [hW1, Lib.bytesWorld_size]; omega
      clear hW1
      generalize grownCap wr (tx o.text).size 0 5 = gc at hcv
      generalize hg : wr.heap.size = g at *
      go_wp2
      go_loopw [3, 33] (fun n i wx => ∃ k : Nat, k ≤ o.text.length ∧ i = .int .i64 k ∧ n = .int .i64 (idT o k) ∧ wx = W1) (fun _ i _ => o.text.length - (intOf i).toNat)
      case atStart => exact ⟨0, Nat.zero_le _, rfl, rfl, rfl⟩
      case round =>
        obtain ⟨k, hk, rfl, rfl, rfl⟩ := hrel
        have hn := idT_in OK.out k
        by_cases hlt : k < o.text.length
        · have HS := hid (idT_succ hlt)
          have hki : (k : Int) < (o.text.length : Int) := by omega
          have hby : (o.text[k].toNat : Int) < 256 := by have := o.text[k].toNat_lt; omega
          have hm : (idT o k * 257 + (o.text[k].toNat : Int) + 1).tmod 991 = (idT o k * 257 + (o.text[k].toNat : Int) + 1) % 991 := Int.tmod_eq_emod_of_nonneg (by omega)
          have dk := BY.out k hlt
          go_wp2
          go_roundw
          case rel => exact ⟨k + 1, by omega, by go_num, by rw [HS.out], (by first | rfl | trivial)⟩
          case measure => simp [intOf]; omega
        · obtain rfl : k = o.text.length := by omega
          go_wp2
          go_ret
          exact ⟨rfl, F1.out⟩

set_option maxRecDepth 20000 in
set_option maxHeartbeats 2000000 in
theorem l1Of_any (K : Nat → Bool → Prop) (v : Value) (o : Ob) (w : World) (hv : IntsR K w v o.links) (hok : obOk o = true) :
    Calls Try.prog 88 #[.agg #[.int .i64 o.kind, v, .string (tx o.text)]] w fun e w' => e = .returned (.int .i64 (oid o)) ∧ Fr w.heap.size [] w w' := by
  obtain ⟨a, cap, rfl, hcap, hcell⟩ := hv.shape
  have hsz := tx_size o.text
  have hkd := obOk_kind hok
  have hln := obOk_len hok
  have OK := hid hok
  clear hv hok
  have F0 := hid ((Fr.refl w.heap.size [] w).alloc (.cells #[.int .i64 o.kind, .slice a o.links.length cap, .string (tx o.text)] 40))
  have B0 := hid (heap_alloc_new w (.cells #[.int .i64 o.kind, .slice a o.links.length cap, .string (tx o.text)] 40))
  go_enter Try.func88, Try.ntmps88
  go_wp2
  go_loopw [3, 4] (fun n i wr => ∃ k : Nat, k ≤ o.links.length ∧ i = .int .i64 k ∧ n = .int .i64 (idL o k) ∧ wr.heap[w.heap.size]? = some (.cells #[.int .i64 o.kind, .slice a o.links.length cap, .string (tx o.text)] 40 (0, 0)) ∧ Fr w.heap.size [] w wr) (fun _ i _ => o.links.length - (intOf i).toNat)
  case atStart => exact ⟨0, Nat.zero_le _, rfl, rfl, B0.out, F0.out⟩
  case round =>
    obtain ⟨k, hk, rfl, rfl, b0, hfr⟩ := hrel
    have B1 := hid b0
    have c0 := cell_of (o := 0) b0 rfl
    have c1 := cell_of (o := 1) b0 rfl
    have c2 := cell_of (o := 2) b0 rfl
    have hn := idL_in OK.out k
    clear b0
    by_cases hlt : k < o.links.length
    · rcases hcell with hh | ⟨b, off, rfl, hbs, hcell⟩
      · rw [hh] at hlt; cases hlt
      · have d0 := hfr.cell hbs (hcell k hlt)
        have hl := obOk_link OK.out k hlt
        have HS := hid (idL_succ hlt)
        have hki : (k : Int) < (o.links.length : Int) := by omega
        have hm : (idL o k * 613 + o.links[k] + 1).tmod 991 = (idL o k * 613 + o.links[k] + 1) % 991 := Int.tmod_eq_emod_of_nonneg (by omega)
        clear hcell
        go_wp2
        go_roundw
        case rel => exact ⟨k + 1, by omega, by go_num, by rw [HS.out, Int.mul_comm 613], B1.out, hfr⟩
        case measure => simp [intOf]; omega
    · obtain rfl : k = o.links.length := by omega
      clear hcell
      go_wp2
      go_loopw [3, 5] (fun n i wx => ∃ k : Nat, k ≤ o.text.length ∧ i = .int .i64 k ∧ n = .int .i64 (idT o k) ∧ wx.heap[w.heap.size]? = some (.cells #[.int .i64 o.kind, .slice a o.links.length cap, .string (tx o.text)] 40 (0, 0)) ∧ Fr w.heap.size [] w wx) (fun _ i _ => o.text.length - (intOf i).toNat)
      case atStart => exact ⟨0, Nat.zero_le _, rfl, rfl, B1.out, hfr⟩
      case round =>
        obtain ⟨k, hk, rfl, rfl, b0, hfr⟩ := hrel
        have hn := idT_in OK.out k
        have B2 := hid b0
        have c2 := cell_of (o := 2) b0 rfl
        clear b0
        by_cases hlt : k < o.text.length
        · have HS := hid (idT_succ hlt)
          have hki : (k : Int) < (o.text.length : Int) := by omega
          have hby : (o.text[k].toNat : Int) < 256 := by have := o.text[k].toNat_lt; omega
          have hm : (idT o k * 257 + (o.text[k].toNat : Int) + 1).tmod 991 = (idT o k * 257 + (o.text[k].toNat : Int) + 1) % 991 := Int.tmod_eq_emod_of_nonneg (by omega)
          have hgt : (tx o.text)[k]'(by rw [tx_size]; exact hlt) = o.text[k] := rfl
          go_wp2
          go_roundw
          case rel => exact ⟨k + 1, by omega, by go_num, by rw [HS.out, Int.mul_comm 257], B2.out, hfr⟩
          case measure => simp [intOf]; omega
        · obtain rfl : k = o.text.length := by omega
          have hfin : (idT o o.text.length).tmod 991 = idT o o.text.length := by rw [Int.tmod_eq_emod_of_nonneg hn.1]; omega
          go_wp2
          go_ret
          exact ⟨rfl, hfr⟩

end Go.Proofs.Ytjgbconlpolddaa
