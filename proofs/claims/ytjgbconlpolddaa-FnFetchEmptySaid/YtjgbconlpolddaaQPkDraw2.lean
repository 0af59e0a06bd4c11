/- Draw of an object. -/
import Derived.Test.YtjgbconlpolddaaQM3
set_option linter.unusedVariables false
set_option linter.unusedSimpArgs false
namespace Go.Proofs.Ytjgbconlpolddaa
open Go.RowKit
set_option linter.unusedVariables false

set_option maxRecDepth 20000 in
set_option maxHeartbeats 4000000 in
theorem l91Object_any (K : Nat → Bool → Prop) {B r p : Nat} {w : World} (hR : Rdr B w r p) (hp : p ≤ 999990000) (v : Value) (ids : List Int) (hv : IntsR K w v ids) (hl : ids.length ≤ 20) (hK : Safe K B [102] 3) (hin : ∀ (i : Nat) (h : i < ids.length), -1000 ≤ ids[i] ∧ ids[i] ≤ 1000) :
    Calls Try.prog 72 #[.pointer (some ⟨r, 0, none⟩), v] w (DrawO B r p w) := by
  have hB : B ≤ w.heap.size := Nat.le_trans hR.1 (Nat.le_of_lt hR.lt)
  obtain ⟨a, cap, rfl, hcap, -⟩ := hv.shape
  have HV := hid hv
  have HR0 := hid hR
  clear hv
  obtain ⟨i0, hi, hz0, hz1, hz2⟩ := info_parts infoI
  go_enter Try.func72, Try.ntmps72
  have RB := hid (heap_alloc_new w (.cells #[.int .i64 0, .slice none 0 0, .string ⟨#[]⟩] 40))
  have F0 := hid ((Fr.refl B [102] w).alloc (.cells #[.int .i64 0, .slice none 0 0, .string ⟨#[]⟩] 40))
  go_upto_if 17 with (first
    | (go_at_call 71; go_must (refine (pick_at (n := 3) (HR0.out.alloc _) (by omega)).mono ?_; rintro e w1 ⟨k1, rfl, hk1, hR1, hf1⟩; have HR1 := hid hR1; have RB1 := hid (hf1.keep _ _ RB.out (.inr (by simp [otag]))); have F1 := hid (F0.out.trans hf1); clear hR1 hf1))
    | (go_at_call 84; go_must (refine (l91Text_any (HR1.out.alloc (.cells #[] 3)) (by omega)).mono ?_; rintro e w2 ⟨t, q2, rfl, htl, hR2, hq2, hf2⟩; have HR2 := hid hR2; have RB2 := hid (hf2.keep _ _ (heap_up RB1.out _) (.inr (by simp [otag]))); have IB2 := hid (hf2.keep _ _ (heap_alloc_new w1 (.cells #[] 3)) (.inr (by simp [otag]))); have F2 := hid ((F1.out.alloc (.cells #[] 3)).trans hf2); clear hR2)))
  have XB := hid (heap_alloc_new w2 (.cells #[.int .i64 (1 + (k1 : Int)), .slice (some ⟨w1.heap.size, 0, none⟩) 0 0, .string (tx t)] 40))
  have RB3 := hid (heap_up RB2.out (.cells #[.int .i64 (1 + (k1 : Int)), .slice (some ⟨w1.heap.size, 0, none⟩) 0 0, .string (tx t)] 40))
  have F3 := hid (F2.out.alloc (.cells #[.int .i64 (1 + (k1 : Int)), .slice (some ⟨w1.heap.size, 0, none⟩) 0 0, .string (tx t)] 40))
  have hs1 := F1.out.size
  have hs2 := F2.out.size
  have OW := hid (show (w2.alloc (.cells #[.int .i64 (1 + (k1 : Int)), .slice (some ⟨w1.heap.size, 0, none⟩) 0 0, .string (tx t)] 40)).ownsRow w.heap.size 3 1 (.slice (some ⟨w1.heap.size, 0, none⟩) 0 0) ([] : List Int).length (([] : List Int).map (Value.int .i64)) from
    ⟨rfl, .inr ⟨w1.heap.size, 0, #[], rfl, hs1, heap_up IB2.out _, Nat.le_refl _, Nat.zero_le _, rfl, rfl⟩⟩)
  have HR3 := hid (HR2.out.alloc (.cells #[.int .i64 (1 + (k1 : Int)), .slice (some ⟨w1.heap.size, 0, none⟩) 0 0, .string (tx t)] 40))
  have hwx : w.heap.size < w2.heap.size := lt_of_get RB2.out
  clear RB RB1 RB2 HR1 HR2 F0 F1 IB2
  revert OW XB RB3 F3 HR3
  generalize w2.alloc (.cells #[.int .i64 (1 + (k1 : Int)), .slice (some ⟨w1.heap.size, 0, none⟩) 0 0, .string (tx t)] 40) = W3 at *
  intro XB RB3 F3 OW HR3
  have x0 := cell_of (o := 0) XB.out rfl
  have x1 := cell_of (o := 1) XB.out rfl
  have x2 := cell_of (o := 2) XB.out rfl
  have xf := fun o => free_of (o := o) XB.out
  have hxl := lt_of_get XB.out
  have hk3 : (k1 : Int) < 3 := by omega
  go_cut [7] (fun _ wx => ∃ (kd : Int) (v : Value) (links : List Int) (t' : Tx) (q : Nat), Bx B r q w wx w2.heap.size w.heap.size #[.int .i64 kd, v, .string (tx t')] v links ∧ links.length ≤ 991 ∧ t'.length ≤ 9 ∧ -10 ≤ kd ∧ kd ≤ 10 ∧ q ≤ p + 50)
  case first =>
    by_cases hk0 : k1 = 0
    · subst hk0
      go_wp2
      go_meet
      exact ⟨_, _, [], t, q2, ⟨XB.out, RB3.out, OW.out, HR3.out, F3.out, Nat.le_refl _, hwx, hB⟩, by simp, htl, by omega, by omega, by omega⟩
    · have hk1' : ((1 : Int) + (k1 : Int) != 1) = true := by simp; omega
      go_wp2
      rw [hk1']
      go_loopw [6, 7] (fun vl vi wx => ∃ (k q : Nat) (l : List Int), k ≤ ids.length ∧ vi = .int .i64 k ∧ l.length ≤ k ∧ wx.ownsRow W3.heap.size 3 1 vl l.length (l.map (Value.int .i64)) ∧ Rdr B wx r q ∧ q ≤ q2 + k ∧ Fr B [102] W3 wx) (fun _ vi _ => ids.length - (intOf vi).toNat)
      case atStart => exact ⟨0, q2, [], Nat.zero_le _, rfl, Nat.le_refl _, World.ownsRow_lit (e := 3) (size := 1) W3 #[] 0 (Nat.le_refl _) (by decide) rfl, HR3.out.alloc _, by omega, (Fr.refl _ _ _).alloc _⟩
      case round =>
        obtain ⟨k, q, l, hk, rfl, hlk, hown, hR5, hq, hfr⟩ := hrel
        have OWN := hid hown
        have HR5 := hid hR5
        obtain ⟨oa, ocap, rfl⟩ := own_any hown
        have hs5 := hfr.size
        clear hown hR5
        by_cases hc : k < ids.length ∧ l.length < 4
        · obtain ⟨hki, hl4⟩ := hc
          have ik : (k : Int) < (ids.length : Int) := by omega
          have il : (l.length : Int) < 4 := by omega
          obtain ⟨a', cap', hva, -, hcell⟩ := (HV.out.keep (F3.out.trans hfr) hK).shape
          cases hva
          rcases hcell with hh | ⟨b, off, hae, hbs, hcell⟩
          · rw [hh] at hki; cases hki
          · subst hae
            have c0 := hcell k hki
            clear hcell
            go_wp2_with (first
              | (go_at_call 71; go_must (refine (pick_at (n := 3) HR5.out (by omega)).mono ?_; rintro e w6 ⟨k6, rfl, hk6, hR6, hf6⟩; have HR6 := hid hR6; have F6 := hid (hfr.trans hf6); have OWN6 := hid (ownsRow_keep OWN.out hf6 (by simp)); have d0 := (show w6.cell? ⟨b, off + k, none⟩ = some (.int .i64 ids[k]) by
                  obtain ⟨a2, cap2, hva2, -, hcell2⟩ := (HV.out.keep (F3.out.trans F6.out) hK).shape
                  cases hva2
                  rcases hcell2 with hh | ⟨b2, off2, hae, -, hcell2⟩
                  · rw [hh] at hki; cases hki
                  · cases hae; exact hcell2 k hki); have hs6 := F6.out.size; clear hR6 hf6 c0))
              | (at_builtin; go_must (refine wpList_push rfl (.tmp 33) (.tmp 38) 29 rfl W3.heap.size 3 i0 (.int .i64 0) 1 8 Try.underlying29 hi hz0 hz1 hz2 rfl (by decide) _ _ _ OWN6.out rfl (oneInt _) (by unfold maxLen; omega) (by omega) (by omega) (by rfl) _ (by rfl) (by simp [World.setCell]) ?_; intro v7 w7 own7 fr7 _; have OWN7 := hid own7; have F7 := hid (F6.out.after fr7); have HR7 := hid (HR6.out.keep (fr7.mono (by have := hR.1; omega) (fun _ h => h)) (by simp)); clear own7 fr7)))
            · go_roundw
              case rel => exact ⟨k + 1, _, l ++ [ids[k]], by omega, by go_num, by simp; omega, by rw [List.map_append, List.length_append]; exact OWN7.out, HR7.out, by omega, F7.out⟩
              case measure => simp [intOf]; omega
            · go_roundw
              case rel => exact ⟨k + 1, _, l, by omega, by go_num, by omega, OWN6.out, HR6.out, by omega, F6.out⟩
              case measure => simp [intOf]; omega
        · have BX5 := hid (show Bx B r q w wr w2.heap.size w.heap.size #[.int .i64 (1 + (k1 : Int)), .slice (some ⟨w1.heap.size, 0, none⟩) 0 0, .string (tx t)] (.slice oa l.length ocap) l from ⟨hfr.keep _ _ XB.out (.inr (by simp [otag])), hfr.keep _ _ RB3.out (.inr (by simp [otag])), ownsRow_lo OWN.out (by have := F3.out.size; omega), HR5.out, F3.out.trans hfr, Nat.le_refl _, hwx, hB⟩)
          have hl10 : l.length ≤ 20 := by omega
          have hcs : (k < ids.length ∧ ¬ l.length < 4) ∨ ¬ k < ids.length := by
            by_cases h : k < ids.length
            · exact .inl ⟨h, fun h4 => hc ⟨h, h4⟩⟩
            · exact .inr h
          rcases hcs with ⟨hki, hl4⟩ | hki
          · have ik : (k : Int) < (ids.length : Int) := by omega
            have il : ¬ (l.length : Int) < 4 := by omega
            go_wp2_with (first
              | (go_at_call 71; (with_reducible refine (pick_at (n := 8) HR5.out (by omega)).mono ?_); go_must (rintro e w6 ⟨k6, rfl, hk6, hR6, hf6⟩; have OWN6 := hid (ownsRow_keep OWN.out hf6 (by simp)); have BX6 := hid (BX5.out.pick hR6 hf6); have F6 := hid (hfr.trans hf6); have SO6 := hid (show IntsR (new W3.heap.size) w6 (.slice oa l.length ocap) l from SlR.ofOwns OWN6.out); clear hR6 hf6))
              | (go_at_call 71; (with_reducible refine (pick_at (n := 99) BX6.out.rd (by omega)).mono ?_); go_must (rintro e w7 ⟨k7, rfl, hk7, hR7, hf7⟩; have OWN7 := hid (ownsRow_keep OWN6.out hf7 (by simp)); have BX7 := hid (BX6.out.pick hR7 hf7); have F7 := hid (F6.out.trans hf7); have hs7 := F7.out.size; clear hR7 hf7))
              | (at_builtin; go_must (refine wpList_push rfl (.tmp 43) (.tmp 47) 29 rfl W3.heap.size 3 i0 (.int .i64 0) 1 8 Try.underlying29 hi hz0 hz1 hz2 rfl (by decide) _ _ _ OWN7.out rfl (oneInt _) (by unfold maxLen; omega) (by omega) (by omega) (by rfl) _ (by rfl) (by simp [World.setCell]) ?_; intro v8 w8 own8 fr8 _; obtain ⟨a8, cap8, rfl⟩ := own_any own8; have OWN8 := hid (show w8.ownsRow W3.heap.size 3 1 (.slice a8 (l.length + 1) cap8) (l ++ [10 * (k7 : Int)]).length ((l ++ [10 * (k7 : Int)]).map (Value.int .i64)) from by rw [List.map_append, List.length_append]; exact own8); have BX8 := hid (BX7.out.push hxl fr8 (ownsRow_lo OWN8.out (by have := F3.out.size; omega))); have SO8 := hid (show IntsR (new W3.heap.size) w8 (.slice a8 (l.length + 1) cap8) (l ++ [10 * (k7 : Int)]) from SlR.ofOwns OWN8.out); clear own8 fr8))
              | (go_at_call 100; (with_reducible refine (l1Sorted_any (new W3.heap.size) _ l w6 SO6.out (by first | omega | (simp; omega))).mono ?_); go_must (rintro e w9 ⟨v9, rfl, own9, hf9⟩; obtain ⟨a9, cap9, rfl⟩ := own_any own9; have len9 := sortedTo_len l 991; have BX9 := hid (BX6.out.next hf9 (ownsRow_lo own9 (by have := BX6.out.fr.size; omega))); revert own9 BX9 len9; generalize sortedTo l 991 = l9; intro own9 len9 BX9; clear own9; have x90 := cell_of (o := 0) BX9.out.box rfl; have x91 := cell_of (o := 1) BX9.out.box rfl; have x92 := cell_of (o := 2) BX9.out.box rfl; have x9f := fun o => free_of (o := o) BX9.out.box; have x9l := lt_of_get BX9.out.box))
              | (go_at_call 100; (with_reducible refine (l1Sorted_any (new W3.heap.size) _ (l ++ [10 * (k7 : Int)]) w8 SO8.out (by first | omega | (simp; omega))).mono ?_); go_must (rintro e w9 ⟨v9, rfl, own9, hf9⟩; obtain ⟨a9, cap9, rfl⟩ := own_any own9; have len9 := sortedTo_len (l ++ [10 * (k7 : Int)]) 991; have BX9 := hid (BX8.out.next hf9 (ownsRow_lo own9 (by have := BX8.out.fr.size; omega))); revert own9 BX9 len9; generalize sortedTo (l ++ [10 * (k7 : Int)]) 991 = l9; intro own9 len9 BX9; clear own9; have x90 := cell_of (o := 0) BX9.out.box rfl; have x91 := cell_of (o := 1) BX9.out.box rfl; have x92 := cell_of (o := 2) BX9.out.box rfl; have x9f := fun o => free_of (o := o) BX9.out.box; have x9l := lt_of_get BX9.out.box)))
            all_goals
             go_meet
             first
             | exact ⟨1 + (k1 : Int), _, l9, [], _, (BX9.out.set 1 _).set 2 _, by omega, by simp, by omega, by omega, by omega⟩
             | exact ⟨1, _, l9, t, _, (BX9.out.set 1 _).set 0 _, by omega, htl, by omega, by omega, by omega⟩
             | exact ⟨1 + (k1 : Int), _, l9, t, _, BX9.out.set 1 _, by omega, htl, by omega, by omega, by omega⟩
          · have ik : ¬ (k : Int) < (ids.length : Int) := by omega
            go_wp2_with (first
              | (go_at_call 71; (with_reducible refine (pick_at (n := 8) HR5.out (by omega)).mono ?_); go_must (rintro e w6 ⟨k6, rfl, hk6, hR6, hf6⟩; have OWN6 := hid (ownsRow_keep OWN.out hf6 (by simp)); have BX6 := hid (BX5.out.pick hR6 hf6); have F6 := hid (hfr.trans hf6); have SO6 := hid (show IntsR (new W3.heap.size) w6 (.slice oa l.length ocap) l from SlR.ofOwns OWN6.out); clear hR6 hf6))
              | (go_at_call 71; (with_reducible refine (pick_at (n := 99) BX6.out.rd (by omega)).mono ?_); go_must (rintro e w7 ⟨k7, rfl, hk7, hR7, hf7⟩; have OWN7 := hid (ownsRow_keep OWN6.out hf7 (by simp)); have BX7 := hid (BX6.out.pick hR7 hf7); have F7 := hid (F6.out.trans hf7); have hs7 := F7.out.size; clear hR7 hf7))
              | (at_builtin; go_must (refine wpList_push rfl (.tmp 43) (.tmp 47) 29 rfl W3.heap.size 3 i0 (.int .i64 0) 1 8 Try.underlying29 hi hz0 hz1 hz2 rfl (by decide) _ _ _ OWN7.out rfl (oneInt _) (by unfold maxLen; omega) (by omega) (by omega) (by rfl) _ (by rfl) (by simp [World.setCell]) ?_; intro v8 w8 own8 fr8 _; obtain ⟨a8, cap8, rfl⟩ := own_any own8; have OWN8 := hid (show w8.ownsRow W3.heap.size 3 1 (.slice a8 (l.length + 1) cap8) (l ++ [10 * (k7 : Int)]).length ((l ++ [10 * (k7 : Int)]).map (Value.int .i64)) from by rw [List.map_append, List.length_append]; exact own8); have BX8 := hid (BX7.out.push hxl fr8 (ownsRow_lo OWN8.out (by have := F3.out.size; omega))); have SO8 := hid (show IntsR (new W3.heap.size) w8 (.slice a8 (l.length + 1) cap8) (l ++ [10 * (k7 : Int)]) from SlR.ofOwns OWN8.out); clear own8 fr8))
              | (go_at_call 100; (with_reducible refine (l1Sorted_any (new W3.heap.size) _ l w6 SO6.out (by first | omega | (simp; omega))).mono ?_); go_must (rintro e w9 ⟨v9, rfl, own9, hf9⟩; obtain ⟨a9, cap9, rfl⟩ := own_any own9; have len9 := sortedTo_len l 991; have BX9 := hid (BX6.out.next hf9 (ownsRow_lo own9 (by have := BX6.out.fr.size; omega))); revert own9 BX9 len9; generalize sortedTo l 991 = l9; intro own9 len9 BX9; clear own9; have x90 := cell_of (o := 0) BX9.out.box rfl; have x91 := cell_of (o := 1) BX9.out.box rfl; have x92 := cell_of (o := 2) BX9.out.box rfl; have x9f := fun o => free_of (o := o) BX9.out.box; have x9l := lt_of_get BX9.out.box))
              | (go_at_call 100; (with_reducible refine (l1Sorted_any (new W3.heap.size) _ (l ++ [10 * (k7 : Int)]) w8 SO8.out (by first | omega | (simp; omega))).mono ?_); go_must (rintro e w9 ⟨v9, rfl, own9, hf9⟩; obtain ⟨a9, cap9, rfl⟩ := own_any own9; have len9 := sortedTo_len (l ++ [10 * (k7 : Int)]) 991; have BX9 := hid (BX8.out.next hf9 (ownsRow_lo own9 (by have := BX8.out.fr.size; omega))); revert own9 BX9 len9; generalize sortedTo (l ++ [10 * (k7 : Int)]) 991 = l9; intro own9 len9 BX9; clear own9; have x90 := cell_of (o := 0) BX9.out.box rfl; have x91 := cell_of (o := 1) BX9.out.box rfl; have x92 := cell_of (o := 2) BX9.out.box rfl; have x9f := fun o => free_of (o := o) BX9.out.box; have x9l := lt_of_get BX9.out.box)))
            all_goals
             go_meet
             first
             | exact ⟨1 + (k1 : Int), _, l9, [], _, (BX9.out.set 1 _).set 2 _, by omega, by simp, by omega, by omega, by omega⟩
             | exact ⟨1, _, l9, t, _, (BX9.out.set 1 _).set 0 _, by omega, htl, by omega, by omega, by omega⟩
             | exact ⟨1 + (k1 : Int), _, l9, t, _, BX9.out.set 1 _, by omega, htl, by omega, by omega, by omega⟩
  case rest =>
    obtain ⟨kd, v, links, t', q, hbx, hll, htl', hkd1, hkd2, hq⟩ := hcut
    obtain ⟨oa, ocap, rfl⟩ := own_any hbx.own
    have BXC := hid hbx
    clear hbx OW XB RB3 F3 HR3 x0 x1 x2 xf hxl HV F2 hf2 hq2 HR0
    go_upto_if 63 with (go_at_call 71; go_must (refine (pick_at (n := 40) BXC.out.rd (by omega)).mono ?_; rintro e w4 ⟨k4, rfl, hk4, hR4, hf4⟩; have BX4 := hid (BXC.out.pick hR4 hf4); have x40 := cell_of (o := 0) BX4.out.box rfl; have x41 := cell_of (o := 1) BX4.out.box rfl; have x42 := cell_of (o := 2) BX4.out.box rfl; have x4f := fun o => free_of (o := o) BX4.out.box; have x4l := lt_of_get BX4.out.box; have r40 := cell_of (o := 0) BX4.out.res rfl; have r41 := cell_of (o := 1) BX4.out.res rfl; have r42 := cell_of (o := 2) BX4.out.res rfl; have r4f := fun o => free_of (o := o) BX4.out.res; have r4l := lt_of_get BX4.out.res; clear BXC hR4 hf4))
    all_goals
      go_wp2_with (go_at_call 71; go_must (refine (pick_at (n := 6) BX4.out.rd (by omega)).mono ?_; rintro e w5 ⟨k5, rfl, hk5, hR5, hf5⟩; have BX5 := hid (BX4.out.pick hR5 hf5); have x50 := cell_of (o := 0) BX5.out.box rfl; have x51 := cell_of (o := 1) BX5.out.box rfl; have x52 := cell_of (o := 2) BX5.out.box rfl; have x5f := fun o => free_of (o := o) BX5.out.box; have x5l := lt_of_get BX5.out.box; have r50 := cell_of (o := 0) BX5.out.res rfl; have r51 := cell_of (o := 1) BX5.out.res rfl; have r52 := cell_of (o := 2) BX5.out.res rfl; have r5f := fun o => free_of (o := o) BX5.out.res; have r5l := lt_of_get BX5.out.res; clear x40 x41 x42 x4f r40 r41 r42 r4f))
      · obtain ⟨hd, hbk⟩ := (BX5.out.set 0 (.int .i64 ((k5 : Int) - 1))).fin (p := p) (kd := (k5 : Int) - 1) (by omega) htl' (by omega) (by omega) (by omega)
        have g0 := cell_of (o := 0) hbk rfl
        have g1 := cell_of (o := 1) hbk rfl
        have g2 := cell_of (o := 2) hbk rfl
        exact bodyPost_ret (by simp [results, Try.results72, go_sem, g0, g1, g2]) rfl hd
      · have BXD := hid (BX4.out.drew)
        have xd1 := cell_of (o := 1) BXD.out.box rfl
        go_region_law
          (first
            | (go_simp; go_at_call 101; go_must (refine (l91Id_any BXD.out.rd (by omega)).mono ?_; rintro e w5 ⟨n5, q5, rfl, hR5, hq5, hf5, hn1, hn2⟩; have BX5 := hid (BXD.out.pick hR5 hf5); have x51 := cell_of (o := 1) BX5.out.box rfl; have y51 := cell_alloc (o := .cells #[.int .i64 n5] 3) x51; have x5f := free_of (o := 1) BX5.out.box; have x5l := lt_of_get BX5.out.box; clear hR5 hf5); (try go_wp2_with fail))
            | (go_must (refine step_ap rfl (.tmp 72) (.tmp 75) 29 rfl w.heap.size 3 i0 (.int .i64 0) 1 8 Try.underlying29 hi hz0 hz1 hz2 rfl (by decide) (.slice oa links.length ocap) links.length (links.map (Value.int .i64)) (by rfl) (ownsRow_grow BX5.out.own ((Fr.refl 0 [] _).alloc _)) (new w5.heap.size) 3 _ 1 [.int .i64 n5] (by rfl) (SlR.lit rfl) (oneInt _) (by unfold maxLen; omega) (by omega) (by have := BX5.out.fr.size; simp; omega) ?_; intro v6 w6 own6 fr6; obtain ⟨a6, cap6, rfl⟩ := own_any own6; have BX6 := hid (BX5.out.ap (l' := links ++ [n5]) fr6 (by rw [List.map_append, List.length_append]; exact own6)); have x60 := cell_of (o := 0) BX6.out.box rfl; have x61 := cell_of (o := 1) BX6.out.box rfl; have x62 := cell_of (o := 2) BX6.out.box rfl; have x6f := fun o => free_of (o := o) BX6.out.box; have x6l := lt_of_get BX6.out.box; have r60 := cell_of (o := 0) BX6.out.res rfl; have r61 := cell_of (o := 1) BX6.out.res rfl; have r62 := cell_of (o := 2) BX6.out.res rfl; have r6f := fun o => free_of (o := o) BX6.out.res; have r6l := lt_of_get BX6.out.res; clear own6 fr6)))
        all_goals go_wp2
        all_goals
          obtain ⟨hd, hbk⟩ := (BX6.out.set 1 (.slice a6 (links.length + 1) cap6)).fin (p := p) (by simp; omega) htl' (by omega) (by omega) (by omega)
          have g0 := cell_of (o := 0) hbk rfl
          have g1 := cell_of (o := 1) hbk rfl
          have g2 := cell_of (o := 2) hbk rfl
          exact bodyPost_ret (by simp [results, Try.results72, go_sem, g0, g1, g2]) rfl hd
      · obtain ⟨hd, hbk⟩ := BX4.out.fin (p := p) (by omega) htl' (by omega) (by omega) (by omega)
        have g0 := cell_of (o := 0) hbk rfl
        have g1 := cell_of (o := 1) hbk rfl
        have g2 := cell_of (o := 2) hbk rfl
        exact bodyPost_ret (by simp [results, Try.results72, go_sem, g0, g1, g2]) rfl hd

end Go.Proofs.Ytjgbconlpolddaa
