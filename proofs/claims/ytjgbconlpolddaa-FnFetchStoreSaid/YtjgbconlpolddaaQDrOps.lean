/- Draw of operations. -/
import Derived.Test.YtjgbconlpolddaaQPkDraw3
import Derived.Deep.CutBlock
set_option linter.unusedVariables false
set_option linter.unusedSimpArgs false
namespace Go.Proofs.Ytjgbconlpolddaa
open Go.RowKit
set_option linter.unusedVariables false

theorem oneOpn (x y : Int) (t : ByteArray) : ∀ u ∈ [Value.int .i64 x, .int .i64 y, .string t], u.oneCell' = true := by
  intro u hu
  simp at hu
  rcases hu with rfl | rfl | rfl <;> rfl

/-- The operation in its box, and the row that it goes to. -/
structure Px (B r q : Nat) (w W : World) (X : Nat) (v : Value) (k : Nat) (ops : List Opn) (cs : Array Value) : Prop where
  box : W.heap[X]? = some (.cells cs 109 (0, 0))
  own : W.ownsRow w.heap.size 109 3 v k (ops.flatMap encOp)
  nx : v.ownBlock ≠ some X
  rd : Rdr B W r q
  fr : Fr B [102] w W
  lo : w.heap.size ≤ X
  bl : B ≤ w.heap.size

theorem Px.pick {B r q q' : Nat} {w W W' : World} {X : Nat} {v : Value} {k : Nat} {ops : List Opn} {cs : Array Value} (h : Px B r q w W X v k ops cs) (hr : Rdr B W' r q') (hf : Fr B [102] W W') : Px B r q' w W' X v k ops cs :=
  ⟨hf.keep _ _ h.box (.inr (by simp [otag])), ownsRow_keep h.own hf (by simp), h.nx, hr, h.fr.trans hf, h.lo, h.bl⟩

theorem Px.set {B r q : Nat} {w W : World} {X : Nat} {v : Value} {k : Nat} {ops : List Opn} {cs : Array Value} (h : Px B r q w W X v k ops cs) (j : Nat) (x : Value) : Px B r q w (W.setCell ⟨X, j, none⟩ x) X v k ops (cs.setIfInBounds j x) := by
  have F : Fr B [109] W (W.setCell ⟨X, j, none⟩ x) := (Fr.refl B [109] W).setOld (p := ⟨X, j, none⟩) h.box (Nat.le_trans h.bl h.lo) (by simp [otag]) x
  exact ⟨block_set h.box j x, h.own.kept (grownBy_set W X j x) (.inr h.nx), h.nx, h.rd.keep F (by simp), h.fr.setNew (p := ⟨X, j, none⟩) h.lo x, h.lo, h.bl⟩

set_option maxRecDepth 20000 in
set_option maxHeartbeats 4000000 in
theorem l91Ops_any {B r p : Nat} {w : World} (hR : Rdr B w r p) (hp : p ≤ 999900000) (b : Tx) (hb : b.length ≤ 9) :
    Calls Try.prog 83 #[.pointer (some ⟨r, 0, none⟩), .string (tx b)] w fun e w' => ∃ (v : Value) (ops : List Opn) (q : Nat), e = .returned v ∧ w'.ownsRow w.heap.size 109 3 v ops.length (ops.flatMap encOp) ∧ ops.length ≤ 3 ∧ Rdr B w' r q ∧ q ≤ p + 200 ∧ Fr B [102] w w' := by
  have hB : B ≤ w.heap.size := Nat.le_trans hR.1 (Nat.le_of_lt hR.lt)
  have HR0 := hid hR
  have hsb := tx_size b
  obtain ⟨iop, hpi, hpz0, hpz1, hpz2⟩ := info_parts infoOp
  go_enter Try.func83, Try.ntmps83
  have OE := hid (show (w.alloc (.cells #[] 109)).ownsRow w.heap.size 109 3 (.slice (some ⟨w.heap.size, 0, none⟩) 0 0) 0 [] from World.ownsRow_made w #[] 0 (Nat.le_refl _) (by decide) (by simp))
  have F0 := hid ((Fr.refl B [102] w).alloc (.cells #[] 109))
  go_wp2_with (go_at_call 71; (with_reducible refine (pick_at (n := 4) (HR0.out.alloc _) (by omega)).mono ?_); go_must (rintro e w1 ⟨k1, rfl, hk1, hR1, hf1⟩; have HR1 := hid hR1; have F1 := hid (F0.out.trans hf1); have O1 := hid (ownsRow_keep OE.out hf1 (by simp)); clear hR1 hf1))
  go_loopw [5, 7] (fun vo vi wx => ∃ (k q : Nat) (ops : List Opn), k ≤ k1 ∧ vi = .int .i64 k ∧ ops.length = k ∧ wx.ownsRow w.heap.size 109 3 vo k (ops.flatMap encOp) ∧ Rdr B wx r q ∧ q ≤ p + 3 + 50 * k ∧ Fr B [102] w wx) (fun _ vi _ => k1 - (intOf vi).toNat)
  case atStart => exact ⟨0, _, [], Nat.zero_le _, rfl, rfl, O1.out, HR1.out, by omega, F1.out⟩
  case round =>
    obtain ⟨k, q, ops, hk, rfl, hol, hown, hR5, hq, hfr⟩ := hrel
    have OWN := hid hown
    have HR5 := hid hR5
    have OL := hid hol
    obtain ⟨oa, ocap, rfl⟩ := own_any hown
    have hs5 := hfr.size
    clear hown hR5 hol
    by_cases hlt : k < k1
    · have hki : (k : Int) < (k1 : Int) := by omega
      have FX := hid ((Fr.refl B [102] wr).alloc (.cells #[.int .i64 0, .int .i64 0, .string (tx [98])] 109))
      have PX := hid (show Px B r q w (wr.alloc (.cells #[.int .i64 0, .int .i64 0, .string (tx [98])] 109)) wr.heap.size (.slice oa k ocap) k ops #[.int .i64 0, .int .i64 0, .string (tx [98])] from
        ⟨heap_alloc_new wr _, ownsRow_grow OWN.out ((Fr.refl 0 [] wr).alloc _), fun h => by have := (OWN.out.lt _ h).2; omega, HR5.out.alloc _, hfr.trans FX.out, hs5, hB⟩)
      clear FX
      go_upto_region 7 with fail
      go_cut [26] (fun v wx => ∃ (t : Bool) (q' : Nat), v = .bool t ∧ (t = true → b.length ≠ 0) ∧ Px B r q' w wx wr.heap.size (.slice oa k ocap) k ops #[.int .i64 0, .int .i64 0, .string (tx [98])] ∧ q' ≤ q + 1)
      case first =>
        by_cases hb0 : b.length = 0
        · go_wp2
          go_meet
          exact ⟨false, _, rfl, fun h => (by cases h), PX.out, by omega⟩
        · have hb1 : (0 : Int) < (b.length : Int) := by omega
          have HB0 := hid hb0
          clear hb0
          go_wp2_with (go_at_call 71; go_must (refine (pick_at PX.out.rd (by omega)).mono ?_; rintro e w2 ⟨k2, rfl, hk2, hR2, hf2⟩; have PX := hid (PX.out.pick hR2 hf2); clear hR2 hf2))
          go_meet
          exact ⟨_, _, rfl, fun _ => HB0.out, PX.out, by omega⟩
      case rest =>
        obtain ⟨t, q1, rfl, ht, hpx, hq1⟩ := hcut
        obtain ⟨W1, rfl⟩ : ∃ W : World, W = wc := ⟨_, rfl⟩
        have PX := hid hpx
        have HT := hid ht
        clear hpx ht
        go_upto_if 26 with fail
        go_cut [9] (fun v9 wx => ∃ (x y : Int) (q' : Nat) (t : Tx), Px B r q' w wx wr.heap.size (.slice oa k ocap) k ops #[.int .i64 x, .int .i64 y, .string (tx t)] ∧ q' ≤ q1 + 2)
        case first =>
          cases t
          · go_wp2
            go_meet
            exact ⟨_, _, _, [98], PX.out, by omega⟩
          · have hb0 := HT.out rfl
            have hb1 : (0 : Int) < (b.length : Int) := by omega
            clear hb0
            have x0 := cell_of (o := 0) PX.out.box rfl
            have x1 := cell_of (o := 1) PX.out.box rfl
            have x2 := cell_of (o := 2) PX.out.box rfl
            have xf := fun o => free_of (o := o) PX.out.box
            have xl := lt_of_get PX.out.box
            go_wp2_with (go_at_call 71; go_must (refine (pick_at PX.out.rd (by omega)).mono ?_; rintro e w2 ⟨k2, rfl, hk2, hR2, hf2⟩; have PX := hid (PX.out.pick hR2 hf2); have x0 := cell_of (o := 0) PX.out.box rfl; have x1 := cell_of (o := 1) PX.out.box rfl; have x2 := cell_of (o := 2) PX.out.box rfl; have xf := fun o => free_of (o := o) PX.out.box; have xl := lt_of_get PX.out.box; clear hR2 hf2))
            go_meet
            exact ⟨_, _, _, [], ((PX.out.set 0 _).set 1 _).set 2 _, by omega⟩
        case rest =>
          obtain ⟨x, y, q2, t2, hpx, hq2⟩ := hcut
          obtain ⟨W2, rfl⟩ : ∃ W : World, W = wc := ⟨_, rfl⟩
          have PX := hid hpx
          clear hpx
          go_upto_block 2 with (go_at_call 71; go_must (refine (pick_at PX.out.rd (by omega)).mono ?_; rintro e w2 ⟨k2, rfl, hk2, hR2, hf2⟩; have PX := hid (PX.out.pick hR2 hf2); have x0 := cell_of (o := 0) PX.out.box rfl; have x1 := cell_of (o := 1) PX.out.box rfl; have x2 := cell_of (o := 2) PX.out.box rfl; have xf := fun o => free_of (o := o) PX.out.box; have xl := lt_of_get PX.out.box; clear hR2 hf2))
          go_cut [9] (fun v9 wx => ∃ (x y : Int) (q' : Nat) (t : Tx), Px B r q' w wx wr.heap.size (.slice oa k ocap) k ops #[.int .i64 x, .int .i64 y, .string (tx t)] ∧ q' ≤ q2 + 22)
          case first =>
            go_wp2_with (first
              | (go_at_call 71; go_must (refine (pick_at PX.out.rd (by omega)).mono ?_; rintro e w2 ⟨k2, rfl, hk2, hR2, hf2⟩; have PX := hid (PX.out.pick hR2 hf2); have x0 := cell_of (o := 0) PX.out.box rfl; have x1 := cell_of (o := 1) PX.out.box rfl; have x2 := cell_of (o := 2) PX.out.box rfl; have xf := fun o => free_of (o := o) PX.out.box; have xl := lt_of_get PX.out.box; clear hR2 hf2))
              | (go_at_call 84; go_must (refine (l91Text_any PX.out.rd (by omega)).mono ?_; rintro e w2 ⟨t3, q3, rfl, htl, hR2, hq3, hf2⟩; have PX := hid (PX.out.pick hR2 hf2); have x0 := cell_of (o := 0) PX.out.box rfl; have x1 := cell_of (o := 1) PX.out.box rfl; have x2 := cell_of (o := 2) PX.out.box rfl; have xf := fun o => free_of (o := o) PX.out.box; have xl := lt_of_get PX.out.box; clear hR2 hf2)))
            all_goals go_meet
            all_goals first
              | exact ⟨_, _, _, _, PX.out, by omega⟩
              | exact ⟨_, _, _, _, PX.out.set 0 _, by omega⟩
              | exact ⟨_, _, _, _, PX.out.set 1 _, by omega⟩
              | exact ⟨_, _, _, _, PX.out.set 2 _, by omega⟩
          case rest =>
            obtain ⟨x3, y3, q3, t3, hpx, hq3⟩ := hcut
            obtain ⟨W3, rfl⟩ : ∃ W : World, W = wc := ⟨_, rfl⟩
            have x0 := cell_of (o := 0) hpx.box rfl
            have x1 := cell_of (o := 1) hpx.box rfl
            have x2 := cell_of (o := 2) hpx.box rfl
            have xl := lt_of_get hpx.box
            have PX := hid hpx
            have OG := hid (ownsRow_grow hpx.own ((Fr.refl 0 [] W3).alloc (.cells #[.int .i64 x3, .int .i64 y3, .string (tx t3)] 109)))
            have hs3 := hpx.fr.size
            clear hpx
            go_wp2_with (at_builtin; go_must (refine wpList_push rfl (.tmp 59) (.tmp 61) 30 rfl w.heap.size 109 iop (.agg #[.int .i64 0, .int .i64 0, .string ⟨#[]⟩]) 3 32 Try.underlying30 hpi hpz0 hpz1 hpz2 rfl (by decide) _ _ _ PX.out.own rfl (oneOpn _ _ _) (by unfold maxLen; omega) (by omega) (by omega) (by rfl) _ (by rfl) (by simp [World.setCell]) ?_; intro v7 w7 own7 fr7 _; have OWN7 := hid own7; have F7 := hid fr7; clear own7 fr7))
            go_roundw
            case rel =>
              exact ⟨k + 1, q3, ops ++ [⟨x3, y3, t3⟩], by omega, by go_num, by rw [List.length_append, OL.out]; rfl, by rw [List.flatMap_append]; exact OWN7.out, PX.out.rd.keep (F7.out.mono hB (fun _ x => x)) (by simp), by omega, PX.out.fr.after F7.out⟩
            case measure => simp [intOf]; omega
    · obtain rfl : k = k1 := by omega
      go_wp2
      go_ret
      exact ⟨_, ops, q, rfl, by rw [OL.out]; exact OWN.out, by rw [OL.out]; omega, HR5.out, by omega, hfr⟩

end Go.Proofs.Ytjgbconlpolddaa
