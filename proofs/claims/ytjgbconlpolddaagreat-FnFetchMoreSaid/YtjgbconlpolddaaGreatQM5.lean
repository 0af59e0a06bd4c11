/- Draws of ids. -/
import Derived.Test.YtjgbconlpolddaaGreatQPkDraw1
import Derived.Test.YtjgbconlpolddaaGreatQPkLink
import Derived.Test.YtjgbconlpolddaaGreatQPkPackS2
import Derived.Laws.StructEq
import Derived.Test.YtjgbconlpolddaaGreatQPkStore
import Derived.Test.YtjgbconlpolddaaGreatQM3
set_option linter.unusedVariables false
set_option linter.unusedSimpArgs false
namespace Go.Proofs.YtjgbconlpolddaaGreat
open Go.RowKit
set_option linter.unusedVariables false

/-- A drawn number. -/
def DrawI (B r p c : Nat) (w : World) (e : Ending) (w' : World) : Prop :=
  ∃ (n : Int) (q : Nat), e = .returned (.int .i64 n) ∧ Rdr B w' r q ∧ q ≤ p + c ∧ Fr B [110] w w' ∧ -1000 ≤ n ∧ n ≤ 1000

set_option maxRecDepth 20000 in
set_option maxHeartbeats 1000000 in
theorem l91Id_any {B r p : Nat} {w : World} (hR : Rdr B w r p) (hp : p ≤ 999999990) :
    Calls Tryz.prog 70 #[.pointer (some ⟨r, 0, none⟩)] w (DrawI B r p 3 w) := by
  have hB : B ≤ w.heap.size := Nat.le_trans hR.1 (Nat.le_of_lt hR.lt)
  go_enter Tryz.func70, Tryz.ntmps70
  go_wp2_with (first
    | (go_at_call 68; (with_reducible refine (pick_at (n := 30) hR (by omega)).mono ?_); go_must (rintro e w1 ⟨k, rfl, hk, hR1, hf1⟩))
    | (go_at_call 68; (with_reducible refine (pick_at (n := 99) hR1 (by omega)).mono ?_); go_must (rintro e w2 ⟨j, rfl, hj, hR2, hf2⟩))
    | (go_at_call 68; (with_reducible refine (pick_at (n := 10) hR2 (by omega)).mono ?_); go_must (rintro e w3 ⟨i, rfl, hi, hR3, hf3⟩))
    | (go_at_call 68; go_must (refine (pick_at (n := 3) (hR1.alloc _) (by omega)).mono ?_; rintro e w2 ⟨j, rfl, hj, hR2, hf2⟩; have hj3 : j < 3 := (by omega); have hcb := hf2.keep _ _ (heap_alloc_new w1 (.cells #[.int .i64 (-1), .int .i64 990, .int .i64 991] 3)) (.inr (by simp [otag])); obtain ⟨m, hm, hmm⟩ := cell3 hcb hj3; have hj3' : (j : Int) < 3 := (by omega); have HM := hid hmm; clear hmm)))
  · go_ret
    have hmm := HM.out
    exact ⟨m, _, rfl, hR2, by omega, (hf1.alloc _).trans hf2, by omega, by omega⟩
  · go_ret
    exact ⟨_, _, rfl, hR3, by omega, (hf1.trans hf2).trans hf3, by omega, by omega⟩

end Go.Proofs.YtjgbconlpolddaaGreat

/- The box of an object under way. -/
namespace Go.Proofs.YtjgbconlpolddaaGreat
open Go.RowKit
set_option linter.unusedVariables false

/-- The object's box, the result's box, the object's links. -/
structure Bx (B r q : Nat) (w W : World) (X R : Nat) (cs : Array Value) (v : Value) (l : List Int) : Prop where
  box : W.heap[X]? = some (.cells cs 37 (0, 0))
  res : W.heap[R]? = some (.cells #[.int .i64 0, .slice none 0 0, .string ⟨#[]⟩] 37 (0, 0))
  own : W.ownsRow w.heap.size 3 1 v l.length (l.map (Value.int .i64))
  rd : Rdr B W r q
  fr : Fr B [110] w W
  lo : w.heap.size ≤ R
  lt : R < X
  bl : B ≤ w.heap.size

theorem Bx.set {B r q : Nat} {w W : World} {X R : Nat} {cs : Array Value} {v : Value} {l : List Int} (h : Bx B r q w W X R cs v l) (o : Nat) (u : Value) : Bx B r q w (W.setCell ⟨X, o, none⟩ u) X R (cs.setIfInBounds o u) v l := by
  have F : Fr B [37] W (W.setCell ⟨X, o, none⟩ u) := (Fr.refl B [37] W).setOld (p := ⟨X, o, none⟩) h.box (Nat.le_trans h.bl (Nat.le_trans h.lo (Nat.le_of_lt h.lt))) (by simp [otag]) u
  exact ⟨block_set h.box o u, block_setne h.res (Nat.ne_of_lt h.lt), ownsRow_keep h.own F (by simp), h.rd.keep F (by simp), h.fr.setNew (p := ⟨X, o, none⟩) (Nat.le_trans h.lo (Nat.le_of_lt h.lt)) u, h.lo, h.lt, h.bl⟩

/-- Another row of links, in a world that is further on. -/
theorem Bx.next {B r q : Nat} {w W W' : World} {X R : Nat} {cs : Array Value} {v v' : Value} {l l' : List Int} (h : Bx B r q w W X R cs v l) (hf : Fr W.heap.size [] W W') (ho : W'.ownsRow w.heap.size 3 1 v' l'.length (l'.map (Value.int .i64))) : Bx B r q w W' X R cs v' l' :=
  ⟨hf.keep _ _ h.box (.inr (by simp)), hf.keep _ _ h.res (.inr (by simp)), ho, h.rd.keep (hf.nil (B' := B) (T := [])) (by simp), h.fr.trans hf.nil, h.lo, h.lt, h.bl⟩

theorem Bx.drew {B r q : Nat} {w W : World} {X R : Nat} {cs : Array Value} {v : Value} {l : List Int} (h : Bx B r q w W X R cs v l) : Bx B r q w W.drew X R cs v l :=
  ⟨h.box, h.res, h.own, h.rd.keep (Fr.refl B [] W).drew (by simp), h.fr.drew, h.lo, h.lt, h.bl⟩

theorem Bx.ap {B r q : Nat} {w W W' : World} {X R : Nat} {cs : Array Value} {v v' : Value} {l l' : List Int} {o : Obj} (h : Bx B r q w W X R cs v l) (hf : Fr w.heap.size [3] (W.alloc o) W') (ho : W'.ownsRow w.heap.size 3 1 v' l'.length (l'.map (Value.int .i64))) : Bx B r q w W' X R cs v' l' :=
  have F : Fr w.heap.size [3] W W' := ((Fr.refl _ _ W).alloc o).trans hf
  ⟨F.keep _ _ h.box (.inr (by simp [otag])), F.keep _ _ h.res (.inr (by simp [otag])), ho, h.rd.keep (F.mono h.bl (fun _ x => x)) (by simp), h.fr.after F, h.lo, h.lt, h.bl⟩

/-- A further pick. -/
theorem Bx.pick {B r q q' : Nat} {w W W' : World} {X R : Nat} {cs : Array Value} {v : Value} {l : List Int} (h : Bx B r q w W X R cs v l) (hr : Rdr B W' r q') (hf : Fr B [110] W W') : Bx B r q' w W' X R cs v l :=
  ⟨hf.keep _ _ h.box (.inr (by simp [otag])), hf.keep _ _ h.res (.inr (by simp [otag])), ownsRow_keep h.own hf (by simp), hr, h.fr.trans hf, h.lo, h.lt, h.bl⟩

/-- A push to a row that is newer than the boxes. -/
theorem Bx.push {B r q s : Nat} {w W W' : World} {X R : Nat} {cs : Array Value} {v v' : Value} {l l' : List Int} (h : Bx B r q w W X R cs v l) (hX : X < s) (hf : Fr s [3] W W') (ho : W'.ownsRow w.heap.size 3 1 v' l'.length (l'.map (Value.int .i64))) : Bx B r q w W' X R cs v' l' := by
  have hw : w.heap.size ≤ s := Nat.le_trans h.lo (Nat.le_of_lt (Nat.lt_trans h.lt hX))
  exact ⟨hf.keep _ _ h.box (.inl hX), hf.keep _ _ h.res (.inl (Nat.lt_trans h.lt hX)), ho, h.rd.keep (hf.mono (Nat.le_trans h.bl hw) (fun _ x => x)) (by simp), h.fr.after (hf.mono hw (fun _ x => x)), h.lo, h.lt, h.bl⟩

/-- A drawn object, its links in a row of its own. -/
def DrawO (B r p : Nat) (w : World) (e : Ending) (w' : World) : Prop :=
  ∃ (o : Ob) (v : Value) (q : Nat), e = .returned (.agg #[.int .i64 o.kind, v, .string (tx o.text)]) ∧ w'.ownsRow w.heap.size 3 1 v o.links.length (o.links.map (Value.int .i64)) ∧ o.links.length ≤ 1000 ∧ o.text.length ≤ 9 ∧ -1000 ≤ o.kind ∧ o.kind ≤ 1000 ∧ Rdr B w' r q ∧ q ≤ p + 60 ∧ Fr B [110] w w'

theorem Bx.fin {B r q p : Nat} {w W : World} {X : Nat} {kd : Int} {v : Value} {t : Tx} {l : List Int} (h : Bx B r q w W X w.heap.size #[.int .i64 kd, v, .string (tx t)] v l) (h1 : l.length ≤ 1000) (h2 : t.length ≤ 9) (h3 : -1000 ≤ kd) (h4 : kd ≤ 1000) (h5 : q ≤ p + 60) :
    DrawO B r p w (.returned (.agg #[.int .i64 kd, v, .string (tx t)])) (((W.setCell ⟨w.heap.size, 0, none⟩ (.int .i64 kd)).setCell ⟨w.heap.size, 1, none⟩ v).setCell ⟨w.heap.size, 2, none⟩ (.string (tx t))) ∧
    (((W.setCell ⟨w.heap.size, 0, none⟩ (.int .i64 kd)).setCell ⟨w.heap.size, 1, none⟩ v).setCell ⟨w.heap.size, 2, none⟩ (.string (tx t))).heap[w.heap.size]? = some (.cells #[.int .i64 kd, v, .string (tx t)] 37 (0, 0)) := by
  have b1 := block_set h.res 0 (.int .i64 kd)
  have b2 := block_set b1 1 v
  have b3 := block_set b2 2 (.string (tx t))
  have F1 : Fr B [37] W (W.setCell ⟨w.heap.size, 0, none⟩ (.int .i64 kd)) := (Fr.refl B [37] W).setOld (p := ⟨w.heap.size, 0, none⟩) h.res h.bl (by simp [otag]) _
  have F2 := F1.setOld (p := ⟨w.heap.size, 1, none⟩) b1 h.bl (by simp [otag]) v
  have F3 := F2.setOld (p := ⟨w.heap.size, 2, none⟩) b2 h.bl (by simp [otag]) (.string (tx t))
  exact ⟨⟨⟨kd, l, t⟩, v, q, rfl, ownsRow_keep h.own F3 (by simp), h1, h2, h3, h4, h.rd.keep F3 (by simp), h5, ((h.fr.setNew (p := ⟨w.heap.size, 0, none⟩) (Nat.le_refl _) _).setNew (p := ⟨w.heap.size, 1, none⟩) (Nat.le_refl _) _).setNew (p := ⟨w.heap.size, 2, none⟩) (Nat.le_refl _) _⟩, b3⟩

end Go.Proofs.YtjgbconlpolddaaGreat

/- Draw of an object. -/
namespace Go.Proofs.YtjgbconlpolddaaGreat
open Go.RowKit
set_option linter.unusedVariables false

set_option maxRecDepth 20000 in
set_option maxHeartbeats 4000000 in
theorem l91Object_any (K : Nat → Bool → Prop) {B r p : Nat} {w : World} (hR : Rdr B w r p) (hp : p ≤ 999990000) (v : Value) (ids : List Int) (hv : IntsR K w v ids) (hl : ids.length ≤ 20) (hK : Safe K B [110] 3) (hin : ∀ (i : Nat) (h : i < ids.length), -1000 ≤ ids[i] ∧ ids[i] ≤ 1000) :
    Calls Tryz.prog 87 #[.pointer (some ⟨r, 0, none⟩), v] w (DrawO B r p w) := by
  have hB : B ≤ w.heap.size := Nat.le_trans hR.1 (Nat.le_of_lt hR.lt)
  obtain ⟨a, cap, rfl, hcap, -⟩ := hv.shape
  have HV := hid hv
  have HR0 := hid hR
  clear hv
  obtain ⟨i0, hi, hz0, hz1, hz2⟩ := info_parts infoI
  go_enter Tryz.func87, Tryz.ntmps87
  have RB := hid (heap_alloc_new w (.cells #[.int .i64 0, .slice none 0 0, .string ⟨#[]⟩] 37))
  have F0 := hid ((Fr.refl B [110] w).alloc (.cells #[.int .i64 0, .slice none 0 0, .string ⟨#[]⟩] 37))
  go_upto_if 17 with (first
    | (go_at_call 68; go_must (refine (pick_at (n := 3) (HR0.out.alloc _) (by omega)).mono ?_; rintro e w1 ⟨k1, rfl, hk1, hR1, hf1⟩; have HR1 := hid hR1; have RB1 := hid (hf1.keep _ _ RB.out (.inr (by simp [otag]))); have F1 := hid (F0.out.trans hf1); clear hR1 hf1))
    | (go_at_call 106; go_must (refine (l91Text_any (HR1.out.alloc (.cells #[] 3)) (by omega)).mono ?_; rintro e w2 ⟨t, q2, rfl, htl, hR2, hq2, hf2⟩; have HR2 := hid hR2; have RB2 := hid (hf2.keep _ _ (heap_up RB1.out _) (.inr (by simp [otag]))); have IB2 := hid (hf2.keep _ _ (heap_alloc_new w1 (.cells #[] 3)) (.inr (by simp [otag]))); have F2 := hid ((F1.out.alloc (.cells #[] 3)).trans hf2); clear hR2)))
  have XB := hid (heap_alloc_new w2 (.cells #[.int .i64 (1 + (k1 : Int)), .slice (some ⟨w1.heap.size, 0, none⟩) 0 0, .string (tx t)] 37))
  have RB3 := hid (heap_up RB2.out (.cells #[.int .i64 (1 + (k1 : Int)), .slice (some ⟨w1.heap.size, 0, none⟩) 0 0, .string (tx t)] 37))
  have F3 := hid (F2.out.alloc (.cells #[.int .i64 (1 + (k1 : Int)), .slice (some ⟨w1.heap.size, 0, none⟩) 0 0, .string (tx t)] 37))
  have hs1 := F1.out.size
  have hs2 := F2.out.size
  have OW := hid (show (w2.alloc (.cells #[.int .i64 (1 + (k1 : Int)), .slice (some ⟨w1.heap.size, 0, none⟩) 0 0, .string (tx t)] 37)).ownsRow w.heap.size 3 1 (.slice (some ⟨w1.heap.size, 0, none⟩) 0 0) ([] : List Int).length (([] : List Int).map (Value.int .i64)) from
    ⟨rfl, .inr ⟨w1.heap.size, 0, #[], rfl, hs1, heap_up IB2.out _, Nat.le_refl _, Nat.zero_le _, rfl, rfl⟩⟩)
  have HR3 := hid (HR2.out.alloc (.cells #[.int .i64 (1 + (k1 : Int)), .slice (some ⟨w1.heap.size, 0, none⟩) 0 0, .string (tx t)] 37))
  have hwx : w.heap.size < w2.heap.size := lt_of_get RB2.out
  clear RB RB1 RB2 HR1 HR2 F0 F1 IB2
  revert OW XB RB3 F3 HR3
  generalize w2.alloc (.cells #[.int .i64 (1 + (k1 : Int)), .slice (some ⟨w1.heap.size, 0, none⟩) 0 0, .string (tx t)] 37) = W3 at *
  intro XB RB3 F3 OW HR3
  have x0 := cell_of (o := 0) XB.out rfl
  have x1 := cell_of (o := 1) XB.out rfl
  have x2 := cell_of (o := 2) XB.out rfl
  have xf := fun o => free_of (o := o) XB.out
  have hxl := lt_of_get XB.out
  have hk3 : (k1 : Int) < 3 := by omega
  go_cut [7] (fun _ wx => ∃ (kd : Int) (v : Value) (links : List Int) (t' : Tx) (q : Nat), Bx B r q w wx w2.heap.size w.heap.size #[.int .i64 kd, v, .string (tx t')] v links ∧ links.length ≤ 991 ∧ t'.length ≤ 9 ∧ -10 ≤ kd ∧ kd ≤ 10 ∧ q ≤ p + 50)
  case first =>
    by_cases hk0 : k1 = 0
    · subst hk0
      go_wp2
      go_meet
      exact ⟨_, _, [], t, q2, ⟨XB.out, RB3.out, OW.out, HR3.out, F3.out, Nat.le_refl _, hwx, hB⟩, by simp, htl, by omega, by omega, by omega⟩
    · have hk1' : ((1 : Int) + (k1 : Int) != 1) = true := by simp; omega
      go_wp2
      rw [hk1']
      go_loopw [6, 7] (fun vl vi wx => ∃ (k q : Nat) (l : List Int), k ≤ ids.length ∧ vi = .int .i64 k ∧ l.length ≤ k ∧ wx.ownsRow W3.heap.size 3 1 vl l.length (l.map (Value.int .i64)) ∧ Rdr B wx r q ∧ q ≤ q2 + k ∧ Fr B [110] W3 wx) (fun _ vi _ => ids.length - (intOf vi).toNat)
      case atStart => exact ⟨0, q2, [], Nat.zero_le _, rfl, Nat.le_refl _, World.ownsRow_lit (e := 3) (size := 1) W3 #[] 0 (Nat.le_refl _) (by decide) rfl, HR3.out.alloc _, by omega, (Fr.refl _ _ _).alloc _⟩
      case round =>
        obtain ⟨k, q, l, hk, rfl, hlk, hown, hR5, hq, hfr⟩ := hrel
        have OWN := hid hown
        have HR5 := hid hR5
        obtain ⟨oa, ocap, rfl⟩ := own_any hown
        have hs5 := hfr.size
        clear hown hR5
        by_cases hc : k < ids.length ∧ l.length < 4
        · obtain ⟨hki, hl4⟩ := hc
          have ik : (k : Int) < (ids.length : Int) := by omega
          have il : (l.length : Int) < 4 := by omega
          obtain ⟨a', cap', hva, -, hcell⟩ := (HV.out.keep (F3.out.trans hfr) hK).shape
          cases hva
          rcases hcell with hh | ⟨b, off, hae, hbs, hcell⟩
          · rw [hh] at hki; cases hki
          · subst hae
            have c0 := hcell k hki
            clear hcell
            go_wp2_with (first
              | (go_at_call 68; go_must (refine (pick_at (n := 3) HR5.out (by omega)).mono ?_; rintro e w6 ⟨k6, rfl, hk6, hR6, hf6⟩; have HR6 := hid hR6; have F6 := hid (hfr.trans hf6); have OWN6 := hid (ownsRow_keep OWN.out hf6 (by simp)); have d0 := (show w6.cell? ⟨b, off + k, none⟩ = some (.int .i64 ids[k]) by
                  obtain ⟨a2, cap2, hva2, -, hcell2⟩ := (HV.out.keep (F3.out.trans F6.out) hK).shape
                  cases hva2
                  rcases hcell2 with hh | ⟨b2, off2, hae, -, hcell2⟩
                  · rw [hh] at hki; cases hki
                  · cases hae; exact hcell2 k hki); have hs6 := F6.out.size; clear hR6 hf6 c0))
              | (at_builtin; go_must (refine wpList_push rfl (.tmp 33) (.tmp 38) 24 rfl W3.heap.size 3 i0 (.int .i64 0) 1 8 Tryz.underlying24 hi hz0 hz1 hz2 rfl (by decide) _ _ _ OWN6.out rfl (oneInt _) (by unfold maxLen; omega) (by omega) (by omega) (by rfl) _ (by rfl) (by simp [World.setCell]) ?_; intro v7 w7 own7 fr7 _; have OWN7 := hid own7; have F7 := hid (F6.out.after fr7); have HR7 := hid (HR6.out.keep (fr7.mono (by have := hR.1; omega) (fun _ h => h)) (by simp)); clear own7 fr7)))
            · go_roundw
              case rel => exact ⟨k + 1, _, l ++ [ids[k]], by omega, by go_num, by simp; omega, by rw [List.map_append, List.length_append]; exact OWN7.out, HR7.out, by omega, F7.out⟩
              case measure => simp [intOf]; omega
            · go_roundw
              case rel => exact ⟨k + 1, _, l, by omega, by go_num, by omega, OWN6.out, HR6.out, by omega, F6.out⟩
              case measure => simp [intOf]; omega
        · have BX5 := hid (show Bx B r q w wr w2.heap.size w.heap.size #[.int .i64 (1 + (k1 : Int)), .slice (some ⟨w1.heap.size, 0, none⟩) 0 0, .string (tx t)] (.slice oa l.length ocap) l from ⟨hfr.keep _ _ XB.out (.inr (by simp [otag])), hfr.keep _ _ RB3.out (.inr (by simp [otag])), ownsRow_lo OWN.out (by have := F3.out.size; omega), HR5.out, F3.out.trans hfr, Nat.le_refl _, hwx, hB⟩)
          have hl10 : l.length ≤ 20 := by omega
          have hcs : (k < ids.length ∧ ¬ l.length < 4) ∨ ¬ k < ids.length := by
            by_cases h : k < ids.length
            · exact .inl ⟨h, fun h4 => hc ⟨h, h4⟩⟩
            · exact .inr h
          rcases hcs with ⟨hki, hl4⟩ | hki
          · have ik : (k : Int) < (ids.length : Int) := by omega
            have il : ¬ (l.length : Int) < 4 := by omega
            go_wp2_with (first
              | (go_at_call 68; (with_reducible refine (pick_at (n := 8) HR5.out (by omega)).mono ?_); go_must (rintro e w6 ⟨k6, rfl, hk6, hR6, hf6⟩; have OWN6 := hid (ownsRow_keep OWN.out hf6 (by simp)); have BX6 := hid (BX5.out.pick hR6 hf6); have F6 := hid (hfr.trans hf6); have SO6 := hid (show IntsR (new W3.heap.size) w6 (.slice oa l.length ocap) l from SlR.ofOwns OWN6.out); clear hR6 hf6))
              | (go_at_call 68; (with_reducible refine (pick_at (n := 99) BX6.out.rd (by omega)).mono ?_); go_must (rintro e w7 ⟨k7, rfl, hk7, hR7, hf7⟩; have OWN7 := hid (ownsRow_keep OWN6.out hf7 (by simp)); have BX7 := hid (BX6.out.pick hR7 hf7); have F7 := hid (F6.out.trans hf7); have hs7 := F7.out.size; clear hR7 hf7))
              | (at_builtin; go_must (refine wpList_push rfl (.tmp 43) (.tmp 47) 24 rfl W3.heap.size 3 i0 (.int .i64 0) 1 8 Tryz.underlying24 hi hz0 hz1 hz2 rfl (by decide) _ _ _ OWN7.out rfl (oneInt _) (by unfold maxLen; omega) (by omega) (by omega) (by rfl) _ (by rfl) (by simp [World.setCell]) ?_; intro v8 w8 own8 fr8 _; obtain ⟨a8, cap8, rfl⟩ := own_any own8; have OWN8 := hid (show w8.ownsRow W3.heap.size 3 1 (.slice a8 (l.length + 1) cap8) (l ++ [10 * (k7 : Int)]).length ((l ++ [10 * (k7 : Int)]).map (Value.int .i64)) from by rw [List.map_append, List.length_append]; exact own8); have BX8 := hid (BX7.out.push hxl fr8 (ownsRow_lo OWN8.out (by have := F3.out.size; omega))); have SO8 := hid (show IntsR (new W3.heap.size) w8 (.slice a8 (l.length + 1) cap8) (l ++ [10 * (k7 : Int)]) from SlR.ofOwns OWN8.out); clear own8 fr8))
              | (go_at_call 69; (with_reducible refine (l1Sorted_any (new W3.heap.size) _ l w6 SO6.out (by first | omega | (simp; omega))).mono ?_); go_must (rintro e w9 ⟨v9, rfl, own9, hf9⟩; obtain ⟨a9, cap9, rfl⟩ := own_any own9; have len9 := sortedTo_len l 991; have BX9 := hid (BX6.out.next hf9 (ownsRow_lo own9 (by have := BX6.out.fr.size; omega))); revert own9 BX9 len9; generalize sortedTo l 991 = l9; intro own9 len9 BX9; clear own9; have x90 := cell_of (o := 0) BX9.out.box rfl; have x91 := cell_of (o := 1) BX9.out.box rfl; have x92 := cell_of (o := 2) BX9.out.box rfl; have x9f := fun o => free_of (o := o) BX9.out.box; have x9l := lt_of_get BX9.out.box))
              | (go_at_call 69; (with_reducible refine (l1Sorted_any (new W3.heap.size) _ (l ++ [10 * (k7 : Int)]) w8 SO8.out (by first | omega | (simp; omega))).mono ?_); go_must (rintro e w9 ⟨v9, rfl, own9, hf9⟩; obtain ⟨a9, cap9, rfl⟩ := own_any own9; have len9 := sortedTo_len (l ++ [10 * (k7 : Int)]) 991; have BX9 := hid (BX8.out.next hf9 (ownsRow_lo own9 (by have := BX8.out.fr.size; omega))); revert own9 BX9 len9; generalize sortedTo (l ++ [10 * (k7 : Int)]) 991 = l9; intro own9 len9 BX9; clear own9; have x90 := cell_of (o := 0) BX9.out.box rfl; have x91 := cell_of (o := 1) BX9.out.box rfl; have x92 := cell_of (o := 2) BX9.out.box rfl; have x9f := fun o => free_of (o := o) BX9.out.box; have x9l := lt_of_get BX9.out.box)))
            all_goals
             go_meet
             first
             | exact ⟨1 + (k1 : Int), _, l9, [], _, (BX9.out.set 1 _).set 2 _, by omega, by simp, by omega, by omega, by omega⟩
             | exact ⟨1, _, l9, t, _, (BX9.out.set 1 _).set 0 _, by omega, htl, by omega, by omega, by omega⟩
             | exact ⟨1 + (k1 : Int), _, l9, t, _, BX9.out.set 1 _, by omega, htl, by omega, by omega, by omega⟩
          · have ik : ¬ (k : Int) < (ids.length : Int) := by omega
            go_wp2_with (first
              | (go_at_call 68; (with_reducible refine (pick_at (n := 8) HR5.out (by omega)).mono ?_); go_must (rintro e w6 ⟨k6, rfl, hk6, hR6, hf6⟩; have OWN6 := hid (ownsRow_keep OWN.out hf6 (by simp)); have BX6 := hid (BX5.out.pick hR6 hf6); have F6 := hid (hfr.trans hf6); have SO6 := hid (show IntsR (new W3.heap.size) w6 (.slice oa l.length ocap) l from SlR.ofOwns OWN6.out); clear hR6 hf6))
              | (go_at_call 68; (with_reducible refine (pick_at (n := 99) BX6.out.rd (by omega)).mono ?_); go_must (rintro e w7 ⟨k7, rfl, hk7, hR7, hf7⟩; have OWN7 := hid (ownsRow_keep OWN6.out hf7 (by simp)); have BX7 := hid (BX6.out.pick hR7 hf7); have F7 := hid (F6.out.trans hf7); have hs7 := F7.out.size; clear hR7 hf7))
              | (at_builtin; go_must (refine wpList_push rfl (.tmp 43) (.tmp 47) 24 rfl W3.heap.size 3 i0 (.int .i64 0) 1 8 Tryz.underlying24 hi hz0 hz1 hz2 rfl (by decide) _ _ _ OWN7.out rfl (oneInt _) (by unfold maxLen; omega) (by omega) (by omega) (by rfl) _ (by rfl) (by simp [World.setCell]) ?_; intro v8 w8 own8 fr8 _; obtain ⟨a8, cap8, rfl⟩ := own_any own8; have OWN8 := hid (show w8.ownsRow W3.heap.size 3 1 (.slice a8 (l.length + 1) cap8) (l ++ [10 * (k7 : Int)]).length ((l ++ [10 * (k7 : Int)]).map (Value.int .i64)) from by rw [List.map_append, List.length_append]; exact own8); have BX8 := hid (BX7.out.push hxl fr8 (ownsRow_lo OWN8.out (by have := F3.out.size; omega))); have SO8 := hid (show IntsR (new W3.heap.size) w8 (.slice a8 (l.length + 1) cap8) (l ++ [10 * (k7 : Int)]) from SlR.ofOwns OWN8.out); clear own8 fr8))
              | (go_at_call 69; (with_reducible refine (l1Sorted_any (new W3.heap.size) _ l w6 SO6.out (by first | omega | (simp; omega))).mono ?_); go_must (rintro e w9 ⟨v9, rfl, own9, hf9⟩; obtain ⟨a9, cap9, rfl⟩ := own_any own9; have len9 := sortedTo_len l 991; have BX9 := hid (BX6.out.next hf9 (ownsRow_lo own9 (by have := BX6.out.fr.size; omega))); revert own9 BX9 len9; generalize sortedTo l 991 = l9; intro own9 len9 BX9; clear own9; have x90 := cell_of (o := 0) BX9.out.box rfl; have x91 := cell_of (o := 1) BX9.out.box rfl; have x92 := cell_of (o := 2) BX9.out.box rfl; have x9f := fun o => free_of (o := o) BX9.out.box; have x9l := lt_of_get BX9.out.box))
              | (go_at_call 69; (with_reducible refine (l1Sorted_any (new W3.heap.size) _ (l ++ [10 * (k7 : Int)]) w8 SO8.out (by first | omega | (simp; omega))).mono ?_); go_must (rintro e w9 ⟨v9, rfl, own9, hf9⟩; obtain ⟨a9, cap9, rfl⟩ := own_any own9; have len9 := sortedTo_len (l ++ [10 * (k7 : Int)]) 991; have BX9 := hid (BX8.out.next hf9 (ownsRow_lo own9 (by have := BX8.out.fr.size; omega))); revert own9 BX9 len9; generalize sortedTo (l ++ [10 * (k7 : Int)]) 991 = l9; intro own9 len9 BX9; clear own9; have x90 := cell_of (o := 0) BX9.out.box rfl; have x91 := cell_of (o := 1) BX9.out.box rfl; have x92 := cell_of (o := 2) BX9.out.box rfl; have x9f := fun o => free_of (o := o) BX9.out.box; have x9l := lt_of_get BX9.out.box)))
            all_goals
             go_meet
             first
             | exact ⟨1 + (k1 : Int), _, l9, [], _, (BX9.out.set 1 _).set 2 _, by omega, by simp, by omega, by omega, by omega⟩
             | exact ⟨1, _, l9, t, _, (BX9.out.set 1 _).set 0 _, by omega, htl, by omega, by omega, by omega⟩
             | exact ⟨1 + (k1 : Int), _, l9, t, _, BX9.out.set 1 _, by omega, htl, by omega, by omega, by omega⟩
  case rest =>
    obtain ⟨kd, v, links, t', q, hbx, hll, htl', hkd1, hkd2, hq⟩ := hcut
    obtain ⟨oa, ocap, rfl⟩ := own_any hbx.own
    have BXC := hid hbx
    clear hbx OW XB RB3 F3 HR3 x0 x1 x2 xf hxl HV F2 hf2 hq2 HR0
    go_upto_if 63 with (go_at_call 68; go_must (refine (pick_at (n := 40) BXC.out.rd (by omega)).mono ?_; rintro e w4 ⟨k4, rfl, hk4, hR4, hf4⟩; have BX4 := hid (BXC.out.pick hR4 hf4); have x40 := cell_of (o := 0) BX4.out.box rfl; have x41 := cell_of (o := 1) BX4.out.box rfl; have x42 := cell_of (o := 2) BX4.out.box rfl; have x4f := fun o => free_of (o := o) BX4.out.box; have x4l := lt_of_get BX4.out.box; have r40 := cell_of (o := 0) BX4.out.res rfl; have r41 := cell_of (o := 1) BX4.out.res rfl; have r42 := cell_of (o := 2) BX4.out.res rfl; have r4f := fun o => free_of (o := o) BX4.out.res; have r4l := lt_of_get BX4.out.res; clear BXC hR4 hf4))
    all_goals
      go_wp2_with (go_at_call 68; go_must (refine (pick_at (n := 6) BX4.out.rd (by omega)).mono ?_; rintro e w5 ⟨k5, rfl, hk5, hR5, hf5⟩; have BX5 := hid (BX4.out.pick hR5 hf5); have x50 := cell_of (o := 0) BX5.out.box rfl; have x51 := cell_of (o := 1) BX5.out.box rfl; have x52 := cell_of (o := 2) BX5.out.box rfl; have x5f := fun o => free_of (o := o) BX5.out.box; have x5l := lt_of_get BX5.out.box; have r50 := cell_of (o := 0) BX5.out.res rfl; have r51 := cell_of (o := 1) BX5.out.res rfl; have r52 := cell_of (o := 2) BX5.out.res rfl; have r5f := fun o => free_of (o := o) BX5.out.res; have r5l := lt_of_get BX5.out.res; clear x40 x41 x42 x4f r40 r41 r42 r4f))
      · obtain ⟨hd, hbk⟩ := (BX5.out.set 0 (.int .i64 ((k5 : Int) - 1))).fin (p := p) (kd := (k5 : Int) - 1) (by omega) htl' (by omega) (by omega) (by omega)
        have g0 := cell_of (o := 0) hbk rfl
        have g1 := cell_of (o := 1) hbk rfl
        have g2 := cell_of (o := 2) hbk rfl
        exact bodyPost_ret (by simp [results, Tryz.results87, go_sem, g0, g1, g2]) rfl hd
      · have BXD := hid (BX4.out.drew)
        have xd1 := cell_of (o := 1) BXD.out.box rfl
        go_region_law
          (first
            | (go_simp; go_at_call 70; go_must (refine (l91Id_any BXD.out.rd (by omega)).mono ?_; rintro e w5 ⟨n5, q5, rfl, hR5, hq5, hf5, hn1, hn2⟩; have BX5 := hid (BXD.out.pick hR5 hf5); have x51 := cell_of (o := 1) BX5.out.box rfl; have y51 := cell_alloc (o := .cells #[.int .i64 n5] 3) x51; have x5f := free_of (o := 1) BX5.out.box; have x5l := lt_of_get BX5.out.box; clear hR5 hf5); (try go_wp2_with fail))
            | (go_must (refine step_ap rfl (.tmp 72) (.tmp 75) 24 rfl w.heap.size 3 i0 (.int .i64 0) 1 8 Tryz.underlying24 hi hz0 hz1 hz2 rfl (by decide) (.slice oa links.length ocap) links.length (links.map (Value.int .i64)) (by rfl) (ownsRow_grow BX5.out.own ((Fr.refl 0 [] _).alloc _)) (new w5.heap.size) 3 _ 1 [.int .i64 n5] (by rfl) (SlR.lit rfl) (oneInt _) (by unfold maxLen; omega) (by omega) (by have := BX5.out.fr.size; simp; omega) ?_; intro v6 w6 own6 fr6; obtain ⟨a6, cap6, rfl⟩ := own_any own6; have BX6 := hid (BX5.out.ap (l' := links ++ [n5]) fr6 (by rw [List.map_append, List.length_append]; exact own6)); have x60 := cell_of (o := 0) BX6.out.box rfl; have x61 := cell_of (o := 1) BX6.out.box rfl; have x62 := cell_of (o := 2) BX6.out.box rfl; have x6f := fun o => free_of (o := o) BX6.out.box; have x6l := lt_of_get BX6.out.box; have r60 := cell_of (o := 0) BX6.out.res rfl; have r61 := cell_of (o := 1) BX6.out.res rfl; have r62 := cell_of (o := 2) BX6.out.res rfl; have r6f := fun o => free_of (o := o) BX6.out.res; have r6l := lt_of_get BX6.out.res; clear own6 fr6)))
        all_goals go_wp2
        all_goals
          obtain ⟨hd, hbk⟩ := (BX6.out.set 1 (.slice a6 (links.length + 1) cap6)).fin (p := p) (by simp; omega) htl' (by omega) (by omega) (by omega)
          have g0 := cell_of (o := 0) hbk rfl
          have g1 := cell_of (o := 1) hbk rfl
          have g2 := cell_of (o := 2) hbk rfl
          exact bodyPost_ret (by simp [results, Tryz.results87, go_sem, g0, g1, g2]) rfl hd
      · obtain ⟨hd, hbk⟩ := BX4.out.fin (p := p) (by omega) htl' (by omega) (by omega) (by omega)
        have g0 := cell_of (o := 0) hbk rfl
        have g1 := cell_of (o := 1) hbk rfl
        have g2 := cell_of (o := 2) hbk rfl
        exact bodyPost_ret (by simp [results, Tryz.results87, go_sem, g0, g1, g2]) rfl hd

end Go.Proofs.YtjgbconlpolddaaGreat

/- A pack with a base that does not come earlier. -/
namespace Go.Proofs.YtjgbconlpolddaaGreat
open Go.RowKit
set_option linter.unusedVariables false

theorem linkPack_no (K : Nat → Bool → Prop) (v : Value) (es : List En) (w : World) (hv : EnsR K w v es) (hl : es.length ≤ 1000) (hKi : Safe K w.heap.size [67] 3) (hKo : Safe K w.heap.size [67] 91) (hno : linkOk es = false) :
    Calls Tryz.prog 33 #[v] w fun e w' => Fr w.heap.size [] w w' ∧ e = .returned (.tuple #[.slice none 0 0, .bool false]) := by
  refine (linkPack_any K v es w hv hl hKi hKo).mono ?_
  rintro e w1 ⟨fr1, ⟨-, rfl⟩ | ⟨h, -⟩⟩
  · exact ⟨fr1, rfl⟩
  · rw [hno] at h; cases h

set_option maxRecDepth 20000 in
set_option maxHeartbeats 2000000 in
theorem packObjects_no (K : Nat → Bool → Prop) (v : Value) (es : List En) (w : World) (hv : EnsR K w v es) (hl : es.length ≤ 16) (hKi : Safe K w.heap.size [67] 3) (hKo : Safe K w.heap.size [67] 91) (hno : linkOk es = false) :
    Calls Tryz.prog 11 #[v] w fun e w' => Fr w.heap.size [] w w' ∧ e = .returned (.tuple #[.slice none 0 0, .bool false]) := by
  obtain ⟨a, cap, rfl, hcap, -⟩ := hv.shape
  have HV := hid hv
  have NO := hid hno
  have i16 : ¬ (16 : Int) < (es.length : Int) := by omega
  have i17 : (es.length : Int) ≤ 16 := by omega
  clear hv hno
  go_enter Tryz.func11, Tryz.ntmps11
  go_wp2_with (go_at_call 33; go_must (refine (linkPack_no K _ es _ HV.out (by omega) hKi hKo NO.out).mono ?_; rintro e w1 ⟨fr1, rfl⟩))
  go_ret2
  exact ⟨fr1, rfl⟩

end Go.Proofs.YtjgbconlpolddaaGreat

/- Deltas applied, packs read back: plain functions and laws. -/
namespace Go.Proofs.YtjgbconlpolddaaGreat
open Go.RowKit
set_option linter.unusedVariables false

/-- Whether an operation fits a base. -/
def opOk (b : Tx) (o : Opn) : Bool :=
  if o.size = 0 then decide (o.pos = 0) && inR o.text.length 1 8
  else decide (o.text = []) && inR o.size 1 b.length && inR o.pos 0 ((b.length : Int) - o.size)

/-- What it makes. -/
def opPart (b : Tx) (o : Opn) : Tx := if o.size = 0 then o.text else (b.drop o.pos.toNat).take o.size.toNat

def dappTo (b : Tx) (ops : List Opn) : Nat → Option Tx
  | 0 => some []
  | k + 1 => match dappTo b ops k, ops[k]? with
    | some t, some o => if opOk b o = true ∧ t.length + (opPart b o).length ≤ 8 then some (t ++ opPart b o) else none
    | r, _ => r

/-- What operations make of a base. -/
def dapp (b : Tx) (ops : List Opn) : Option Tx := if b.length ≤ 8 ∧ ops.length ≤ 8 then dappTo b ops ops.length else none

theorem dappTo_succ {b t : Tx} {ops : List Opn} {k : Nat} (hk : k < ops.length) (h : dappTo b ops k = some t) :
    dappTo b ops (k + 1) = if opOk b ops[k] = true ∧ t.length + (opPart b ops[k]).length ≤ 8 then some (t ++ opPart b ops[k]) else none := by
  simp [dappTo, h, List.getElem?_eq_getElem hk]

theorem dappTo_none {b : Tx} {ops : List Opn} {k : Nat} (h : dappTo b ops k = none) : ∀ n, k ≤ n → dappTo b ops n = none := by
  intro n
  induction n with
  | zero => intro hn; obtain rfl : k = 0 := by omega
            exact h
  | succ n ih =>
    intro hn
    by_cases e : k = n + 1
    · subst e; exact h
    · simp [dappTo, ih (by omega)]

theorem dappTo_all {b : Tx} {ops : List Opn} (hok : ∀ o ∈ ops, opOk b o = true) (hl : (ops.flatMap (opPart b)).length ≤ 8) : ∀ k, k ≤ ops.length → dappTo b ops k = some ((ops.take k).flatMap (opPart b)) := by
  intro k
  induction k with
  | zero => intro _; simp [dappTo]
  | succ k ih =>
    intro hk
    have hk' : k < ops.length := by omega
    rw [dappTo_succ hk' (ih (by omega))]
    have e1 : ops.take (k + 1) = ops.take k ++ [ops[k]] := by rw [List.take_add_one, List.getElem?_eq_getElem hk']; rfl
    have e2 : ops = ops.take (k + 1) ++ ops.drop (k + 1) := (List.take_append_drop _ _).symm
    have e3 : ((ops.take (k + 1)).flatMap (opPart b)).length ≤ 8 := by
      rw [e2, List.flatMap_append, List.length_append] at hl
      omega
    rw [e1, List.flatMap_append, List.flatMap_singleton]
    rw [e1, List.flatMap_append, List.flatMap_singleton, List.length_append] at e3
    rw [if_pos ⟨hok _ (List.getElem_mem hk'), e3⟩]

/-- The operations so far make the text up to what is left. -/
def DA (b t : Tx) (ops : List Opn) (l : Tx) : Prop := (∀ o ∈ ops, opOk b o = true) ∧ ops.flatMap (opPart b) ++ l = t

theorem pre_take : ∀ (a t : Tx), a.take (pre a t) = t.take (pre a t)
  | [], t => by simp [pre]
  | x :: a, [] => by simp [pre]
  | x :: a, y :: t => by
    unfold pre
    split
    · rename_i e; subst e; simp [pre_take a t]
    · simp

theorem DA.step {b t l : Tx} {ops : List Opn} (h : DA b t ops l) (hl : l ≠ []) (ht : t.length ≤ 8) : DA b t (dstep b l ops).1 (dstep b l ops).2 := by
  obtain ⟨h1, h2⟩ := h
  obtain ⟨x, l', rfl⟩ : ∃ x l', l = x :: l' := by cases l with | nil => exact absurd rfl hl | cons x l' => exact ⟨x, l', rfl⟩
  by_cases hb : 2 ≤ (best b (x :: l')).2
  · rw [dstep_one hb]
    rcases (bestTo_spec b (x :: l') b.length).2 with h0 | ⟨h0, h3, h4, _⟩
    · unfold best at hb; rw [h0] at hb; simp at hb
    · unfold best at hb ⊢
      generalize bestTo b (x :: l') b.length = q at *
      have e1 := pre_take (b.drop q.1) (x :: l')
      rw [h4] at e1
      have e2 := pre_le_left (b.drop q.1) (x :: l')
      rw [h4, List.length_drop] at e2
      refine ⟨fun o ho => ?_, ?_⟩
      · rcases List.mem_append.1 ho with ho | ho
        · exact h1 o ho
        · simp at ho; subst ho
          have hs : ¬ (q.2 : Int) = 0 := by omega
          unfold opOk
          rw [if_neg hs]
          simp [inR]
          omega
      · have hs : ¬ (q.2 : Int) = 0 := by omega
        rw [List.flatMap_append, List.flatMap_singleton]
        have hp : opPart b ⟨(q.1 : Int), (q.2 : Int), []⟩ = (x :: l').take q.2 := by
          unfold opPart
          rw [if_neg hs]
          simpa using e1
        rw [hp, List.append_assoc, List.take_append_drop]
        exact h2
  · rcases List.eq_nil_or_concat ops with rfl | ⟨init, o, rfl⟩
    · rw [dstep_three hb (fun init o e => by simp at e)]
      refine ⟨fun o ho => ?_, by simpa [opPart] using h2⟩
      simp at ho; subst ho; simp [opOk, inR]
    · rw [List.concat_eq_append] at h1 h2 ⊢
      by_cases h0 : o.size = 0
      · rw [dstep_two hb h0]
        have ho := h1 o (by simp)
        have hlen : (o.text ++ x :: l').length ≤ 8 := by
          rw [List.flatMap_append, List.flatMap_singleton, List.append_assoc] at h2
          have hp : opPart b o = o.text := by unfold opPart; rw [if_pos h0]
          rw [hp] at h2
          have := congrArg List.length h2
          rw [List.length_append] at this
          omega
        refine ⟨fun z hz => ?_, ?_⟩
        · rcases List.mem_append.1 hz with hz | hz
          · exact h1 z (List.mem_append_left _ hz)
          · simp at hz; subst hz
            unfold opOk at ho ⊢
            rw [if_pos h0] at ho
            simp [inR] at ho hlen ⊢
            omega
        · rw [← h2]
          simp [opPart, h0]
      · rw [dstep_three hb (fun i z e => by
          have := List.append_inj' e rfl
          simp at this
          rw [← this.2]; exact h0)]
        refine ⟨fun z hz => ?_, ?_⟩
        · rcases List.mem_append.1 hz with hz | hz
          · exact h1 z hz
          · simp at hz; subst hz; simp [opOk, inR]
        · rw [← h2, List.flatMap_append, List.flatMap_singleton]
          simp [opPart]

theorem DA.run {b t : Tx} (ht : t.length ≤ 8) : ∀ (n : Nat) (l : Tx) (ops : List Opn), l.length ≤ n → DA b t ops l → DA b t (dmake b n l ops) [] := by
  intro n
  induction n with
  | zero =>
    intro l ops hl h
    obtain rfl : l = [] := List.eq_nil_of_length_eq_zero (by omega)
    exact h
  | succ n ih =>
    intro l ops hl h
    unfold dmake
    split
    · rename_i e; subst e; exact h
    · rename_i e
      have := (dstep_len (b := b) (t := l) (ops := ops) e).1
      exact ih _ _ (by omega) (h.step e ht)

/-- A delta, applied, makes its text. -/
theorem dapp_delta {b t : Tx} (hb : b.length ≤ 8) (ht : t.length ≤ 8) : dapp b (delta b t) = some t := by
  have h : DA b t (delta b t) [] := by
    unfold delta
    rw [if_pos ⟨hb, ht⟩]
    exact DA.run ht _ _ _ (Nat.le_refl _) ⟨fun o ho => (by cases ho), by simp⟩
  have h2 := h.2
  rw [List.append_nil] at h2
  unfold dapp
  rw [if_pos ⟨hb, (delta_le b t).1⟩, dappTo_all h.1 (by rw [h2]; exact ht) _ (Nat.le_refl _), List.take_length, h2]

/-- The objects of the first k entries, and their depths. -/
def poTo (es : List En) : Nat → Option (List Ob × List Nat)
  | 0 => some ([], [])
  | k + 1 => match poTo es k, es[k]? with
    | some r, some e => match dapp (baseT (r.1.map (·.text)) e.base) e.ops with
      | some t => if baseD r.2 e.base ≤ 2 ∧ obOk ⟨e.kind, e.links, t⟩ = true then some (r.1 ++ [⟨e.kind, e.links, t⟩], r.2 ++ [baseD r.2 e.base]) else none
      | none => none
    | r, _ => r

/-- The objects of a pack. -/
def unpack (es : List En) : Option (List Ob) := if es.length ≤ 16 ∧ linkOk es = true then (poTo es es.length).map (·.1) else none

end Go.Proofs.YtjgbconlpolddaaGreat

/- Objects in a row of their own. -/
namespace Go.Proofs.YtjgbconlpolddaaGreat
open Go.RowKit
set_option linter.unusedVariables false

/-- Objects in a row of their own. -/
def ObsOwn (lo : Nat) (w : World) (v : Value) (os : List Ob) : Prop :=
  ∃ zs : List (Ob × Value), zs.map (·.1) = os ∧ w.ownsRow lo 37 3 v os.length (zs.flatMap encOb) ∧ ∀ z ∈ zs, IntsR (new lo) w z.2 z.1.links

theorem ObsOwn.reads {lo : Nat} {w : World} {v : Value} {os : List Ob} (h : ObsOwn lo w v os) : ObsR (new lo) w v os := by
  obtain ⟨zs, h1, h2, h3⟩ := h
  exact ⟨zs, h1, SlR.ofOwns h2, h3⟩

theorem ObsOwn.keep {lo B : Nat} {T : List Nat} {w w' : World} {v : Value} {os : List Ob} (h : ObsOwn lo w v os) (hf : Fr B T w w') (h1 : 37 ∉ T) (h2 : 3 ∉ T) : ObsOwn lo w' v os := by
  obtain ⟨zs, g1, g2, g3⟩ := h
  exact ⟨zs, g1, ownsRow_keep g2 hf h1, fun z hz => (g3 z hz).keep hf (Safe.new h2)⟩

theorem ObsOwn.grow {lo B : Nat} {w w' : World} {v : Value} {os : List Ob} (h : ObsOwn lo w v os) (hf : Fr B [] w w') : ObsOwn lo w' v os := h.keep hf (by simp) (by simp)

theorem ObsOwn.lower {lo lo' : Nat} {w : World} {v : Value} {os : List Ob} (h : ObsOwn lo w v os) (hl : lo' ≤ lo) : ObsOwn lo' w v os := by
  obtain ⟨zs, g1, g2, g3⟩ := h
  exact ⟨zs, g1, ownsRow_lo g2 hl, fun z hz => (g3 z hz).weak (fun b t _ hb => ⟨Nat.le_trans hl hb.1, hb.2⟩)⟩

theorem ObsOwn.empty {w : World} {n : Nat} (hn : n = w.heap.size) : ObsOwn n (w.alloc (.cells #[] 37)) (.slice (some ⟨n, 0, none⟩) 0 0) [] := by
  subst hn
  exact ⟨[], rfl, World.ownsRow_lit (e := 37) (size := 3) w #[] 0 (Nat.le_refl _) (by decide) rfl, fun z hz => by cases hz⟩

theorem ObsOwn.snoc {lo n : Nat} {w' : World} {v' : Value} {os : List Ob} {o : Ob} {u : Value} {zs : List (Ob × Value)} (g1 : zs.map (·.1) = os) (g3 : ∀ z ∈ zs, IntsR (new lo) w' z.2 z.1.links)
    (hu : IntsR (new lo) w' u o.links) (hn : n = os.length) (hown : w'.ownsRow lo 37 3 v' (n + 1) (zs.flatMap encOb ++ [.int .i64 o.kind, u, .string (tx o.text)])) : ObsOwn lo w' v' (os ++ [o]) := by
  subst hn
  refine ⟨zs ++ [(o, u)], by simp [g1], ?_, fun z hz => ?_⟩
  · rw [List.flatMap_append, List.length_append]
    simpa [encOb] using hown
  · rcases List.mem_append.1 hz with hz | hz
    · exact g3 z hz
    · simp at hz
      subst hz
      exact hu

theorem ObsOwn.textAt {lo : Nat} {W : World} {b off n cap : Nat} {os : List Ob} (h : ObsOwn lo W (.slice (some ⟨b, off, none⟩) n cap) os) (i : Nat) (hi : i < os.length) : W.cell? ⟨b, off + i * 3 + 2, none⟩ = some (.string (tx os[i].text)) := by
  obtain ⟨a2, cap2, hva2, -, hcell2⟩ := h.reads.shape
  cases hva2
  rcases hcell2 with hh | ⟨b2, off2, hae, -, hcell2⟩
  · subst hh; simp at hi
  · cases hae
    obtain ⟨u, -, -, h2, -⟩ := hcell2 i hi
    exact h2

theorem oneOb3 (x : Int) (a : Option Addr) (n p : Nat) (t : ByteArray) : ∀ u ∈ [Value.int .i64 x, .slice a n p, .string t], u.oneCell' = true := by
  intro u hu
  simp at hu
  rcases hu with rfl | rfl | rfl <;> rfl

/-- What the draws of objects keep to. -/
def Few (os : List Ob) : Prop := ∀ o ∈ os, o.links.length ≤ 1000 ∧ o.text.length ≤ 9 ∧ -1000 ≤ o.kind ∧ o.kind ≤ 1000

theorem Few.snoc {os : List Ob} {o : Ob} (h : Few os) (h1 : o.links.length ≤ 1000) (h2 : o.text.length ≤ 9) (h3 : -1000 ≤ o.kind) (h4 : o.kind ≤ 1000) : Few (os ++ [o]) := by
  intro x hx
  rcases List.mem_append.1 hx with hx | hx
  · exact h x hx
  · simp at hx; subst hx; exact ⟨h1, h2, h3, h4⟩

theorem grownBy_set (W : World) (b o : Nat) (v : Value) : W.grownBy (W.setCell ⟨b, o, none⟩ v) (some b) :=
  ⟨rfl, rfl, rfl, by simp [World.setCell], fun k hk hne => by rw [Below.heap_setCell _ _ _ _ (by intro e; exact hne (by rw [e]))]⟩

/-- The object that goes to the end of the list, in its box. -/
structure Lx (B r q : Nat) (w W : World) (X : Nat) (v : Value) (os : List Ob) (o : Ob) (u : Value) : Prop where
  box : W.heap[X]? = some (.cells #[.int .i64 o.kind, u, .string (tx o.text)] 37 (0, 0))
  lk : IntsR (new w.heap.size) W u o.links
  own : ObsOwn w.heap.size W v os
  nx : v.ownBlock ≠ some X
  rd : Rdr B W r q
  fr : Fr B [110] w W
  lo : w.heap.size ≤ X
  bl : B ≤ w.heap.size

theorem Lx.pick {B r q q' : Nat} {w W W' : World} {X : Nat} {v : Value} {os : List Ob} {o : Ob} {u : Value} (h : Lx B r q w W X v os o u) (hr : Rdr B W' r q') (hf : Fr B [110] W W') : Lx B r q' w W' X v os o u :=
  ⟨hf.keep _ _ h.box (.inr (by simp [otag])), h.lk.keep hf (Safe.new (by simp)), h.own.keep hf (by simp) (by simp), h.nx, hr, h.fr.trans hf, h.lo, h.bl⟩

/-- The same without the links, with any cells. -/
structure Ly (B r q : Nat) (w W : World) (X : Nat) (v : Value) (os : List Ob) (cs : Array Value) : Prop where
  box : W.heap[X]? = some (.cells cs 37 (0, 0))
  own : ObsOwn w.heap.size W v os
  nx : v.ownBlock ≠ some X
  rd : Rdr B W r q
  fr : Fr B [110] w W
  lo : w.heap.size ≤ X
  bl : B ≤ w.heap.size

theorem Lx.ly {B r q : Nat} {w W : World} {X : Nat} {v : Value} {os : List Ob} {o : Ob} {u : Value} (h : Lx B r q w W X v os o u) : Ly B r q w W X v os #[.int .i64 o.kind, u, .string (tx o.text)] := ⟨h.box, h.own, h.nx, h.rd, h.fr, h.lo, h.bl⟩

theorem Ly.lx {B r q : Nat} {w W : World} {X : Nat} {v : Value} {os : List Ob} {o : Ob} {u : Value} (h : Ly B r q w W X v os #[.int .i64 o.kind, u, .string (tx o.text)]) (hu : IntsR (new w.heap.size) W u o.links) : Lx B r q w W X v os o u := ⟨h.box, hu, h.own, h.nx, h.rd, h.fr, h.lo, h.bl⟩

theorem Ly.set {B r q : Nat} {w W : World} {X : Nat} {v : Value} {os : List Ob} {cs : Array Value} (h : Ly B r q w W X v os cs) (j : Nat) (x : Value) : Ly B r q w (W.setCell ⟨X, j, none⟩ x) X v os (cs.setIfInBounds j x) := by
  have F : Fr B [37] W (W.setCell ⟨X, j, none⟩ x) := (Fr.refl B [37] W).setOld (p := ⟨X, j, none⟩) h.box (Nat.le_trans h.bl h.lo) (by simp [otag]) x
  obtain ⟨zs, g1, g2, g3⟩ := h.own
  exact ⟨block_set h.box j x, ⟨zs, g1, g2.kept (grownBy_set W X j x) (.inr h.nx), fun z hz => (g3 z hz).keep F (Safe.new (by simp))⟩, h.nx, h.rd.keep F (by simp), h.fr.setNew (p := ⟨X, j, none⟩) h.lo x, h.lo, h.bl⟩

theorem Ly.grow {B r q : Nat} {w W W' : World} {X : Nat} {v : Value} {os : List Ob} {cs : Array Value} (h : Ly B r q w W X v os cs) (hf : Fr B [] W W') : Ly B r q w W' X v os cs :=
  ⟨hf.keep _ _ h.box (.inr (by simp)), h.own.grow hf, h.nx, h.rd.keep hf (by simp), h.fr.trans hf.nil, h.lo, h.bl⟩

theorem Lx.text {B r q : Nat} {w W : World} {X : Nat} {v : Value} {os : List Ob} {o : Ob} {u : Value} (h : Lx B r q w W X v os o u) (t : Tx) : Lx B r q w (W.setCell ⟨X, 2, none⟩ (.string (tx t))) X v os ⟨o.kind, o.links, t⟩ u := by
  have F : Fr B [37] W (W.setCell ⟨X, 2, none⟩ (.string (tx t))) := (Fr.refl B [37] W).setOld (p := ⟨X, 2, none⟩) h.box (Nat.le_trans h.bl h.lo) (by simp [otag]) _
  exact Ly.lx (h.ly.set 2 (.string (tx t))) (h.lk.keep F (Safe.new (by simp)))

/-- Another object in the box: all three cells, then the fresh row of links. -/
theorem Lx.repl {B r q : Nat} {w W : World} {X : Nat} {v : Value} {os : List Ob} {o : Ob} {u : Value} (h : Lx B r q w W X v os o u) (k : Int) (t : Tx) :
    Lx B r q w ((((W.setCell ⟨X, 0, none⟩ (.int .i64 k)).setCell ⟨X, 1, none⟩ (.slice (some ⟨W.heap.size, 0, none⟩) 0 0)).setCell ⟨X, 2, none⟩ (.string (tx t))).alloc (.cells #[] 3)) X v os ⟨k, [], t⟩ (.slice (some ⟨W.heap.size, 0, none⟩) 0 0) := by
  have h3 := ((h.ly.set 0 (.int .i64 k)).set 1 (.slice (some ⟨W.heap.size, 0, none⟩) 0 0)).set 2 (.string (tx t))
  refine Ly.lx (h3.grow ((Fr.refl B [] _).alloc _)) (SlR.ofOwns ?_)
  have hl := World.ownsRow_lit (base := w.heap.size) (e := 3) (size := 1) (((W.setCell ⟨X, 0, none⟩ (.int .i64 k)).setCell ⟨X, 1, none⟩ (.slice (some ⟨W.heap.size, 0, none⟩) 0 0)).setCell ⟨X, 2, none⟩ (.string (tx t))) #[] 0 h3.fr.size (by decide) rfl
  have hs : (((W.setCell ⟨X, 0, none⟩ (.int .i64 k)).setCell ⟨X, 1, none⟩ (.slice (some ⟨W.heap.size, 0, none⟩) 0 0)).setCell ⟨X, 2, none⟩ (.string (tx t))).heap.size = W.heap.size := by simp [World.setCell]
  rw [hs] at hl
  exact hl

end Go.Proofs.YtjgbconlpolddaaGreat

/- The program's Op.part and DeltaApply. -/
namespace Go.Proofs.YtjgbconlpolddaaGreat
open Go.RowKit
set_option linter.unusedVariables false

set_option maxRecDepth 20000 in
set_option maxHeartbeats 4000000 in
theorem part_any (o : Opn) (b : Tx) (w : World) (hb : b.length ≤ 8) :
    Calls Tryz.prog 65 #[.agg #[.int .i64 o.pos, .int .i64 o.size, .string (tx o.text)], .string (tx b)] w fun e w' => ∃ s, e = .returned (.tuple #[.string s, .bool (opOk b o)]) ∧ (opOk b o = true → s = tx (opPart b o)) ∧ Fr w.heap.size [] w w' := by
  have hsz := tx_size o.text
  have hsb := tx_size b
  have F0 := hid ((Fr.refl w.heap.size [] w).alloc (.cells #[.int .i64 o.pos, .int .i64 o.size, .string (tx o.text)] 91))
  by_cases h0 : o.size = 0
  · have hz : (o.size == 0) = true := by simp [h0]
    have R := hid (show opOk b o = (decide (o.pos = 0) && inR o.text.length 1 8) by unfold opOk; rw [if_pos h0])
    have P := hid (show opPart b o = o.text by unfold opPart; rw [if_pos h0])
    cases hp : (o.pos == 0)
    all_goals have HP := hid hp
    all_goals
      go_enter Tryz.func65, Tryz.ntmps65
      go_wp2
      go_quiet (first | (go_at_call 64; exact quiet_eq (inRange_any _ _ _ _)))
      go_wp2
      go_ret2
      refine ⟨_, ?_, fun _ => by rw [P.out], ((Fr.refl w.heap.size [] w).alloc _).drewN _⟩
      rw [R.out]
      have := HP.out
      simp_all
  · have hz : (o.size == 0) = false := by simp [h0]
    by_cases ht : o.text = []
    · have hte : (tx o.text).toList = [] := by rw [tx_list]; exact ht
      by_cases h1 : 1 ≤ o.size
      · by_cases h2 : o.size ≤ (b.length : Int)
        · by_cases h3 : 0 ≤ o.pos
          · by_cases h4 : o.pos ≤ (b.length : Int) - o.size
            · have R := hid (show opOk b o = true by unfold opOk; rw [if_neg h0]; simp [ht, inR]; omega)
              have P := hid (show (tx b).extract o.pos.toNat (o.pos + o.size).toNat = tx (opPart b o) by
                rw [tx_extract]
                unfold opPart
                rw [if_neg h0, show (o.pos + o.size).toNat - o.pos.toNat = o.size.toNat by omega])
              clear ht
              go_enter Tryz.func65, Tryz.ntmps65
              go_wp2
              go_ret2
              refine ⟨_, ?_, fun _ => P.out, (Fr.refl _ _ _).alloc _⟩
              rw [R.out]
              try rfl
            · have R := hid (show opOk b o = false by unfold opOk; rw [if_neg h0]; simp [ht, inR]; omega)
              clear ht
              go_enter Tryz.func65, Tryz.ntmps65
              go_wp2
              go_ret2
              refine ⟨⟨#[]⟩, ?_, fun h => absurd (R.out.symm.trans h) (by decide), (Fr.refl _ _ _).alloc _⟩
              rw [R.out]
              try rfl
          · have R := hid (show opOk b o = false by unfold opOk; rw [if_neg h0]; simp [ht, inR]; omega)
            clear ht
            go_enter Tryz.func65, Tryz.ntmps65
            go_wp2
            go_ret2
            refine ⟨⟨#[]⟩, ?_, fun h => absurd (R.out.symm.trans h) (by decide), (Fr.refl _ _ _).alloc _⟩
            rw [R.out]
            try rfl
        · have R := hid (show opOk b o = false by unfold opOk; rw [if_neg h0]; simp [ht, inR]; omega)
          clear ht
          go_enter Tryz.func65, Tryz.ntmps65
          go_wp2
          go_ret2
          refine ⟨⟨#[]⟩, ?_, fun h => absurd (R.out.symm.trans h) (by decide), (Fr.refl _ _ _).alloc _⟩
          rw [R.out]
          try rfl
      · have R := hid (show opOk b o = false by unfold opOk; rw [if_neg h0]; simp [ht, inR]; omega)
        clear ht
        go_enter Tryz.func65, Tryz.ntmps65
        go_wp2
        go_ret2
        refine ⟨⟨#[]⟩, ?_, fun h => absurd (R.out.symm.trans h) (by decide), (Fr.refl _ _ _).alloc _⟩
        rw [R.out]
        try rfl
    · have hte : ¬ (tx o.text).toList = [] := by rw [tx_list]; exact ht
      have R := hid (show opOk b o = false by unfold opOk; rw [if_neg h0]; simp [ht])
      clear ht
      go_enter Tryz.func65, Tryz.ntmps65
      go_wp2
      go_ret2
      refine ⟨⟨#[]⟩, ?_, fun h => absurd (R.out.symm.trans h) (by decide), (Fr.refl _ _ _).alloc _⟩
      rw [R.out]
      try rfl

end Go.Proofs.YtjgbconlpolddaaGreat

/- The program's DeltaApply. -/
namespace Go.Proofs.YtjgbconlpolddaaGreat
open Go.RowKit
set_option linter.unusedVariables false

theorem opPart_le {b : Tx} {o : Opn} (hb : b.length ≤ 8) (h : opOk b o = true) : (opPart b o).length ≤ 8 := by
  unfold opOk at h
  unfold opPart
  split at h
  · rename_i h0
    rw [if_pos h0]
    simp [inR] at h
    omega
  · rename_i h0
    rw [if_neg h0]
    simp
    omega

set_option maxRecDepth 20000 in
set_option maxHeartbeats 4000000 in
theorem implDeltaApply_any (K : Nat → Bool → Prop) (b : Tx) (v : Value) (ops : List Opn) (w : World) (hv : OpsR K w v ops) :
    Calls Tryz.prog 34 #[.string (tx b), v] w fun e w' => e = .returned (.tuple #[.string (tx ((dapp b ops).getD [])), .bool (dapp b ops).isSome]) ∧ Fr w.heap.size [] w w' := by
  obtain ⟨a, cap, rfl, hcap, hcell⟩ := hv.shape
  have hsb := tx_size b
  generalize hD : dapp b ops = D
  have HD := hid hD
  clear hD hv
  by_cases hb : b.length ≤ 8
  · by_cases ho : ops.length ≤ 8
    · have ib : ¬ (8 : Int) < (b.length : Int) := by omega
      have io : ¬ (8 : Int) < (ops.length : Int) := by omega
      have HD2 := hid (show D = dappTo b ops ops.length by rw [← HD.out]; unfold dapp; rw [if_pos ⟨hb, ho⟩])
      clear HD
      go_enter Tryz.func34, Tryz.ntmps34
      go_wp2
      go_loopw [6, 21] (fun vt vi wx => ∃ (k : Nat) (t : Tx), k ≤ ops.length ∧ vi = .int .i64 k ∧ vt = .string (tx t) ∧ t.length ≤ 8 ∧ dappTo b ops k = some t ∧ Fr w.heap.size [] w wx) (fun _ vi _ => ops.length - (intOf vi).toNat)
      case atStart => exact ⟨0, [], Nat.zero_le _, rfl, rfl, by decide, rfl, Fr.refl _ _ _⟩
      case round =>
        obtain ⟨k, t, hk, rfl, rfl, ht, hto, hfr⟩ := hrel
        have TO := hid hto
        have hst := tx_size t
        clear hto
        by_cases hlt : k < ops.length
        · rcases hcell with hh | ⟨bb, off, rfl, hbs, hcell⟩
          · rw [hh] at hlt; cases hlt
          · obtain ⟨h0, h1, h2⟩ := hcell k hlt
            have c0 := hfr.cell hbs h0
            have c1 := hfr.cell hbs h1
            have c2 := hfr.cell hbs h2
            have hbr : bb < wr.heap.size := Nat.lt_of_lt_of_le hbs hfr.size
            have hki : (k : Int) < (ops.length : Int) := by omega
            have SU := hid (dappTo_succ hlt TO.out)
            clear h0 h1 h2 hcell
            cases gk : opOk b ops[k]
            · have NO := hid (show D = none by
                rw [HD2.out]
                refine dappTo_none (k := k + 1) ?_ _ hlt
                rw [SU.out, if_neg (by rw [gk]; simp)])
              have GK := hid gk
              clear gk
              go_wp2_with (go_at_call 65; go_must (refine (part_any ops[k] b _ hb).mono ?_; rintro e w1 ⟨s, rfl, hs, fr1⟩; rw [GK.out]; have F1 := hid ((hfr.alloc (.cells #[.int .i64 ops[k].pos, .int .i64 ops[k].size, .string (tx ops[k].text)] 91)).trans fr1.nil); clear fr1 hs))
              go_ret2
              rw [NO.out]
              exact ⟨rfl, F1.out⟩
            · have hpl := opPart_le hb gk
              have GK := hid gk
              clear gk
              generalize hp : opPart b ops[k] = p at *
              have HP := hid hp
              have hsp := tx_size p
              clear hp
              by_cases hs8 : t.length + p.length ≤ 8
              · have i8 : ¬ (8 : Int) < (t.length : Int) + (p.length : Int) := by omega
                have N1 := hid (show dappTo b ops (k + 1) = some (t ++ p) by rw [SU.out, if_pos ⟨GK.out, hs8⟩])
                go_wp2_with (go_at_call 65; go_must (refine (part_any ops[k] b _ hb).mono ?_; rintro e w1 ⟨s, rfl, hs, fr1⟩; obtain rfl := hs GK.out; rw [GK.out, HP.out]; have F1 := hid ((hfr.alloc (.cells #[.int .i64 ops[k].pos, .int .i64 ops[k].size, .string (tx ops[k].text)] 91)).trans fr1.nil); clear fr1 hs))
                go_roundw
                case rel => exact ⟨k + 1, t ++ p, by omega, by go_num, by rw [tx_append], by simp; omega, N1.out, F1.out⟩
                case measure => simp [intOf]; omega
              · have i8 : (8 : Int) < (t.length : Int) + (p.length : Int) := by omega
                have NO := hid (show D = none by
                  rw [HD2.out]
                  refine dappTo_none (k := k + 1) ?_ _ hlt
                  rw [SU.out, if_neg (fun h => hs8 h.2)])
                go_wp2_with (go_at_call 65; go_must (refine (part_any ops[k] b _ hb).mono ?_; rintro e w1 ⟨s, rfl, hs, fr1⟩; obtain rfl := hs GK.out; rw [GK.out, HP.out]; have F1 := hid ((hfr.alloc (.cells #[.int .i64 ops[k].pos, .int .i64 ops[k].size, .string (tx ops[k].text)] 91)).trans fr1.nil); clear fr1 hs))
                go_ret2
                rw [NO.out]
                exact ⟨rfl, F1.out⟩
        · obtain rfl : k = ops.length := by omega
          clear hcell
          have DS := hid (HD2.out.trans TO.out)
          go_wp2
          go_ret2
          rw [DS.out]
          exact ⟨rfl, hfr⟩
    · have ib : ¬ (8 : Int) < (b.length : Int) := by omega
      have io : (8 : Int) < (ops.length : Int) := by omega
      have NO := hid (show D = none by rw [← HD.out]; unfold dapp; rw [if_neg (fun h => ho h.2)])
      clear HD
      go_enter Tryz.func34, Tryz.ntmps34
      go_wp2
      go_ret2
      rw [NO.out]
      exact ⟨rfl, Fr.refl _ _ _⟩
  · have ib : (8 : Int) < (b.length : Int) := by omega
    have NO := hid (show D = none by rw [← HD.out]; unfold dapp; rw [if_neg (fun h => hb h.1)])
    clear HD
    go_enter Tryz.func34, Tryz.ntmps34
    go_wp2
    go_ret2
    rw [NO.out]
    exact ⟨rfl, Fr.refl _ _ _⟩

end Go.Proofs.YtjgbconlpolddaaGreat

/- The laws' comparisons, at equal data. -/
namespace Go.Proofs.YtjgbconlpolddaaGreat
open Go.RowKit
set_option linter.unusedVariables false

set_option maxRecDepth 20000 in
set_option maxHeartbeats 1000000 in
theorem sameInts_eq (K K' : Nat → Bool → Prop) (v v' : Value) (l : List Int) (w : World) (h1 : IntsR K w v l) (h2 : IntsR K' w v' l) (hl : l.length ≤ 1000000000) :
    Calls Tryz.prog 15 #[v, v'] w fun e w' => e = .returned (.bool true) ∧ Fr w.heap.size [] w w' := by
  obtain ⟨a, cap, rfl, hc, hcell⟩ := h1.shape
  obtain ⟨a', cap', rfl, hc', hcell'⟩ := h2.shape
  have HC := hid hcell
  have HC' := hid hcell'
  clear h1 h2 hcell hcell'
  go_enter Tryz.func15, Tryz.ntmps15
  go_wp2
  go_loopw [5] (fun i wr => ∃ k : Nat, k ≤ l.length ∧ i = .int .i64 k ∧ Fr w.heap.size [] w wr) (fun i _ => l.length - (intOf i).toNat)
  case atStart => exact ⟨0, Nat.zero_le _, rfl, Fr.refl _ _ _⟩
  case round =>
    obtain ⟨k, hk, rfl, hfr⟩ := hrel
    by_cases hlt : k < l.length
    · rcases HC.out with h | ⟨b, off, rfl, hbs, hcell⟩
      · rw [h] at hlt; simp at hlt
      rcases HC'.out with h | ⟨b', off', rfl, hbs', hcell'⟩
      · rw [h] at hlt; simp at hlt
      have c0 := hfr.cell hbs (hcell k hlt)
      have d0 := hfr.cell hbs' (hcell' k hlt)
      have hki : (k : Int) < (l.length : Int) := by omega
      clear hcell hcell'
      go_wp2
      go_quiet (fail)
      go_wp2
      go_roundw
      case rel => exact ⟨k + 1, by omega, by go_num, hfr.drewN _⟩
      case measure => simp [intOf]; omega
    · obtain rfl : k = l.length := by omega
      go_wp2
      go_ret
      exact ⟨rfl, hfr⟩

set_option maxRecDepth 20000 in
set_option maxHeartbeats 1000000 in
theorem sameOps_eq (K K' : Nat → Bool → Prop) (v v' : Value) (l : List Opn) (w : World) (h1 : OpsR K w v l) (h2 : OpsR K' w v' l) (hl : l.length ≤ 1000000000) :
    Calls Tryz.prog 24 #[v, v'] w fun e w' => e = .returned (.bool true) ∧ Fr w.heap.size [] w w' := by
  obtain ⟨a, cap, rfl, hc, hcell⟩ := h1.shape
  obtain ⟨a', cap', rfl, hc', hcell'⟩ := h2.shape
  have HC := hid hcell
  have HC' := hid hcell'
  have hne : ∀ (w : World) (x y : Int) (z : ByteArray), (binOp .neq 91 (.agg #[.int .i64 x, .int .i64 y, .string z]) (.agg #[.int .i64 x, .int .i64 y, .string z])).run Tryz.prog w = .ok (.bool false) w := by
    intro w x y z
    rw [run_neq_struct, run_equalIn_struct w 9999 91 _ _ (by kernel_rfl) (by kernel_rfl)]
    simp [go_sem, Tryz.underlying91, Tryz.underlying3, Tryz.underlying9, Result.andThen]
  clear h1 h2 hcell hcell'
  go_enter Tryz.func24, Tryz.ntmps24
  go_wp2
  go_loopw [5] (fun i wr => ∃ k : Nat, k ≤ l.length ∧ i = .int .i64 k ∧ Fr w.heap.size [] w wr) (fun i _ => l.length - (intOf i).toNat)
  case atStart => exact ⟨0, Nat.zero_le _, rfl, Fr.refl _ _ _⟩
  case round =>
    obtain ⟨k, hk, rfl, hfr⟩ := hrel
    by_cases hlt : k < l.length
    · rcases HC.out with h | ⟨b, off, rfl, hbs, hcell⟩
      · rw [h] at hlt; simp at hlt
      rcases HC'.out with h | ⟨b', off', rfl, hbs', hcell'⟩
      · rw [h] at hlt; simp at hlt
      obtain ⟨x0, x1, x2⟩ := hcell k hlt
      obtain ⟨y0, y1, y2⟩ := hcell' k hlt
      have c0 := hfr.cell hbs x0
      have c1 := hfr.cell hbs x1
      have c2 := hfr.cell hbs x2
      have d0 := hfr.cell hbs' y0
      have d1 := hfr.cell hbs' y1
      have d2 := hfr.cell hbs' y2
      have hki : (k : Int) < (l.length : Int) := by omega
      clear hcell hcell' x0 x1 x2 y0 y1 y2
      go_wp2
      go_quiet (fail)
      go_wp2
      go_roundw
      case rel => exact ⟨k + 1, by omega, by go_num, hfr.drewN _⟩
      case measure => simp [intOf]; omega
    · obtain rfl : k = l.length := by omega
      go_wp2
      go_ret
      exact ⟨rfl, hfr⟩

/-- Entries that the laws may compare. -/
def EnsB (es : List En) : Prop := es.length ≤ 1000000000 ∧ ∀ e ∈ es, e.links.length ≤ 1000000000 ∧ e.ops.length ≤ 1000000000

set_option maxRecDepth 20000 in
set_option maxHeartbeats 4000000 in
theorem samePack_eq (K K' : Nat → Bool → Prop) (v v' : Value) (es : List En) (w : World) (h1 : EnsR K w v es) (h2 : EnsR K' w v' es) (hb : EnsB es) :
    Calls Tryz.prog 9 #[v, v'] w fun e w' => e = .returned (.bool true) ∧ Fr w.heap.size [] w w' := by
  obtain ⟨a, cap, rfl, hc, hcell⟩ := h1.shape
  obtain ⟨a', cap', rfl, hc', hcell'⟩ := h2.shape
  have HC := hid hcell
  have HC' := hid hcell'
  have HB := hid hb
  have hel := hb.1
  clear h1 h2 hcell hcell' hb
  go_enter Tryz.func9, Tryz.ntmps9
  go_wp2
  go_loopw [5] (fun i wr => ∃ k : Nat, k ≤ es.length ∧ i = .int .i64 k ∧ Fr w.heap.size [] w wr) (fun i _ => es.length - (intOf i).toNat)
  case atStart => exact ⟨0, Nat.zero_le _, rfl, Fr.refl _ _ _⟩
  case round =>
    obtain ⟨k, hk, rfl, hfr⟩ := hrel
    by_cases hlt : k < es.length
    · rcases HC.out with h | ⟨b, off, rfl, hbs, hcell⟩
      · rw [h] at hlt; simp at hlt
      rcases HC'.out with h | ⟨b', off', rfl, hbs', hcell'⟩
      · rw [h] at hlt; simp at hlt
      obtain ⟨u, p, x0, x1, x2, x3, hu, hp⟩ := hcell k hlt
      obtain ⟨u', p', y0, y1, y2, y3, hu', hp'⟩ := hcell' k hlt
      have c0 := hfr.cell hbs x0
      have c1 := hfr.cell hbs x1
      have c2 := hfr.cell hbs x2
      have c3 := hfr.cell hbs x3
      have d0 := hfr.cell hbs' y0
      have d1 := hfr.cell hbs' y1
      have d2 := hfr.cell hbs' y2
      have d3 := hfr.cell hbs' y3
      have HU := hid (hu.grow hfr)
      have HU' := hid (hu'.grow hfr)
      have HP := hid (hp.grow hfr)
      have HP' := hid (hp'.grow hfr)
      have hbr := Nat.lt_of_lt_of_le hbs hfr.size
      have hbr' := Nat.lt_of_lt_of_le hbs' hfr.size
      have hil := (HB.out.2 _ (List.getElem_mem hlt)).1
      have hol := (HB.out.2 _ (List.getElem_mem hlt)).2
      have hki : (k : Int) < (es.length : Int) := by omega
      clear hcell hcell' x0 x1 x2 x3 y0 y1 y2 y3 hu hu' hp hp'
      go_wp2
      go_region_held3 (fun x => x.cell? ⟨b, off + k * 4, none⟩ = some (.int .i64 es[k].kind) ∧ x.cell? ⟨b, off + k * 4 + 1, none⟩ = some u ∧ x.cell? ⟨b, off + k * 4 + 2, none⟩ = some (.int .i64 es[k].base) ∧ x.cell? ⟨b, off + k * 4 + 3, none⟩ = some p ∧
          x.cell? ⟨b', off' + k * 4, none⟩ = some (.int .i64 es[k].kind) ∧ x.cell? ⟨b', off' + k * 4 + 1, none⟩ = some u' ∧ x.cell? ⟨b', off' + k * 4 + 2, none⟩ = some (.int .i64 es[k].base) ∧ x.cell? ⟨b', off' + k * 4 + 3, none⟩ = some p')
        (first | exact ⟨c0, c1, c2, c3, d0, d1, d2, d3⟩ | exact ⟨fr1.cell hbr c0, fr1.cell hbr c1, fr1.cell hbr c2, fr1.cell hbr c3, fr1.cell hbr' d0, fr1.cell hbr' d1, fr1.cell hbr' d2, fr1.cell hbr' d3⟩ | exact ⟨fr2.cell hbr c0, fr2.cell hbr c1, fr2.cell hbr c2, fr2.cell hbr c3, fr2.cell hbr' d0, fr2.cell hbr' d1, fr2.cell hbr' d2, fr2.cell hbr' d3⟩)
        (first
          | (go_at_call 15; go_must (refine (sameInts_eq K K' u u' es[k].links _ (HU.out.grow (Fr.refl 0 [] wr).drew) (HU'.out.grow (Fr.refl 0 [] wr).drew) hil).mono ?_; rintro e w1 ⟨rfl, fr⟩; have fr1 : Fr wr.heap.size [] wr w1 := (Fr.refl wr.heap.size [] wr).drew.trans fr))
          | (go_at_call 24; go_must (refine (sameOps_eq K K' p p' es[k].ops _ (HP.out.grow fr1) (HP'.out.grow fr1) hol).mono ?_; rintro e w2 ⟨rfl, fr⟩; have fr2 : Fr wr.heap.size [] wr w2 := fr1.trans fr.nil)))
      go_wp2
      go_roundw
      case rel => exact ⟨k + 1, by omega, by go_num, hfr.trans fr2.nil⟩
      case measure => simp [intOf]; omega
    · obtain rfl : k = es.length := by omega
      go_wp2
      go_ret
      exact ⟨rfl, hfr⟩

end Go.Proofs.YtjgbconlpolddaaGreat

/- FnPackBase: plain facts and the walk. -/
namespace Go.Proofs.YtjgbconlpolddaaGreat
open Go.RowKit
set_option linter.unusedVariables false

theorem Few.b {os : List Ob} (h : Few os) (hl : os.length ≤ 17) : ObsB os := ⟨by omega, fun o ho => by have := (h o ho).1; omega⟩

theorem pk_few {os : List Ob} (h : Few os) : ∀ {i : Nat}, i ≤ os.length → ∀ e ∈ (pk os i).1, e.links.length ≤ 1000 ∧ e.ops.length ≤ 8 := by
  intro i
  induction i with
  | zero => intro _ e he; cases he
  | succ i ih =>
    intro hi e he
    rw [pk_succ (by omega)] at he
    rcases List.mem_append.1 he with he | he
    · exact ih (by omega) e he
    · simp at he
      subst he
      exact ⟨(h _ (List.getElem_mem (by omega))).1, (delta_le _ _).1⟩

theorem pack_len (os : List Ob) : (pack os).length = os.length := (pk_len (Nat.le_refl _)).1

theorem packEn_b {os : List Ob} (h : Few os) (hl : os.length ≤ 17) (ok : Bool) : EnsB (if ok then pack os else []) := by
  cases ok
  · exact ⟨Nat.zero_le _, fun e he => by cases he⟩
  · refine ⟨by rw [if_pos rfl, pack_len]; omega, fun e he => ?_⟩
    rw [if_pos rfl] at he
    have := pk_few h (Nat.le_refl _) e he
    exact ⟨by omega, by omega⟩

theorem fmEn_set2 (zs : List (En × (Value × Value))) {k : Nat} (hk : k < zs.length) (x : Int) : (zs.flatMap encEn).set (k * 4 + 2) (.int .i64 x) = (zs.set k ({ zs[k].1 with base := x }, zs[k].2)).flatMap encEn := by
  induction zs generalizing k with
  | nil => simp at hk
  | cons z zs ih =>
    cases k with
    | zero => simp [encEn]
    | succ k =>
      have hk' : k < zs.length := by simpa using hk
      have e1 : (k + 1) * 4 + 2 = (encEn z).length + (k * 4 + 2) := by simp [encEn]; omega
      simp only [List.flatMap_cons, List.set_cons_succ, List.getElem_cons_succ]
      rw [e1, List.set_append_right _ _ (by omega), Nat.add_sub_cancel_left, ih hk']

/-- An entry's base laid anew. -/
theorem EnsOwn.setBase {lo : Nat} {w : World} {g n cap : Nat} {es : List En} (h : EnsOwn lo w (.slice (some ⟨g, 0, none⟩) n cap) es) {k : Nat} (hk : k < es.length) (x : Int) :
    EnsOwn lo (w.setCell ⟨g, k * 4 + 2, none⟩ (.int .i64 x)) (.slice (some ⟨g, 0, none⟩) n cap) (es.set k { es[k] with base := x }) ∧ Fr lo [50] w (w.setCell ⟨g, k * 4 + 2, none⟩ (.int .i64 x)) := by
  obtain ⟨zs, g1, g2, g3⟩ := h
  have hn : n = es.length := by
    obtain ⟨_, _, he⟩ := own_any g2
    cases he; rfl
  subst hn
  have hz : k < zs.length := by have := congrArg List.length g1; simp at this; omega
  obtain ⟨s1, s2⟩ := g2.stored (k * 4 + 2) (.int .i64 x)
  have F := Fr.ofOwnGrown (T := [50]) (B := lo) g2 s2 (Nat.le_refl _) (by simp)
  refine ⟨⟨zs.set k ({ zs[k].1 with base := x }, zs[k].2), ?_, ?_, fun z hz' => ?_⟩, F⟩
  · subst g1
    rw [List.map_set]
    simp
  · rw [List.length_set, ← fmEn_set2 zs hz x]
    exact s1
  · rcases List.mem_or_eq_of_mem_set hz' with hm | hm
    · exact ⟨(g3 z hm).1.keep F (Safe.new (by simp)), (g3 z hm).2.keep F (Safe.new (by simp))⟩
    · subst hm
      have := g3 _ (List.getElem_mem hz)
      exact ⟨this.1.keep F (Safe.new (by simp)), this.2.keep F (Safe.new (by simp))⟩

theorem link_bad {es : List En} {k : Nat} (hk : k < es.length) : linkOk (es.set k { es[k] with base := (k : Int) }) = false := by
  have hk' : k < (es.set k { es[k] with base := (k : Int) }).length := by simpa using hk
  refine linkTo_false hk' ?_ _ (by simpa using hk)
  simp [inR]
  omega

theorem oneEn {K : Nat → Bool → Prop} {w : World} {zs : List (En × (Value × Value))} (h : ∀ z ∈ zs, IntsR K w z.2.1 z.1.links ∧ OpsR K w z.2.2 z.1.ops) : ∀ u ∈ zs.flatMap encEn, u.oneCell' = true := by
  intro u hu
  obtain ⟨z, hz, hu⟩ := List.mem_flatMap.1 hu
  simp [encEn] at hu
  rcases hu with rfl | rfl | rfl | rfl
  · rfl
  · exact SlR.one (h z hz).1
  · rfl
  · exact SlR.one (h z hz).2

/-- 'append([]PackEntry{}, src...)'. -/
theorem EnsOwn.cloned {lo : Nat} {K : Nat → Bool → Prop} {w : World} {v : Value} {zs : List (En × (Value × Value))} {n : Nat} (h : w.ownsRow lo 50 4 v n (zs.flatMap encEn)) (hn : n = zs.length) (hz : ∀ z ∈ zs, IntsR (new lo) w z.2.1 z.1.links ∧ OpsR (new lo) w z.2.2 z.1.ops) : EnsOwn lo w v (zs.map (·.1)) := by
  subst hn
  exact ⟨zs, rfl, by rw [List.length_map]; exact h, hz⟩

/-- The clone, and a base of it laid anew. -/
theorem EnsOwn.clonedSet {lo l4 : Nat} {w : World} {g cap : Nat} {es : List En} {zs : List (En × (Value × Value))} (h : w.ownsRow l4 50 4 (.slice (some ⟨g, 0, none⟩) es.length cap) es.length (zs.flatMap encEn)) (hl : lo ≤ l4) (hm : zs.map (·.1) = es) (hz : ∀ z ∈ zs, IntsR (new lo) w z.2.1 z.1.links ∧ OpsR (new lo) w z.2.2 z.1.ops) {k : Nat} (hk : k < es.length) (x : Int) :
    (∃ u, w.cell? ⟨g, k * 4 + 2, none⟩ = some u) ∧ w.frozen? ⟨g, k * 4 + 2, none⟩ = false ∧ EnsR (new lo) (w.setCell ⟨g, k * 4 + 2, none⟩ (.int .i64 x)) (.slice (some ⟨g, 0, none⟩) es.length cap) (es.set k { es[k] with base := x }) := by
  subst hm
  rw [List.length_map] at h
  have h1 := EnsOwn.cloned (K := new lo) (ownsRow_lo h hl) rfl hz
  have hk' : k < zs.length := by simpa using hk
  have hlen : (zs.flatMap encEn).length = zs.length * 4 := by
    clear h1 h hz hk hk'
    induction zs with
    | nil => rfl
    | cons z zs ih => rw [List.flatMap_cons, List.length_append, ih]; simp [encEn]; omega
  refine ⟨⟨(zs.flatMap encEn)[k * 4 + 2]'(by omega), ?_⟩, h.frozenAt _, ?_⟩
  · rw [h.cellAt (k * 4 + 2) (by omega), List.getElem?_eq_getElem (by omega)]
  · rw [List.length_map]
    exact (h1.setBase hk x).1.reads

end Go.Proofs.YtjgbconlpolddaaGreat

/- Reading a pack back: the nodes between the rounds; baseText. -/
namespace Go.Proofs.YtjgbconlpolddaaGreat
open Go.RowKit
set_option linter.unusedVariables false

/-- What K names is old at B, or of its type. -/
def Mild (K : Nat → Bool → Prop) (B : Nat) : Prop := ∀ b t, K b t → b < B ∨ t = true

theorem Mild.safe {K : Nat → Bool → Prop} {B E : Nat} {T : List Nat} (h : Mild K B) (hE : E ∉ T) : Safe K B T E := fun b t hb => (h b t hb).imp id (fun h => ⟨h, hE⟩)
theorem Mild.new (lo B : Nat) : Mild (new lo) B := fun _ _ h => .inr h.2
theorem Mild.old {B B' : Nat} (h : B ≤ B') : Mild (old B) B' := fun _ _ hb => .inl (Nat.lt_of_lt_of_le hb h)
theorem Mild.up {K : Nat → Bool → Prop} {B B' : Nat} (h : Mild K B) (hl : B ≤ B') : Mild K B' := fun b t hb => (h b t hb).imp (fun h => Nat.lt_of_lt_of_le h hl) id

theorem poTo_succ {es : List En} {k : Nat} {os : List Ob} {ds : List Nat} (hk : k < es.length) (h : poTo es k = some (os, ds)) :
    poTo es (k + 1) = match dapp (baseT (os.map (·.text)) es[k].base) es[k].ops with
      | some t => if baseD ds es[k].base ≤ 2 ∧ obOk ⟨es[k].kind, es[k].links, t⟩ = true then some (os ++ [⟨es[k].kind, es[k].links, t⟩], ds ++ [baseD ds es[k].base]) else none
      | none => none := by
  cases hD : dapp (baseT (os.map (·.text)) es[k].base) es[k].ops <;> simp [poTo, h, List.getElem?_eq_getElem hk, hD]

theorem poTo_none {es : List En} {k : Nat} (h : poTo es k = none) : ∀ n, k ≤ n → poTo es n = none := by
  intro n
  induction n with
  | zero =>
    intro hn
    obtain rfl : k = 0 := by omega
    exact h
  | succ n ih =>
    intro hn
    by_cases e : k = n + 1
    · subst e; exact h
    · simp [poTo, ih (by omega)]

/-- The nodes between the rounds: k texts are laid. -/
structure UL (K : Nat → Bool → Prop) (lo : Nat) (w : World) (bs : List Nat) (es : List En) (os : List Ob) (ds : List Nat) (k : Nat) : Prop where
  nodes : ∀ j (hj : j < es.length), k ≤ j → NodeL K w bs j es[j] []
  done : ∃ hi, (∀ j, k ≤ j → j < es.length → hi ≤ bs.getD j 0) ∧ ∀ j, j < k → NodeD lo hi w (ds.getD j 0) (bs.getD j 0) ((os.map (·.text)).getD j [])
  low : ∀ j, j < es.length → lo ≤ bs.getD j 0
  inc : ∀ i j, i < j → j < es.length → bs.getD i 0 < bs.getD j 0
  base : ∀ j (hj : j < es.length), es[j].base ≤ (j : Int) - 1
  lo' : os.length = k
  ld : ds.length = k
  dle : ∀ d ∈ ds, d ≤ 2

theorem UL.keep {K : Nat → Bool → Prop} {lo B : Nat} {T : List Nat} {w w' : World} {bs : List Nat} {es : List En} {os : List Ob} {ds : List Nat} {k : Nat} (h : UL K lo w bs es os ds k) (hf : Fr B T w w') (h1 : 72 ∉ T) (h2 : Safe K B T 3) (h3 : Safe K B T 91) : UL K lo w' bs es os ds k := by
  obtain ⟨hi, g1, g2⟩ := h.done
  exact ⟨fun j hj hk => (h.nodes j hj hk).keep hf h1 h2 h3, ⟨hi, g1, fun j hj => (g2 j hj).keep hf h1⟩, h.low, h.inc, h.base, h.lo', h.ld, h.dle⟩

theorem UL.grow {K : Nat → Bool → Prop} {lo B : Nat} {w w' : World} {bs : List Nat} {es : List En} {os : List Ob} {ds : List Nat} {k : Nat} (h : UL K lo w bs es os ds k) (hf : Fr B [] w w') : UL K lo w' bs es os ds k := by
  obtain ⟨hi, g1, g2⟩ := h.done
  exact ⟨fun j hj hk => (h.nodes j hj hk).grow hf, ⟨hi, g1, fun j hj => (g2 j hj).keep hf (by simp)⟩, h.low, h.inc, h.base, h.lo', h.ld, h.dle⟩

/-- Behind linkPack. -/
theorem UL.start {K : Nat → Bool → Prop} {lo : Nat} {w : World} {v : Value} {bs : List Nat} {es : List En} (h : Linked K lo w v bs es es.length) (hl : linkOk es = true) : UL K lo w bs es [] [] 0 :=
  ⟨fun j hj _ => h.node j hj hj, ⟨0, fun _ _ _ => Nat.zero_le _, fun j hj => absurd hj (Nat.not_lt_zero _)⟩, fun j hj => (h.lo j hj).1, h.inc, fun j hj => (linkTo_at hl j hj hj).2, rfl, rfl, fun d hd => by cases hd⟩

/-- The node's depth, whatever its text. -/
theorem UL.deep {K : Nat → Bool → Prop} {lo : Nat} {w w' : World} {bs : List Nat} {es : List En} {os : List Ob} {ds : List Nat} {k : Nat} (h : UL K lo w bs es os ds k) (hk : k < es.length) {a0 a1 a2 a3 : Value} {t : Tx}
    (hn : w'.heap[bs.getD k 0]? = some (.cells #[a0, a1, a2, a3, ptrOf bs es[k].base, .string (tx t)] 72 (0, 0)))
    (hk2 : ∀ hi d b t, hi ≤ bs.getD k 0 → NodeD lo hi w d b t → NodeD lo hi w' d b t) : NodeD lo (bs.getD k 0 + 1) w' (baseD ds es[k].base) (bs.getD k 0) t := by
  obtain ⟨hi, g1, g2⟩ := h.done
  have hlo := h.low k hk
  have hb := h.base k hk
  have hhi := g1 k (Nat.le_refl _) hk
  unfold baseD
  unfold ptrOf at hn
  by_cases hneg : es[k].base < 0
  · rw [if_pos hneg] at hn ⊢
    exact ⟨a0, a1, a2, a3, hlo, by omega, hn⟩
  · rw [if_neg hneg] at hn ⊢
    exact ⟨a0, a1, a2, a3, bs.getD es[k].base.toNat 0, (os.map (·.text)).getD es[k].base.toNat [], hlo, by omega, hn, (hk2 _ _ _ _ hhi (g2 es[k].base.toNat (by omega))).up (by omega)⟩

theorem getD_snoc' {α : Type} {l : List α} {x d : α} {j : Nat} (h : j < l.length) : (l ++ [x]).getD j d = l.getD j d := by
  rw [List.getD_eq_getElem?_getD, List.getD_eq_getElem?_getD, List.getElem?_append_left h]

theorem getD_last' {α : Type} {l : List α} {x d : α} : (l ++ [x]).getD l.length d = x := by
  rw [List.getD_eq_getElem?_getD, List.getElem?_append_right (Nat.le_refl _)]; simp

/-- The text laid. -/
theorem UL.next {K : Nat → Bool → Prop} {lo : Nat} {w : World} {bs : List Nat} {es : List En} {os : List Ob} {ds : List Nat} {k : Nat} (h : UL K lo w bs es os ds k) (hk : k < es.length) (hm : Mild K lo) (t : Tx) (hd : baseD ds es[k].base ≤ 2) :
    UL K lo (w.setCell ⟨bs.getD k 0, 5, none⟩ (.string (tx t))) bs es (os ++ [⟨es[k].kind, es[k].links, t⟩]) (ds ++ [baseD ds es[k].base]) (k + 1) := by
  obtain ⟨u, p, n1, n2, n3⟩ := h.nodes k hk (Nat.le_refl _)
  have F : Fr lo [72] w (w.setCell ⟨bs.getD k 0, 5, none⟩ (.string (tx t))) := (Fr.refl lo [72] w).setOld (p := ⟨bs.getD k 0, 5, none⟩) n1 (h.low k hk) (by simp [otag]) _
  have hset := block_set n1 5 (.string (tx t))
  have hdeep := h.deep (w' := w.setCell ⟨bs.getD k 0, 5, none⟩ (.string (tx t))) (t := t) hk hset (fun hi d b t' hh hn => hn.set hh)
  obtain ⟨hi, g1, g2⟩ := h.done
  refine ⟨fun j hj hkj => ?_, ⟨bs.getD k 0 + 1, fun j hkj hj => ?_, fun j hj => ?_⟩, h.low, h.inc, h.base, by simp [h.lo'], by simp [h.ld], fun d hd' => ?_⟩
  · obtain ⟨u', p', m1, m2, m3⟩ := h.nodes j hj (by omega)
    have := h.inc k j (by omega) hj
    exact ⟨u', p', block_setne m1 (by dsimp only; omega), m2.keep F (hm.safe (by simp)), m3.keep F (hm.safe (by simp))⟩
  · exact h.inc k j (by omega) hj
  · rw [List.map_append, List.map_cons, List.map_nil]
    by_cases e : j = k
    · subst e
      have e1 : (ds ++ [baseD ds es[j].base]).getD j 0 = baseD ds es[j].base := by
        have := getD_last' (l := ds) (x := baseD ds es[j].base) (d := 0)
        rwa [h.ld] at this
      have e2 : (os.map (·.text) ++ [t]).getD j [] = t := by
        have := getD_last' (l := os.map (·.text)) (x := t) (d := [])
        rwa [List.length_map, h.lo'] at this
      rw [e1, e2]
      exact hdeep
    · have hj' : j < k := by omega
      rw [getD_snoc' (by rw [h.ld]; exact hj'), getD_snoc' (by rw [List.length_map, h.lo']; exact hj')]
      exact ((g2 j hj').set (g1 k (Nat.le_refl _) hk)).up (by have := g1 k (Nat.le_refl _) hk; omega)
  · rcases List.mem_append.1 hd' with hd' | hd'
    · exact h.dle d hd'
    · simp at hd'; subst hd'; exact hd

/-- The base's text, where it lies. -/
theorem UL.text {K : Nat → Bool → Prop} {lo : Nat} {w : World} {bs : List Nat} {es : List En} {os : List Ob} {ds : List Nat} {k : Nat} (h : UL K lo w bs es os ds k) (hk : k < es.length) :
    ∃ pp, ptrOf bs es[k].base = .pointer pp ∧ ((pp = none ∧ baseT (os.map (·.text)) es[k].base = []) ∨ ∃ b2, pp = some ⟨b2, 0, none⟩ ∧ b2 < w.heap.size ∧ w.cell? ⟨b2, 5, none⟩ = some (.string (tx (baseT (os.map (·.text)) es[k].base)))) := by
  obtain ⟨hi, g1, g2⟩ := h.done
  have hb := h.base k hk
  unfold ptrOf baseT
  by_cases hneg : es[k].base < 0
  · rw [if_pos hneg, if_pos hneg]
    exact ⟨none, rfl, .inl ⟨rfl, rfl⟩⟩
  · rw [if_neg hneg, if_neg hneg]
    obtain ⟨_, _, a0, a1, a2, a3, pb, hn, _⟩ := (g2 es[k].base.toNat (by omega)).at
    exact ⟨_, rfl, .inr ⟨_, rfl, lt_of_get hn, cell_of (o := 5) hn rfl⟩⟩

theorem UL.dlt {K : Nat → Bool → Prop} {lo : Nat} {w : World} {bs : List Nat} {es : List En} {os : List Ob} {ds : List Nat} {k : Nat} (h : UL K lo w bs es os ds k) (b : Int) : baseD ds b ≤ 3 := by
  unfold baseD
  split
  · omega
  · rw [List.getD_eq_getElem?_getD]
    cases hx : ds[b.toNat]? with
    | none => simp
    | some d =>
      have := h.dle d (List.mem_of_getElem? hx)
      simp; omega

set_option maxRecDepth 20000 in
set_option maxHeartbeats 2000000 in
theorem baseText_any {w : World} {b : Nat} {p : Option Addr} {t : Tx} (h : w.cell? ⟨b, 4, none⟩ = some (.pointer p)) (ht : (p = none ∧ t = []) ∨ ∃ b2, p = some ⟨b2, 0, none⟩ ∧ w.cell? ⟨b2, 5, none⟩ = some (.string (tx t))) :
    Calls Tryz.prog 35 #[.pointer (some ⟨b, 0, none⟩)] w fun e w' => e = .returned (.string (tx t)) ∧ w = w' := by
  rcases ht with ⟨rfl, rfl⟩ | ⟨b2, rfl, hb2⟩
  · have _hz := Nat.zero_le 0
    clear _hz
    go_enter Tryz.func35, Tryz.ntmps35
    go_wp2
    go_ret
    exact ⟨rfl, rfl⟩
  · have _hz := Nat.zero_le 0
    clear _hz
    go_enter Tryz.func35, Tryz.ntmps35
    go_wp2
    go_ret
    exact ⟨rfl, rfl⟩

end Go.Proofs.YtjgbconlpolddaaGreat

/- A pack read back: plain laws. -/
namespace Go.Proofs.YtjgbconlpolddaaGreat
open Go.RowKit
set_option linter.unusedVariables false

/-- The entry of object k. -/
def entryOf (os : List Ob) (k : Nat) (hk : k < os.length) : En := ⟨os[k].kind, os[k].links, (pickTo (os.map (·.text)) (pk os k).2 os[k].text k).1, delta (baseT (os.map (·.text)) (pickTo (os.map (·.text)) (pk os k).2 os[k].text k).1) os[k].text⟩

theorem pk_at {os : List Ob} : ∀ {i : Nat}, i ≤ os.length → ∀ k (hk : k < os.length), k < i → (pk os i).1[k]? = some (entryOf os k hk) := by
  intro i
  induction i with
  | zero => intro _ k _ h; omega
  | succ i ih =>
    intro hi k hk hki
    rw [pk_succ (by omega)]
    have hl := (pk_len (os := os) (i := i) (by omega)).1
    by_cases e : k = i
    · subst e
      rw [List.getElem?_append_right (by omega), hl]
      simp [entryOf]
    · rw [List.getElem?_append_left (by omega)]
      exact ih (by omega) k hk (by omega)

theorem pack_at {os : List Ob} {k : Nat} (hk : k < os.length) : ∃ h : k < (pack os).length, (pack os)[k] = entryOf os k hk := by
  have h := pk_at (Nat.le_refl _) k hk hk
  obtain ⟨h1, h2⟩ := List.getElem?_eq_some_iff.1 h
  exact ⟨h1, h2⟩

theorem pack_len' (os : List Ob) : (pack os).length = os.length := (pk_len (Nat.le_refl _)).1

theorem pack_link (os : List Ob) : linkOk (pack os) = true := by
  have : ∀ k, k ≤ os.length → linkTo (pack os) k = true := by
    intro k
    induction k with
    | zero => intro _; rfl
    | succ k ih =>
      intro hk
      obtain ⟨h1, h2⟩ := pack_at (os := os) (k := k) (by omega)
      have hp := pickTo_in (os.map (·.text)) (pk os k).2 (os[k]'(by omega)).text k
      show (linkTo (pack os) k && _) = true
      rw [ih (by omega), List.getElem?_eq_getElem h1, h2]
      exact inR_iff.2 ⟨hp.1, by have := hp.2.1; show (pickTo (os.map (·.text)) (pk os k).2 (os[k]'(by omega)).text k).1 ≤ (k : Int) - 1; omega⟩
  unfold linkOk
  rw [pack_len']
  exact this _ (Nat.le_refl _)

theorem baseT_take {ts : List Tx} {b : Int} {k : Nat} (h : b < k) : baseT (ts.take k) b = baseT ts b := by
  unfold baseT
  split
  · rfl
  · rw [List.getD_eq_getElem?_getD, List.getD_eq_getElem?_getD, List.getElem?_take_of_lt (by omega)]

theorem baseT_le {ts : List Tx} {b : Int} (h : ∀ t ∈ ts, t.length ≤ 8) : (baseT ts b).length ≤ 8 := by
  unfold baseT
  split
  · simp
  · rw [List.getD_eq_getElem?_getD]
    cases hx : ts[b.toNat]? with
    | none => simp
    | some t => simpa using h t (List.mem_of_getElem? hx)

theorem packOk_all {os : List Ob} (h : packOk os = true) : os.length ≤ 16 ∧ ∀ o ∈ os, obOk o = true := by
  unfold packOk at h
  simp at h
  exact h

theorem poTo_pack {os : List Ob} (h : packOk os = true) : ∀ k, k ≤ os.length → poTo (pack os) k = some (os.take k, (pk os k).2) := by
  obtain ⟨h1, h2⟩ := packOk_all h
  intro k
  induction k with
  | zero => intro _; rfl
  | succ k ih =>
    intro hk
    have hk' : k < os.length := by omega
    obtain ⟨g1, g2⟩ := pack_at hk'
    obtain ⟨p1, p2, p3, p4⟩ := pickTo_in (os.map (·.text)) (pk os k).2 os[k].text k
    have hinv := (pk_inv (os := os) (i := k + 1) hk).1
    rw [pk_succ hk'] at hinv ⊢
    rw [poTo_succ g1 (ih (by omega)), g2]
    have ht : ∀ t ∈ os.map (·.text), t.length ≤ 8 := fun t ht => by
      obtain ⟨o, ho, rfl⟩ := List.mem_map.1 ht
      exact (obOk_len (h2 o ho)).2
    have hd : dapp (baseT ((os.take k).map (·.text)) (entryOf os k hk').base) (entryOf os k hk').ops = some os[k].text := by
      rw [List.map_take, baseT_take (by exact p2)]
      exact dapp_delta (baseT_le ht) (ht _ (List.mem_map.2 ⟨_, List.getElem_mem hk', rfl⟩))
    rw [hd]
    have hb : baseD (pk os k).2 (entryOf os k hk').base ≤ 2 := hinv _ (by simp [entryOf])
    have ho : obOk ⟨(entryOf os k hk').kind, (entryOf os k hk').links, os[k].text⟩ = true := h2 os[k] (List.getElem_mem hk')
    dsimp only
    rw [if_pos ⟨hb, ho⟩, List.take_add_one, List.getElem?_eq_getElem hk']
    rfl

/-- A pack has its objects. -/
theorem unpack_pack {os : List Ob} (h : packOk os = true) : unpack (pack os) = some os := by
  unfold unpack
  rw [pack_len', if_pos ⟨(packOk_all h).1, pack_link os⟩, poTo_pack h _ (Nat.le_refl _), List.take_length]
  rfl

end Go.Proofs.YtjgbconlpolddaaGreat

/- Towards PackObjects: small facts. -/
namespace Go.Proofs.YtjgbconlpolddaaGreat
open Go.RowKit
set_option linter.unusedVariables false

theorem ObsOwn.nil (lo : Nat) (w : World) : ObsOwn lo w (.slice none 0 0) [] := ⟨[], rfl, World.ownsRow_nil _ _ _ _, fun z hz => by cases hz⟩

theorem linked_of {K : Nat → Bool → Prop} {lo : Nat} {w : World} {es : List En} {e : Ending} (hl : linkOk es = true) (h : (linkOk es = false ∧ e = .returned (.tuple #[.slice none 0 0, .bool false])) ∨ (linkOk es = true ∧ ∃ v' bs, e = .returned (.tuple #[v', .bool true]) ∧ Linked K lo w v' bs es es.length)) : ∃ v' bs, e = .returned (.tuple #[v', .bool true]) ∧ Linked K lo w v' bs es es.length := by
  rcases h with ⟨h, _⟩ | ⟨_, h⟩
  · rw [hl] at h; cases h
  · exact h

theorem btext {w : World} {pp : Option Addr} {tb : Tx} (h : (pp = none ∧ tb = []) ∨ ∃ b2, pp = some ⟨b2, 0, none⟩ ∧ b2 < w.heap.size ∧ w.cell? ⟨b2, 5, none⟩ = some (.string (tx tb))) : (pp = none ∧ tb = []) ∨ ∃ b2, pp = some ⟨b2, 0, none⟩ ∧ w.drew.cell? ⟨b2, 5, none⟩ = some (.string (tx tb)) := by
  rcases h with h | ⟨b2, h1, _, h3⟩
  · exact .inl h
  · exact .inr ⟨b2, h1, h3⟩

theorem poTo_fail {es : List En} {k : Nat} {os : List Ob} {ds : List Nat} {tb : Tx} (hk : k < es.length) (h : poTo es k = some (os, ds)) (ht : baseT (os.map (·.text)) es[k].base = tb)
    (hn : dapp tb es[k].ops = none ∨ ¬ baseD ds es[k].base ≤ 2 ∨ ∃ t, dapp tb es[k].ops = some t ∧ obOk ⟨es[k].kind, es[k].links, t⟩ = false) : poTo es es.length = none := by
  subst ht
  refine poTo_none (k := k + 1) ?_ _ hk
  rw [poTo_succ hk h]
  rcases hn with hn | hn | ⟨t, hn, hb⟩
  · rw [hn]
  · split
    · rw [if_neg (fun h => hn h.1)]
    · rfl
  · rw [hn]
    dsimp only
    rw [if_neg (fun h => by rw [hb] at h; exact absurd h.2 (by decide))]

theorem poTo_go {es : List En} {k : Nat} {os : List Ob} {ds : List Nat} {tb t : Tx} (hk : k < es.length) (h : poTo es k = some (os, ds)) (ht : baseT (os.map (·.text)) es[k].base = tb)
    (hn : dapp tb es[k].ops = some t) (hd : baseD ds es[k].base ≤ 2) (ho : obOk ⟨es[k].kind, es[k].links, t⟩ = true) : poTo es (k + 1) = some (os ++ [⟨es[k].kind, es[k].links, t⟩], ds ++ [baseD ds es[k].base]) := by
  subst ht
  rw [poTo_succ hk h, hn]
  dsimp only
  rw [if_pos ⟨hd, ho⟩]

/-- Three cells of a block laid anew. -/
theorem fill3 {w : World} {E T : Nat} {z0 z1 z2 x0 x1 x2 : Value} (h : w.heap[E]? = some (.cells #[z0, z1, z2] T (0, 0))) :
    (((w.setCell ⟨E, 0, none⟩ x0).setCell ⟨E, 1, none⟩ x1).setCell ⟨E, 2, none⟩ x2).heap[E]? = some (.cells #[x0, x1, x2] T (0, 0)) := by
  have := block_set (block_set (block_set h 0 x0) 1 x1) 2 x2
  simpa using this

theorem other3 {w : World} {E k : Nat} {o : Obj} {x0 x1 x2 : Value} (h : w.heap[k]? = some o) (hk : k ≠ E) :
    (((w.setCell ⟨E, 0, none⟩ x0).setCell ⟨E, 1, none⟩ x1).setCell ⟨E, 2, none⟩ x2).heap[k]? = some o :=
  block_setne (block_setne (block_setne h hk) hk) hk

theorem Fr.fill3 {B E T : Nat} {a w : World} {z0 z1 z2 x0 x1 x2 : Value} (hf : Fr B [T] a w) (h : w.heap[E]? = some (.cells #[z0, z1, z2] T (0, 0))) (hB : B ≤ E) :
    Fr B [T] a (((w.setCell ⟨E, 0, none⟩ x0).setCell ⟨E, 1, none⟩ x1).setCell ⟨E, 2, none⟩ x2) := by
  have b1 := block_set h 0 x0
  have b2 := block_set b1 1 x1
  exact ((hf.setOld (p := ⟨E, 0, none⟩) h hB (by simp [otag]) x0).setOld (p := ⟨E, 1, none⟩) b1 hB (by simp [otag]) x1).setOld (p := ⟨E, 2, none⟩) b2 hB (by simp [otag]) x2

theorem Fr.new3 {B E : Nat} {T : List Nat} {a w : World} {x0 x1 x2 : Value} (hf : Fr B T a w) (hB : a.heap.size ≤ E) :
    Fr B T a (((w.setCell ⟨E, 0, none⟩ x0).setCell ⟨E, 1, none⟩ x1).setCell ⟨E, 2, none⟩ x2) :=
  ((hf.setNew (p := ⟨E, 0, none⟩) hB x0).setNew (p := ⟨E, 1, none⟩) hB x1).setNew (p := ⟨E, 2, none⟩) hB x2

end Go.Proofs.YtjgbconlpolddaaGreat

/- Cells of objects. -/
namespace Go.Proofs.YtjgbconlpolddaaGreat
open Go.RowKit
set_option linter.unusedVariables false

theorem oneObs {K : Nat → Bool → Prop} {w : World} {zs : List (Ob × Value)} (h : ∀ z ∈ zs, IntsR K w z.2 z.1.links) : ∀ u ∈ zs.flatMap encOb, u.oneCell' = true := by
  intro u hu
  obtain ⟨z, hz, hu⟩ := List.mem_flatMap.1 hu
  simp [encOb] at hu
  rcases hu with rfl | rfl | rfl
  · rfl
  · exact SlR.one (h z hz)
  · rfl

end Go.Proofs.YtjgbconlpolddaaGreat

/- Sums of packs: plain laws. -/
namespace Go.Proofs.YtjgbconlpolddaaGreat
open Go.RowKit
set_option linter.unusedVariables false

/-- The sum behind the first k objects. -/
def sumTo (os : List Ob) : Nat → Int
  | 0 => os.length
  | k + 1 => match os[k]? with | some o => (sumTo os k * 613 + oid o + 1) % 991 | none => sumTo os k

theorem sumTo_succ {os : List Ob} {k : Nat} (h : k < os.length) : sumTo os (k + 1) = (sumTo os k * 613 + oid os[k] + 1) % 991 := by simp [sumTo, List.getElem?_eq_getElem h]

theorem oid_in {o : Ob} (h : obOk o = true) : 0 ≤ oid o ∧ oid o ≤ 990 := idT_in h _

theorem sumTo_in {os : List Ob} (hl : os.length ≤ 16) : ∀ k, 0 ≤ sumTo os k ∧ sumTo os k ≤ 990 := by
  intro k
  induction k with
  | zero => show 0 ≤ (os.length : Int) ∧ (os.length : Int) ≤ 990; omega
  | succ k ih =>
    by_cases hk : k < os.length
    · rw [sumTo_succ hk]; omega
    · have : sumTo os (k + 1) = sumTo os k := by simp [sumTo, List.getElem?_eq_none (Nat.le_of_not_lt hk)]
      rw [this]; exact ih

theorem step613 {s s' c : Int} (h1 : 0 ≤ s ∧ s ≤ 990) (h2 : 0 ≤ s' ∧ s' ≤ 990) (h : s ≠ s') : (s * 613 + c + 1) % 991 ≠ (s' * 613 + c + 1) % 991 := by omega
theorem step257 {s s' c : Int} (h1 : 0 ≤ s ∧ s ≤ 990) (h2 : 0 ≤ s' ∧ s' ≤ 990) (h : s ≠ s') : (s * 257 + c + 1) % 991 ≠ (s' * 257 + c + 1) % 991 := by omega

/-- Another object at k: another sum. -/
theorem sumTo_set {os : List Ob} {k : Nat} {o' : Ob} (hk : k < os.length) (hl : os.length ≤ 16) (h1 : obOk os[k] = true) (h2 : obOk o' = true) (hne : oid o' ≠ oid os[k]) : sumTo (os.set k o') os.length ≠ sumTo os os.length := by
  have hl' : (os.set k o').length ≤ 16 := by simpa using hl
  have e1 : ∀ j, j ≤ k → sumTo (os.set k o') j = sumTo os j := by
    intro j
    induction j with
    | zero => intro _; show ((os.set k o').length : Int) = os.length; simp
    | succ j ih =>
      intro hj
      rw [sumTo_succ (by simp; omega), sumTo_succ (by omega), ih (by omega), List.getElem_set_ne (by omega)]
  have e2 : ∀ d, k + 1 + d ≤ os.length → sumTo (os.set k o') (k + 1 + d) ≠ sumTo os (k + 1 + d) := by
    intro d
    induction d with
    | zero =>
      intro _
      rw [Nat.add_zero, sumTo_succ (by simpa using hk), sumTo_succ hk, e1 k (Nat.le_refl _), List.getElem_set_self]
      have a1 := oid_in h1
      have a2 := oid_in h2
      omega
    | succ d ih =>
      intro hd
      rw [← Nat.add_assoc, sumTo_succ (by simp; omega), sumTo_succ (by omega), List.getElem_set_ne (by omega)]
      exact step613 (sumTo_in hl' _) (sumTo_in hl _) (ih (by omega))
  have := e2 (os.length - (k + 1)) (by omega)
  rwa [show k + 1 + (os.length - (k + 1)) = os.length by omega] at this

/-- The text with another first byte. -/
theorem oid_first {o : Ob} {b b' : UInt8} {t : Tx} (ht : o.text = b :: t) (hb : b' ≠ b) (h1 : obOk o = true) (h2 : obOk ⟨o.kind, o.links, b' :: t⟩ = true) : oid ⟨o.kind, o.links, b' :: t⟩ ≠ oid o := by
  obtain ⟨kd, ls, tx⟩ := o
  dsimp only at ht
  subst ht
  have e0 : ∀ j, idL ⟨kd, ls, b' :: t⟩ j = idL ⟨kd, ls, b :: t⟩ j := by
    intro j
    induction j with
    | zero => rfl
    | succ j ih => simp [idL, ih]
  have hbn : b'.toNat ≠ b.toNat := fun e => hb (UInt8.toNat_inj.1 e)
  have l1 := b.toNat_lt
  have l2 := b'.toNat_lt
  have e1 : ∀ d, 1 + d ≤ t.length + 1 → idT ⟨kd, ls, b' :: t⟩ (1 + d) ≠ idT ⟨kd, ls, b :: t⟩ (1 + d) := by
    intro d
    induction d with
    | zero =>
      intro _
      rw [Nat.add_zero, idT_succ (by simp), idT_succ (by simp)]
      show ((idL ⟨kd, ls, b' :: t⟩ ls.length) * 257 + (b'.toNat : Int) + 1) % 991 ≠ ((idL ⟨kd, ls, b :: t⟩ ls.length) * 257 + (b.toNat : Int) + 1) % 991
      rw [e0]
      omega
    | succ d ih =>
      intro hd
      have hlt : 1 + d < t.length + 1 := by omega
      rw [← Nat.add_assoc, idT_succ (o := ⟨kd, ls, b' :: t⟩) (by simpa using hlt), idT_succ (o := ⟨kd, ls, b :: t⟩) (by simpa using hlt)]
      have e : (b' :: t)[1 + d]'(by simpa using hlt) = (b :: t)[1 + d]'(by simpa using hlt) := by
        simp only [Nat.add_comm 1 d, List.getElem_cons_succ]
      dsimp only
      rw [e]
      exact step257 (idT_in h2 _) (idT_in h1 _) (ih (by omega))
  have := e1 t.length (by omega)
  unfold oid
  simpa [Nat.add_comm] using this

theorem obOk_first {o : Ob} {b b' : UInt8} {t : Tx} (ht : o.text = b :: t) (h1 : obOk o = true) : obOk ⟨o.kind, o.links, b' :: t⟩ = true := by
  unfold obOk kindOk at h1 ⊢
  rw [ht] at h1
  simpa using h1

theorem packOk_set {os : List Ob} {k : Nat} {o' : Ob} (h : packOk os = true) (ho : obOk o' = true) : packOk (os.set k o') = true := by
  obtain ⟨h1, h2⟩ := packOk_all h
  unfold packOk
  simp
  refine ⟨h1, fun o hm => ?_⟩
  rcases List.mem_or_eq_of_mem_set hm with hm | hm
  · exact h2 o hm
  · rw [hm]; exact ho

theorem poTo_len {es : List En} : ∀ {k : Nat} {os : List Ob} {ds : List Nat}, k ≤ es.length → poTo es k = some (os, ds) → os.length = k ∧ ∀ o ∈ os, obOk o = true := by
  intro k
  induction k with
  | zero =>
    intro os ds _ h
    simp [poTo] at h
    obtain ⟨rfl, rfl⟩ := h
    exact ⟨rfl, fun o ho => by cases ho⟩
  | succ k ih =>
    intro os ds hk h
    cases hp : poTo es k with
    | none => rw [poTo_none hp (k + 1) (by omega)] at h; cases h
    | some r =>
      obtain ⟨os', ds'⟩ := r
      obtain ⟨i1, i2⟩ := ih (by omega) hp
      rw [poTo_succ (by omega) hp] at h
      split at h
      · split at h
        · rename_i hc
          simp at h
          obtain ⟨rfl, rfl⟩ := h
          refine ⟨by simp [i1], fun o ho => ?_⟩
          rcases List.mem_append.1 ho with ho | ho
          · exact i2 o ho
          · simp at ho; subst ho; exact hc.2
        · cases h
      · cases h

theorem unpack_ok {es : List En} {os : List Ob} (h : unpack es = some os) : es.length ≤ 16 ∧ os.length = es.length ∧ ∀ o ∈ os, obOk o = true := by
  unfold unpack at h
  split at h
  · rename_i hc
    cases hp : poTo es es.length with
    | none => rw [hp] at h; cases h
    | some r =>
      obtain ⟨os', ds'⟩ := r
      rw [hp] at h
      simp at h
      subst h
      obtain ⟨i1, i2⟩ := poTo_len (Nat.le_refl _) hp
      exact ⟨hc.1, i1, i2⟩
  · cases h

end Go.Proofs.YtjgbconlpolddaaGreat

/- The program's search for an id. -/
namespace Go.Proofs.YtjgbconlpolddaaGreat
open Go.RowKit
set_option linter.unusedVariables false

set_option maxRecDepth 20000 in
set_option maxHeartbeats 2000000 in
theorem findCmp_any (K : Nat → Bool → Prop) (v : Value) (o : Ob) (n : Int) (w : World) (hv : IntsR K w v o.links) (hok : obOk o = true) (h0 : 0 ≤ n) (h1 : n ≤ 990) :
    Calls Tryz.prog 72 #[.agg #[.int .i64 o.kind, v, .string (tx o.text)], .int .i64 n] w fun e w' => e = .returned (.int .i64 (oid o - n)) ∧ Fr w.heap.size [] w w' := by
  obtain ⟨a, cap, rfl, hcap, -⟩ := hv.shape
  have F0 := hid ((Fr.refl w.heap.size [] w).alloc (.cells #[.int .i64 o.kind, .slice a o.links.length cap, .string (tx o.text)] 37))
  have HV := hid (hv.grow F0.out)
  have hoi := oid_in hok
  have OK := hid hok
  clear hv hok
  go_enter Tryz.func72, Tryz.ntmps72
  go_wp2_with (go_at_call 39; go_must (refine (id_any _ _ o _ HV.out OK.out).mono ?_; rintro e w1 ⟨rfl, fr1⟩; have F1 := hid (F0.out.trans fr1.nil); clear fr1))
  go_ret
  exact ⟨rfl, F1.out⟩

theorem oid_mono {os : List Ob} (h : stOk os = true) {a b : Nat} (hab : a ≤ b) (hb : b < os.length) : oid (os[a]'(by omega)) ≤ oid os[b] := by
  by_cases e : a = b
  · subst e; exact Int.le_refl _
  · exact Int.le_of_lt (stOk_lt h (by omega) hb)

set_option maxRecDepth 20000 in
set_option maxHeartbeats 4000000 in
theorem bsearch_any (K : Nat → Bool → Prop) (v : Value) (os : List Ob) (n : Int) (w : World) (hv : ObsR K w v os) (hok : stOk os = true) (h0 : 0 ≤ n) (h1 : n ≤ 990) (f : Value) (hf : f = .func (.func 72) #[] #[]) :
    Calls Tryz.prog 71 #[v, .int .i64 n, f] w fun e w' => e = .returned (.tuple #[.int .i64 (findK os n), .bool (hasK os n)]) ∧ Fr w.heap.size [] w w' := by
  subst hf
  obtain ⟨a, cap, rfl, hcap, hcell⟩ := hv.shape
  have HC := hid hcell
  have OK := hid hok
  have hl16 := (stOk_iff.1 hok).1
  clear hv hcell hok
  go_enter Tryz.func71, Tryz.ntmps71
  go_wp2
  go_loopw [9, 10] (fun vl vh wx => ∃ lo hi : Nat, vl = .int .i64 lo ∧ vh = .int .i64 hi ∧ lo ≤ hi ∧ hi ≤ os.length ∧ (∀ j (hj : j < os.length), j < lo → oid os[j] < n) ∧ (∀ j (hj : j < os.length), hi ≤ j → n ≤ oid os[j]) ∧ Fr w.heap.size [] w wx) (fun vl vh _ => (intOf vh).toNat - (intOf vl).toNat)
  case atStart => exact ⟨0, os.length, rfl, rfl, Nat.zero_le _, Nat.le_refl _, fun j hj h => absurd h (Nat.not_lt_zero _), fun j hj h => absurd h (by omega), Fr.refl _ _ _⟩
  case round =>
    obtain ⟨lo, hi, rfl, rfl, hlh, hhn, hlo, hhi, hfr⟩ := hrel
    have LO := hid hlo
    have HI := hid hhi
    clear hlo hhi
    by_cases hlt : lo < hi
    · have hm : (lo + hi) / 2 < os.length := by omega
      rcases HC.out with hh | ⟨b, off, rfl, hbs, hcell⟩
      · rw [hh] at hm; cases hm
      · obtain ⟨u, x0, x1, x2, hu⟩ := hcell _ hm
        obtain ⟨ua, ucap, rfl, _, _⟩ := hu.shape
        have c0 := hfr.cell hbs x0
        have c1 := hfr.cell hbs x1
        have c2 := hfr.cell hbs x2
        have HU := hid (hu.grow hfr)
        have OKm := hid (stOk_at OK.out hm)
        have UP := hid (fun (h : oid os[(lo + hi) / 2] < n) => show ∀ j (hj : j < os.length), j < (lo + hi) / 2 + 1 → oid os[j] < n from fun j hj hjk => Int.lt_of_le_of_lt (oid_mono OK.out (show j ≤ (lo + hi) / 2 by omega) hm) h)
        have DN := hid (fun (h : ¬ oid os[(lo + hi) / 2] < n) => show ∀ j (hj : j < os.length), (lo + hi) / 2 ≤ j → n ≤ oid os[j] from fun j hj hjk => Int.le_trans (by omega) (oid_mono OK.out hjk hj))
        clear hcell x0 x1 x2 hu
        have hih : (lo : Int) < (hi : Int) := by omega
        generalize os[(lo + hi) / 2] = o at *
        have hoi := oid_in OKm.out
        by_cases hlow : oid o < n
        · have UP2 := hid (UP.out hlow)
          have i1 : oid o - n < 0 := by omega
          go_wp2_with (go_at_call 72; go_must (refine (findCmp_any _ _ o n _ HU.out OKm.out h0 h1).mono ?_; rintro e w1 ⟨rfl, fr1⟩; have F1 := hid (hfr.trans fr1.nil); clear fr1))
          go_roundw
          case rel => exact ⟨(lo + hi) / 2 + 1, hi, by rw [show ((lo : Int) + (hi : Int)) / 2 + 1 = (((lo + hi) / 2 + 1 : Nat) : Int) by omega], rfl, by omega, hhn, UP2.out, HI.out, F1.out⟩
          case measure => simp [intOf]; omega
        · have DN2 := hid (DN.out hlow)
          have i1 : ¬ oid o - n < 0 := by omega
          go_wp2_with (go_at_call 72; go_must (refine (findCmp_any _ _ o n _ HU.out OKm.out h0 h1).mono ?_; rintro e w1 ⟨rfl, fr1⟩; have F1 := hid (hfr.trans fr1.nil); clear fr1))
          go_roundw
          case rel => exact ⟨lo, (lo + hi) / 2, rfl, by rw [show ((lo : Int) + (hi : Int)) / 2 = (((lo + hi) / 2 : Nat) : Int) by omega], by omega, by omega, LO.out, DN2.out, F1.out⟩
          case measure => simp [intOf]; omega
    · obtain rfl : hi = lo := by omega
      have EK : findK os n = hi := findK_eq hhn (fun j hj h => LO.out j hj h) (fun h => HI.out hi h (Nat.le_refl _))
      by_cases hin : hi < os.length
      · have HK := hid (show hasK os n = decide (oid os[hi] = n) by
          have := hasK_lt (os := os) (id := n) (by rw [EK]; exact hin)
          simp only [EK] at this
          exact this)
        rcases HC.out with hh | ⟨b, off, rfl, hbs, hcell⟩
        · rw [hh] at hin; cases hin
        · obtain ⟨u, x0, x1, x2, hu⟩ := hcell _ hin
          obtain ⟨ua, ucap, rfl, _, _⟩ := hu.shape
          have c0 := hfr.cell hbs x0
          have c1 := hfr.cell hbs x1
          have c2 := hfr.cell hbs x2
          have HU := hid (hu.grow hfr)
          have OKm := hid (stOk_at OK.out hin)
          have hki : (hi : Int) < (os.length : Int) := by omega
          have EKH := hid EK
          clear hcell x0 x1 x2 hu EK
          generalize os[hi] = o at *
          have hoi := oid_in OKm.out
          by_cases heq : oid o = n
          · have HK2 := hid (show hasK os n = true by rw [HK.out]; simp [heq])
            have i1 : oid o - n = 0 := by omega
            have i2 : (oid o - n == 0) = true := by simp [i1]
            clear heq
            go_wp2_with (go_at_call 72; go_must (refine (findCmp_any _ _ o n _ HU.out OKm.out h0 h1).mono ?_; rintro e w1 ⟨rfl, fr1⟩; have F1 := hid (hfr.trans fr1.nil); clear fr1))
            go_ret2
            rw [HK2.out, EKH.out, ← i2]
            exact ⟨rfl, F1.out⟩
          · have HK2 := hid (show hasK os n = false by rw [HK.out]; simp [heq])
            have i1 : ¬ oid o - n = 0 := by omega
            have i2 : (oid o - n == 0) = false := by simp [i1]
            go_wp2_with (go_at_call 72; go_must (refine (findCmp_any _ _ o n _ HU.out OKm.out h0 h1).mono ?_; rintro e w1 ⟨rfl, fr1⟩; have F1 := hid (hfr.trans fr1.nil); clear fr1))
            go_ret2
            rw [HK2.out, EKH.out, ← i2]
            exact ⟨rfl, F1.out⟩
      · obtain rfl : hi = os.length := by omega
        have HK2 := hid (hasK_end EK)
        have EKH := hid EK
        clear EK
        go_wp2
        go_ret2
        rw [HK2.out, EKH.out]
        exact ⟨rfl, hfr⟩

set_option maxRecDepth 20000 in
set_option maxHeartbeats 4000000 in
theorem findObject_any (K : Nat → Bool → Prop) (v : Value) (os : List Ob) (n : Int) (w : World) (hv : ObsR K w v os) (hok : stOk os = true) (h0 : 0 ≤ n) (h1 : n ≤ 990) :
    Calls Tryz.prog 45 #[v, .int .i64 n] w fun e w' => e = .returned (.tuple #[.int .i64 (findK os n), .bool (hasK os n)]) ∧ Fr w.heap.size [] w w' := by
  obtain ⟨a, cap, rfl, hcap, -⟩ := hv.shape
  have HV := hid hv
  have OK := hid hok
  clear hv hok
  go_enter Tryz.func45, Tryz.ntmps45
  go_wp2_with (go_at_call 71; go_must (refine (bsearch_any K _ os n _ HV.out OK.out h0 h1 _ rfl).mono ?_; rintro e w1 ⟨rfl, fr1⟩; have F1 := hid fr1; clear fr1))
  go_ret2
  exact ⟨rfl, F1.out⟩

end Go.Proofs.YtjgbconlpolddaaGreat
