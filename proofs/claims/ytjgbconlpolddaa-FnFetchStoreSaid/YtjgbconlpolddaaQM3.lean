/- Draws of ids. -/
import Derived.Test.YtjgbconlpolddaaQPkDraw1
import Derived.Test.YtjgbconlpolddaaQPkLink
import Derived.Test.YtjgbconlpolddaaQPkSame
import Derived.Test.YtjgbconlpolddaaQPkList
set_option linter.unusedVariables false
set_option linter.unusedSimpArgs false
namespace Go.Proofs.Ytjgbconlpolddaa
open Go.RowKit
set_option linter.unusedVariables false

/-- A drawn number. -/
def DrawI (B r p c : Nat) (w : World) (e : Ending) (w' : World) : Prop :=
  ∃ (n : Int) (q : Nat), e = .returned (.int .i64 n) ∧ Rdr B w' r q ∧ q ≤ p + c ∧ Fr B [102] w w' ∧ -1000 ≤ n ∧ n ≤ 1000

set_option maxRecDepth 20000 in
set_option maxHeartbeats 1000000 in
theorem l91Id_any {B r p : Nat} {w : World} (hR : Rdr B w r p) (hp : p ≤ 999999990) :
    Calls Try.prog 101 #[.pointer (some ⟨r, 0, none⟩)] w (DrawI B r p 3 w) := by
  have hB : B ≤ w.heap.size := Nat.le_trans hR.1 (Nat.le_of_lt hR.lt)
  go_enter Try.func101, Try.ntmps101
  go_wp2_with (first
    | (go_at_call 71; (with_reducible refine (pick_at (n := 30) hR (by omega)).mono ?_); go_must (rintro e w1 ⟨k, rfl, hk, hR1, hf1⟩))
    | (go_at_call 71; (with_reducible refine (pick_at (n := 99) hR1 (by omega)).mono ?_); go_must (rintro e w2 ⟨j, rfl, hj, hR2, hf2⟩))
    | (go_at_call 71; (with_reducible refine (pick_at (n := 10) hR2 (by omega)).mono ?_); go_must (rintro e w3 ⟨i, rfl, hi, hR3, hf3⟩))
    | (go_at_call 71; go_must (refine (pick_at (n := 3) (hR1.alloc _) (by omega)).mono ?_; rintro e w2 ⟨j, rfl, hj, hR2, hf2⟩; have hj3 : j < 3 := (by omega); have hcb := hf2.keep _ _ (heap_alloc_new w1 (.cells #[.int .i64 (-1), .int .i64 990, .int .i64 991] 3)) (.inr (by simp [otag])); obtain ⟨m, hm, hmm⟩ := cell3 hcb hj3; have hj3' : (j : Int) < 3 := (by omega); have HM := hid hmm; clear hmm)))
  · go_ret
    have hmm := HM.out
    exact ⟨m, _, rfl, hR2, by omega, (hf1.alloc _).trans hf2, by omega, by omega⟩
  · go_ret
    exact ⟨_, _, rfl, hR3, by omega, (hf1.trans hf2).trans hf3, by omega, by omega⟩

end Go.Proofs.Ytjgbconlpolddaa

/- The box of an object under way. -/
namespace Go.Proofs.Ytjgbconlpolddaa
open Go.RowKit
set_option linter.unusedVariables false

/-- The object's box, the result's box, the object's links. -/
structure Bx (B r q : Nat) (w W : World) (X R : Nat) (cs : Array Value) (v : Value) (l : List Int) : Prop where
  box : W.heap[X]? = some (.cells cs 40 (0, 0))
  res : W.heap[R]? = some (.cells #[.int .i64 0, .slice none 0 0, .string ⟨#[]⟩] 40 (0, 0))
  own : W.ownsRow w.heap.size 3 1 v l.length (l.map (Value.int .i64))
  rd : Rdr B W r q
  fr : Fr B [102] w W
  lo : w.heap.size ≤ R
  lt : R < X
  bl : B ≤ w.heap.size

theorem Bx.set {B r q : Nat} {w W : World} {X R : Nat} {cs : Array Value} {v : Value} {l : List Int} (h : Bx B r q w W X R cs v l) (o : Nat) (u : Value) : Bx B r q w (W.setCell ⟨X, o, none⟩ u) X R (cs.setIfInBounds o u) v l := by
  have F : Fr B [40] W (W.setCell ⟨X, o, none⟩ u) := (Fr.refl B [40] W).setOld (p := ⟨X, o, none⟩) h.box (Nat.le_trans h.bl (Nat.le_trans h.lo (Nat.le_of_lt h.lt))) (by simp [otag]) u
  exact ⟨block_set h.box o u, block_setne h.res (Nat.ne_of_lt h.lt), ownsRow_keep h.own F (by simp), h.rd.keep F (by simp), h.fr.setNew (p := ⟨X, o, none⟩) (Nat.le_trans h.lo (Nat.le_of_lt h.lt)) u, h.lo, h.lt, h.bl⟩

/-- Another row of links, in a world that is further on. -/
theorem Bx.next {B r q : Nat} {w W W' : World} {X R : Nat} {cs : Array Value} {v v' : Value} {l l' : List Int} (h : Bx B r q w W X R cs v l) (hf : Fr W.heap.size [] W W') (ho : W'.ownsRow w.heap.size 3 1 v' l'.length (l'.map (Value.int .i64))) : Bx B r q w W' X R cs v' l' :=
  ⟨hf.keep _ _ h.box (.inr (by simp)), hf.keep _ _ h.res (.inr (by simp)), ho, h.rd.keep (hf.nil (B' := B) (T := [])) (by simp), h.fr.trans hf.nil, h.lo, h.lt, h.bl⟩

theorem Bx.drew {B r q : Nat} {w W : World} {X R : Nat} {cs : Array Value} {v : Value} {l : List Int} (h : Bx B r q w W X R cs v l) : Bx B r q w W.drew X R cs v l :=
  ⟨h.box, h.res, h.own, h.rd.keep (Fr.refl B [] W).drew (by simp), h.fr.drew, h.lo, h.lt, h.bl⟩

theorem Bx.ap {B r q : Nat} {w W W' : World} {X R : Nat} {cs : Array Value} {v v' : Value} {l l' : List Int} {o : Obj} (h : Bx B r q w W X R cs v l) (hf : Fr w.heap.size [3] (W.alloc o) W') (ho : W'.ownsRow w.heap.size 3 1 v' l'.length (l'.map (Value.int .i64))) : Bx B r q w W' X R cs v' l' :=
  have F : Fr w.heap.size [3] W W' := ((Fr.refl _ _ W).alloc o).trans hf
  ⟨F.keep _ _ h.box (.inr (by simp [otag])), F.keep _ _ h.res (.inr (by simp [otag])), ho, h.rd.keep (F.mono h.bl (fun _ x => x)) (by simp), h.fr.after F, h.lo, h.lt, h.bl⟩

/-- A further pick. -/
theorem Bx.pick {B r q q' : Nat} {w W W' : World} {X R : Nat} {cs : Array Value} {v : Value} {l : List Int} (h : Bx B r q w W X R cs v l) (hr : Rdr B W' r q') (hf : Fr B [102] W W') : Bx B r q' w W' X R cs v l :=
  ⟨hf.keep _ _ h.box (.inr (by simp [otag])), hf.keep _ _ h.res (.inr (by simp [otag])), ownsRow_keep h.own hf (by simp), hr, h.fr.trans hf, h.lo, h.lt, h.bl⟩

/-- A push to a row that is newer than the boxes. -/
theorem Bx.push {B r q s : Nat} {w W W' : World} {X R : Nat} {cs : Array Value} {v v' : Value} {l l' : List Int} (h : Bx B r q w W X R cs v l) (hX : X < s) (hf : Fr s [3] W W') (ho : W'.ownsRow w.heap.size 3 1 v' l'.length (l'.map (Value.int .i64))) : Bx B r q w W' X R cs v' l' := by
  have hw : w.heap.size ≤ s := Nat.le_trans h.lo (Nat.le_of_lt (Nat.lt_trans h.lt hX))
  exact ⟨hf.keep _ _ h.box (.inl hX), hf.keep _ _ h.res (.inl (Nat.lt_trans h.lt hX)), ho, h.rd.keep (hf.mono (Nat.le_trans h.bl hw) (fun _ x => x)) (by simp), h.fr.after (hf.mono hw (fun _ x => x)), h.lo, h.lt, h.bl⟩

/-- A drawn object, its links in a row of its own. -/
def DrawO (B r p : Nat) (w : World) (e : Ending) (w' : World) : Prop :=
  ∃ (o : Ob) (v : Value) (q : Nat), e = .returned (.agg #[.int .i64 o.kind, v, .string (tx o.text)]) ∧ w'.ownsRow w.heap.size 3 1 v o.links.length (o.links.map (Value.int .i64)) ∧ o.links.length ≤ 1000 ∧ o.text.length ≤ 9 ∧ -1000 ≤ o.kind ∧ o.kind ≤ 1000 ∧ Rdr B w' r q ∧ q ≤ p + 60 ∧ Fr B [102] w w'

theorem Bx.fin {B r q p : Nat} {w W : World} {X : Nat} {kd : Int} {v : Value} {t : Tx} {l : List Int} (h : Bx B r q w W X w.heap.size #[.int .i64 kd, v, .string (tx t)] v l) (h1 : l.length ≤ 1000) (h2 : t.length ≤ 9) (h3 : -1000 ≤ kd) (h4 : kd ≤ 1000) (h5 : q ≤ p + 60) :
    DrawO B r p w (.returned (.agg #[.int .i64 kd, v, .string (tx t)])) (((W.setCell ⟨w.heap.size, 0, none⟩ (.int .i64 kd)).setCell ⟨w.heap.size, 1, none⟩ v).setCell ⟨w.heap.size, 2, none⟩ (.string (tx t))) ∧
    (((W.setCell ⟨w.heap.size, 0, none⟩ (.int .i64 kd)).setCell ⟨w.heap.size, 1, none⟩ v).setCell ⟨w.heap.size, 2, none⟩ (.string (tx t))).heap[w.heap.size]? = some (.cells #[.int .i64 kd, v, .string (tx t)] 40 (0, 0)) := by
  have b1 := block_set h.res 0 (.int .i64 kd)
  have b2 := block_set b1 1 v
  have b3 := block_set b2 2 (.string (tx t))
  have F1 : Fr B [40] W (W.setCell ⟨w.heap.size, 0, none⟩ (.int .i64 kd)) := (Fr.refl B [40] W).setOld (p := ⟨w.heap.size, 0, none⟩) h.res h.bl (by simp [otag]) _
  have F2 := F1.setOld (p := ⟨w.heap.size, 1, none⟩) b1 h.bl (by simp [otag]) v
  have F3 := F2.setOld (p := ⟨w.heap.size, 2, none⟩) b2 h.bl (by simp [otag]) (.string (tx t))
  exact ⟨⟨⟨kd, l, t⟩, v, q, rfl, ownsRow_keep h.own F3 (by simp), h1, h2, h3, h4, h.rd.keep F3 (by simp), h5, ((h.fr.setNew (p := ⟨w.heap.size, 0, none⟩) (Nat.le_refl _) _).setNew (p := ⟨w.heap.size, 1, none⟩) (Nat.le_refl _) _).setNew (p := ⟨w.heap.size, 2, none⟩) (Nat.le_refl _) _⟩, b3⟩

end Go.Proofs.Ytjgbconlpolddaa

/- A pack with a base that does not come earlier. -/
namespace Go.Proofs.Ytjgbconlpolddaa
open Go.RowKit
set_option linter.unusedVariables false

theorem linkPack_no (K : Nat → Bool → Prop) (v : Value) (es : List En) (w : World) (hv : EnsR K w v es) (hl : es.length ≤ 1000) (hKi : Safe K w.heap.size [67] 3) (hKo : Safe K w.heap.size [67] 109) (hno : linkOk es = false) :
    Calls Try.prog 47 #[v] w fun e w' => Fr w.heap.size [] w w' ∧ e = .returned (.tuple #[.slice none 0 0, .bool false]) := by
  refine (linkPack_any K v es w hv hl hKi hKo).mono ?_
  rintro e w1 ⟨fr1, ⟨-, rfl⟩ | ⟨h, -⟩⟩
  · exact ⟨fr1, rfl⟩
  · rw [hno] at h; cases h

set_option maxRecDepth 20000 in
set_option maxHeartbeats 2000000 in
theorem packObjects_no (K : Nat → Bool → Prop) (v : Value) (es : List En) (w : World) (hv : EnsR K w v es) (hl : es.length ≤ 16) (hKi : Safe K w.heap.size [67] 3) (hKo : Safe K w.heap.size [67] 109) (hno : linkOk es = false) :
    Calls Try.prog 13 #[v] w fun e w' => Fr w.heap.size [] w w' ∧ e = .returned (.tuple #[.slice none 0 0, .bool false]) := by
  obtain ⟨a, cap, rfl, hcap, -⟩ := hv.shape
  have HV := hid hv
  have NO := hid hno
  have i16 : ¬ (16 : Int) < (es.length : Int) := by omega
  have i17 : (es.length : Int) ≤ 16 := by omega
  clear hv hno
  go_enter Try.func13, Try.ntmps13
  go_wp2_with (go_at_call 47; go_must (refine (linkPack_no K _ es _ HV.out (by omega) hKi hKo NO.out).mono ?_; rintro e w1 ⟨fr1, rfl⟩))
  go_ret2
  exact ⟨fr1, rfl⟩

set_option maxRecDepth 20000 in
set_option maxHeartbeats 2000000 in
theorem packDepth_no (K : Nat → Bool → Prop) (v : Value) (es : List En) (k : Int) (w : World) (hv : EnsR K w v es) (hl : es.length ≤ 16) (hKi : Safe K w.heap.size [67] 3) (hKo : Safe K w.heap.size [67] 109) (hno : linkOk es = false) :
    Calls Try.prog 14 #[v, .int .i64 k] w fun e w' => Fr w.heap.size [] w w' ∧ e = .returned (.int .i64 (-1)) := by
  obtain ⟨a, cap, rfl, hcap, -⟩ := hv.shape
  have HV := hid hv
  have NO := hid hno
  clear hv hno
  go_enter Try.func14, Try.ntmps14
  go_wp2_with (go_at_call 47; go_must (refine (linkPack_no K _ es _ HV.out (by omega) hKi hKo NO.out).mono ?_; rintro e w1 ⟨fr1, rfl⟩))
  go_ret
  exact ⟨fr1, rfl⟩

end Go.Proofs.Ytjgbconlpolddaa

/- Lists of objects that the laws compare. -/
namespace Go.Proofs.Ytjgbconlpolddaa
open Go.RowKit
set_option linter.unusedVariables false

set_option maxRecDepth 20000 in
set_option maxHeartbeats 4000000 in
theorem sameObject_eq (K K' : Nat → Bool → Prop) (v v' : Value) (o : Ob) (w : World) (h1 : IntsR K w v o.links) (h2 : IntsR K' w v' o.links) (hl : o.links.length ≤ 1000000000) :
    Calls Try.prog 22 #[.agg #[.int .i64 o.kind, v, .string (tx o.text)], .agg #[.int .i64 o.kind, v', .string (tx o.text)]] w fun e w' => e = .returned (.bool true) ∧ Fr w.heap.size [] w w' := by
  obtain ⟨a, cap, rfl, hc, -⟩ := h1.shape
  obtain ⟨a', cap', rfl, hc', -⟩ := h2.shape
  have H1 := hid h1
  have H2 := hid h2
  have FA := hid (((Fr.refl w.heap.size [] w).alloc (.cells #[.int .i64 o.kind, .slice a o.links.length cap, .string (tx o.text)] 40)).alloc (.cells #[.int .i64 o.kind, .slice a' o.links.length cap', .string (tx o.text)] 40))
  clear h1 h2
  go_enter Try.func22, Try.ntmps22
  go_wp2_with (go_at_call 45; go_must (refine (sameInts_eq K K' _ _ o.links _ (H1.out.grow FA.out) (H2.out.grow FA.out) hl).mono ?_; rintro e w1 ⟨rfl, fr⟩; have F1 := hid (FA.out.trans fr.nil); clear fr))
  go_ret
  exact ⟨rfl, F1.out⟩

set_option maxRecDepth 20000 in
set_option maxHeartbeats 4000000 in
theorem sameObjects_eq (K K' : Nat → Bool → Prop) (v v' : Value) (os : List Ob) (w : World) (h1 : ObsR K w v os) (h2 : ObsR K' w v' os) (hb : ObsB os) :
    Calls Try.prog 15 #[v, v'] w fun e w' => e = .returned (.bool true) ∧ Fr w.heap.size [] w w' := by
  obtain ⟨a, cap, rfl, hc, hcell⟩ := h1.shape
  obtain ⟨a', cap', rfl, hc', hcell'⟩ := h2.shape
  have HC := hid hcell
  have HC' := hid hcell'
  have HB := hid hb
  have hel := hb.1
  clear h1 h2 hcell hcell' hb
  go_enter Try.func15, Try.ntmps15
  go_wp2
  go_loopw [5] (fun i wr => ∃ k : Nat, k ≤ os.length ∧ i = .int .i64 k ∧ Fr w.heap.size [] w wr) (fun i _ => os.length - (intOf i).toNat)
  case atStart => exact ⟨0, Nat.zero_le _, rfl, Fr.refl _ _ _⟩
  case round =>
    obtain ⟨k, hk, rfl, hfr⟩ := hrel
    by_cases hlt : k < os.length
    · rcases HC.out with h | ⟨b, off, rfl, hbs, hcell⟩
      · rw [h] at hlt; simp at hlt
      rcases HC'.out with h | ⟨b', off', rfl, hbs', hcell'⟩
      · rw [h] at hlt; simp at hlt
      obtain ⟨u, x0, x1, x2, hu⟩ := hcell k hlt
      obtain ⟨u', y0, y1, y2, hu'⟩ := hcell' k hlt
      have c0 := hfr.cell hbs x0
      have c1 := hfr.cell hbs x1
      have c2 := hfr.cell hbs x2
      have d0 := hfr.cell hbs' y0
      have d1 := hfr.cell hbs' y1
      have d2 := hfr.cell hbs' y2
      have HU := hid (hu.grow hfr)
      have HU' := hid (hu'.grow hfr)
      have hbr := Nat.lt_of_lt_of_le hbs hfr.size
      have hbr' := Nat.lt_of_lt_of_le hbs' hfr.size
      have hil := HB.out.2 _ (List.getElem_mem hlt)
      have hki : (k : Int) < (os.length : Int) := by omega
      clear hcell hcell' x0 x1 x2 y0 y1 y2 hu hu'
      go_wp2
      go_region_held3 (fun x => x.cell? ⟨b, off + k * 3, none⟩ = some (.int .i64 os[k].kind) ∧ x.cell? ⟨b, off + k * 3 + 1, none⟩ = some u ∧ x.cell? ⟨b, off + k * 3 + 2, none⟩ = some (.string (tx os[k].text)) ∧
          x.cell? ⟨b', off' + k * 3, none⟩ = some (.int .i64 os[k].kind) ∧ x.cell? ⟨b', off' + k * 3 + 1, none⟩ = some u' ∧ x.cell? ⟨b', off' + k * 3 + 2, none⟩ = some (.string (tx os[k].text)))
        (first | exact ⟨c0, c1, c2, d0, d1, d2⟩ | exact ⟨fr1.cell hbr c0, fr1.cell hbr c1, fr1.cell hbr c2, fr1.cell hbr' d0, fr1.cell hbr' d1, fr1.cell hbr' d2⟩)
        (first
          | (go_at_call 22; go_must (refine (sameObject_eq K K' u u' os[k] _ (HU.out.grow (Fr.refl 0 [] wr).drew) (HU'.out.grow (Fr.refl 0 [] wr).drew) hil).mono ?_; rintro e w1 ⟨rfl, fr⟩; have fr1 : Fr wr.heap.size [] wr w1 := (Fr.refl wr.heap.size [] wr).drew.trans fr)))
      go_wp2
      go_roundw
      case rel => exact ⟨k + 1, by omega, by go_num, hfr.trans fr1.nil⟩
      case measure => simp [intOf]; omega
    · obtain rfl : k = os.length := by omega
      go_wp2
      go_ret
      exact ⟨rfl, hfr⟩

end Go.Proofs.Ytjgbconlpolddaa
