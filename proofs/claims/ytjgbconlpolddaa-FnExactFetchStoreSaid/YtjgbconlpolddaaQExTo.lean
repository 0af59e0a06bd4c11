/- What a law makes of its arguments: rows of its own. -/
import Derived.Test.YtjgbconlpolddaaQExSz
set_option linter.unusedVariables false
set_option linter.unusedSimpArgs false
namespace Go.Proofs.Ytjgbconlpolddaa
open Go.RowKit
set_option linter.unusedVariables false

theorem Fr.ofNone {B : Nat} {T : List Nat} {w w' : World} (h : w.grownBy w' none) : Fr B T w w' := Fr.ofGrown h (fun k o hk => by cases hk)

set_option maxRecDepth 20000 in
set_option maxHeartbeats 2000000 in
theorem toInts_any (K : Nat → Bool → Prop) (v : Value) (l : List Int) (w : World) (hv : IntsR K w v l) (hl : l.length ≤ 1048576) :
    Calls Try.prog 96 #[v] w fun e w' => ∃ v', e = .returned v' ∧ w'.ownsRow w.heap.size 3 1 v' l.length (l.map (Value.int .i64)) ∧ Fr w.heap.size [] w w' := by
  obtain ⟨a, cap, rfl, hcap, hcell⟩ := hv.shape
  obtain ⟨i0, hi, hz0, hz1, hz2⟩ := info_parts infoI
  obtain ⟨wm, hmk, own, gr⟩ := run_make_full (P := Try.prog) w w.heap.size 29 3 i0 (.int .i64 0) 1 Try.underlying29 hi hz0 hz1 .i64 .i64 l.length (by rw [hz2]; omega) (by unfold maxLen; omega) (Nat.le_refl _)
  have HC := hid hcell
  have H0 := hid (HalfRow.start own)
  have F0 := hid (Fr.ofNone (B := w.heap.size) (T := []) gr)
  clear hv hcell own gr hi hz0 hz1 hz2
  go_enter Try.func96, Try.ntmps96
  go_wp2
  go_loopw [4] (fun vi wx => ∃ k : Nat, k ≤ l.length ∧ vi = .int .i64 k ∧ HalfRow w.heap.size 3 1 wx (.slice (some ⟨w.heap.size, 0, none⟩) l.length l.length) l.length ((l.take k).map (Value.int .i64)) ∧ Fr w.heap.size [] w wx) (fun vi _ => l.length - (intOf vi).toNat)
  case atStart => exact ⟨0, Nat.zero_le _, rfl, H0.out, F0.out⟩
  case round =>
    obtain ⟨k, hk, rfl, hh, hfr⟩ := hrel
    have HH := hid hh
    clear hh
    by_cases hlt : k < l.length
    · rcases HC.out with h | ⟨b, off, rfl, hbs, hcell⟩
      · rw [h] at hlt; simp at hlt
      have c0 := hfr.cell hbs (hcell k hlt)
      have hki : (k : Int) < (l.length : Int) := by omega
      obtain ⟨u0, d0⟩ := HH.out.cell (j := k) (by omega)
      have f0 := HH.out.free k
      have NX := hid (HH.out.next (j := k) (by simp; omega) (by omega) (.int .i64 l[k]))
      have EQ := hid (show (l.take k).map (Value.int .i64) ++ [.int .i64 l[k]] = (l.take (k + 1)).map (Value.int .i64) by rw [List.take_succ_eq_append_getElem hlt, List.map_append]; rfl)
      clear hcell
      go_wp2
      go_roundw
      case rel => exact ⟨k + 1, by omega, by go_num, by rw [← EQ.out]; exact NX.out.1, hfr.setNew (p := ⟨w.heap.size, k, none⟩) (Nat.le_refl _) _⟩
      case measure => simp [intOf]; omega
    · obtain rfl : k = l.length := by omega
      have OW := hid (HH.out.all (by simp))
      go_wp2
      go_ret
      exact ⟨_, rfl, by have := OW.out; rwa [List.take_length] at this, hfr⟩

/-- Three boxes in a row. -/
theorem threeBoxes (w : World) (a b c : Obj) : (((w.alloc a).alloc b).alloc c).heap[w.heap.size]? = some a ∧ (((w.alloc a).alloc b).alloc c).heap[w.heap.size + 1]? = some b ∧ (((w.alloc a).alloc b).alloc c).heap[w.heap.size + 1 + 1]? = some c :=
  ⟨heap_up (heap_up (heap_alloc_new w a) b) c, heap_up (by have := heap_alloc_new (w.alloc a) b; simpa using this) c, by have := heap_alloc_new ((w.alloc a).alloc b) c; simpa using this⟩

set_option maxRecDepth 20000 in
set_option maxHeartbeats 2000000 in
theorem toObject_any (K : Nat → Bool → Prop) (v : Value) (o : Ob) (w : World) (hv : IntsR K w v o.links) (hl : o.links.length ≤ 1048576) :
    Calls Try.prog 63 #[.agg #[.int .i64 o.kind, v, .string (tx o.text)]] w fun e w' => ∃ v', e = .returned (.agg #[.int .i64 o.kind, v', .string (tx o.text)]) ∧ w'.ownsRow w.heap.size 3 1 v' o.links.length (o.links.map (Value.int .i64)) ∧ Fr w.heap.size [] w w' := by
  obtain ⟨a, cap, rfl, hcap, -⟩ := hv.shape
  have BB := hid (threeBoxes w (.cells #[.int .i64 o.kind, .slice a o.links.length cap, .string (tx o.text)] 88) (.cells #[.int .i64 0, .slice none 0 0, .string ⟨#[]⟩] 40) (.cells #[.int .i64 o.kind, .slice none 0 0, .string ⟨#[]⟩] 40))
  have F0 := hid ((((Fr.refl w.heap.size [] w).alloc (.cells #[.int .i64 o.kind, .slice a o.links.length cap, .string (tx o.text)] 88)).alloc (.cells #[.int .i64 0, .slice none 0 0, .string ⟨#[]⟩] 40)).alloc (.cells #[.int .i64 o.kind, .slice none 0 0, .string ⟨#[]⟩] 40))
  have HV := hid (hv.grow F0.out)
  clear hv
  go_enter Try.func63, Try.ntmps63
  go_wp2_with (go_at_call 96; go_must (refine (toInts_any K _ o.links _ HV.out hl).mono ?_; rintro e w1 ⟨v1, rfl, own1, fr1⟩; obtain ⟨ca, ccap, rfl⟩ := own_any own1; have F1 := hid (F0.out.trans fr1.nil); have BX := hid (fr1.keep _ _ BB.out.1 (.inr (by simp))); have BY := hid (fr1.keep _ _ BB.out.2.1 (.inr (by simp))); have BZ := hid (fr1.keep _ _ BB.out.2.2 (.inr (by simp))); have OWN1 := hid (ownsRow_lo own1 (lo' := w.heap.size) F0.out.size); have x2 := cell_of (o := 2) BX.out rfl; have y0 := cell_of (o := 0) BY.out rfl; have y1 := cell_of (o := 1) BY.out rfl; have y2 := cell_of (o := 2) BY.out rfl; have yf := fun o => free_of (o := o) BY.out; have z0 := cell_of (o := 0) BZ.out rfl; have z1 := cell_of (o := 1) BZ.out rfl; have z2 := cell_of (o := 2) BZ.out rfl; have zf := fun o => free_of (o := o) BZ.out; have hbx := lt_of_get BX.out; have hby := lt_of_get BY.out; have hbz := lt_of_get BZ.out; clear own1 fr1))
  have B2 := block_setne (p := ⟨w.heap.size + 1 + 1, 2, none⟩) (u := .string (tx o.text)) (block_setne (p := ⟨w.heap.size + 1 + 1, 1, none⟩) (u := .slice ca o.links.length ccap) BY.out (by dsimp only; omega)) (by dsimp only; omega)
  have e := fill3 (x0 := .int .i64 o.kind) (x1 := .slice ca o.links.length ccap) (x2 := .string (tx o.text)) B2
  have e0 := cell_of (o := 0) e rfl
  have e1 := cell_of (o := 1) e rfl
  have e2 := cell_of (o := 2) e rfl
  have FT := (((Fr.refl 0 [40] w1).setOld (p := ⟨w.heap.size + 1 + 1, 1, none⟩) BZ.out (Nat.zero_le _) (by simp [otag]) (.slice ca o.links.length ccap)).setOld (p := ⟨w.heap.size + 1 + 1, 2, none⟩) (block_set BZ.out 1 _) (Nat.zero_le _) (by simp [otag]) (.string (tx o.text))).fill3 (x0 := .int .i64 o.kind) (x1 := .slice ca o.links.length ccap) (x2 := .string (tx o.text)) B2 (Nat.zero_le _)
  exact bodyPost_ret (v := .agg #[.int .i64 o.kind, .slice ca o.links.length ccap, .string (tx o.text)]) (by simp [results, Try.results63, go_sem, e0, e1, e2]) rfl
    ⟨_, rfl, ownsRow_keep OWN1.out FT (by simp), ((F1.out.setNew (p := ⟨w.heap.size + 1 + 1, 1, none⟩) (by dsimp only; omega) _).setNew (p := ⟨w.heap.size + 1 + 1, 2, none⟩) (by dsimp only; omega) _).new3 (by omega)⟩

theorem Fr.new3' {B E i j k : Nat} {T : List Nat} {a w : World} {x0 x1 x2 : Value} (hf : Fr B T a w) (hB : a.heap.size ≤ E) :
    Fr B T a (((w.setCell ⟨E, i, none⟩ x0).setCell ⟨E, j, none⟩ x1).setCell ⟨E, k, none⟩ x2) :=
  ((hf.setNew (p := ⟨E, i, none⟩) hB x0).setNew (p := ⟨E, j, none⟩) hB x1).setNew (p := ⟨E, k, none⟩) hB x2

/-- Objects made: the first ones are laid. -/
def MakeObs (lo : Nat) (w : World) (v : Value) (n k : Nat) (os : List Ob) : Prop :=
  ∃ zs : List (Ob × Value), zs.map (·.1) = os.take k ∧ HalfRow lo 40 3 w v n (zs.flatMap encOb) ∧ (∀ z ∈ zs, w.ownsRow lo 3 1 z.2 z.1.links.length (z.1.links.map (Value.int .i64))) ∧ zs.Pairwise (fun a b => Apart a.2 b.2)

theorem fmOb_len (zs : List (Ob × Value)) : (zs.flatMap encOb).length = zs.length * 3 := fm_length encOb 3 (fun _ => rfl) zs

theorem MakeObs.all {lo : Nat} {w : World} {v : Value} {os : List Ob} (h : MakeObs lo w v os.length os.length os) : ObsSep lo w v os := by
  obtain ⟨zs, h1, h2, h3, h4⟩ := h
  rw [List.take_length] at h1
  have hl : zs.length = os.length := by rw [← h1]; simp
  exact ⟨zs, h1, h2.all (by rw [fmOb_len, hl]), h3, h4⟩

/-- The next object is laid. -/
theorem MakeObs.next {lo n k g cap : Nat} {w w2 : World} {os : List Ob} (h : MakeObs lo w (.slice (some ⟨g, 0, none⟩) n cap) n k os) (hf : Fr w.heap.size [] w w2) (hk : k < os.length) (hn : os.length = n) (hlo : lo ≤ w.heap.size) {u : Value} (hu : w2.ownsRow w.heap.size 3 1 u os[k].links.length (os[k].links.map (Value.int .i64))) :
    ((∃ u, w2.cell? ⟨g, k * 3, none⟩ = some u) ∧ (∃ u, w2.cell? ⟨g, k * 3 + 1, none⟩ = some u) ∧ (∃ u, w2.cell? ⟨g, k * 3 + 2, none⟩ = some u) ∧ (∀ o, w2.frozen? ⟨g, o, none⟩ = false) ∧ lo ≤ g) ∧
    MakeObs lo (((w2.setCell ⟨g, k * 3, none⟩ (.int .i64 os[k].kind)).setCell ⟨g, k * 3 + 1, none⟩ u).setCell ⟨g, k * 3 + 2, none⟩ (.string (tx os[k].text))) (.slice (some ⟨g, 0, none⟩) n cap) n (k + 1) os := by
  obtain ⟨zs, h1, h2, h3, h4⟩ := h
  have hl : zs.length = k := by have := congrArg List.length h1; simp at this; omega
  have hd := fmOb_len zs
  rw [hl] at hd
  have h2' := h2.grow hf
  refine ⟨⟨h2'.cell (by omega), h2'.cell (by omega), h2'.cell (by omega), h2'.free, h2'.lo.1⟩, ?_⟩
  obtain ⟨a1, _, f1⟩ := h2'.next (j := k * 3) hd (by omega) (.int .i64 os[k].kind)
  obtain ⟨a2, _, f2⟩ := a1.next (j := k * 3 + 1) (by rw [List.length_append, hd]; rfl) (by omega) u
  obtain ⟨a3, _, f3⟩ := a2.next (j := k * 3 + 2) (by rw [List.length_append, List.length_append, hd]; rfl) (by omega) (.string (tx os[k].text))
  have F := (f1.trans f2).trans f3
  refine ⟨zs ++ [(os[k], u)], by rw [List.map_append, h1, List.take_succ_eq_append_getElem hk]; rfl, ?_, fun z hz => ?_, ?_⟩
  · rw [List.flatMap_append]
    simpa [encOb] using a3
  · rcases List.mem_append.1 hz with hz | hz
    · exact ownsRow_keep (ownsRow_grow (h3 z hz) hf) F (by simp)
    · simp at hz
      subst hz
      exact ownsRow_lo (ownsRow_keep hu F (by simp)) hlo
  · rw [List.pairwise_append]
    refine ⟨h4, List.pairwise_singleton _ _, fun a ha z hz => ?_⟩
    simp at hz
    subst hz
    exact (apart_new (h3 a ha) hu (Nat.le_refl _)).1

set_option maxRecDepth 20000 in
set_option maxHeartbeats 4000000 in
theorem toObjects_any (K : Nat → Bool → Prop) (v : Value) (os : List Ob) (w : World) (hv : ObsR K w v os) (hl : os.length ≤ 1048576) (hb : ∀ o ∈ os, o.links.length ≤ 1048576) :
    Calls Try.prog 26 #[v] w fun e w' => ∃ v', e = .returned v' ∧ ObsSep w.heap.size w' v' os ∧ Fr w.heap.size [] w w' := by
  obtain ⟨a, cap, rfl, hcap, hcell⟩ := hv.shape
  obtain ⟨i0, hi, hz0, hz1, hz2⟩ := info_parts infoOb
  obtain ⟨wm, hmk, own, gr⟩ := run_make_full (P := Try.prog) w w.heap.size 23 40 i0 (.agg #[.int .i64 0, .slice none 0 0, .string ⟨#[]⟩]) 3 Try.underlying23 hi hz0 hz1 .i64 .i64 os.length (by rw [hz2]; omega) (by unfold maxLen; omega) (Nat.le_refl _)
  have HC := hid hcell
  have HB := hid hb
  have H0 := hid (show MakeObs w.heap.size wm (.slice (some ⟨w.heap.size, 0, none⟩) os.length os.length) os.length 0 os from ⟨[], rfl, HalfRow.start own, (fun z hz => by cases hz), List.Pairwise.nil⟩)
  have F0 := hid (Fr.ofNone (B := w.heap.size) (T := []) gr)
  clear hv hcell own gr hi hz0 hz1 hz2 hb
  go_enter Try.func26, Try.ntmps26
  go_wp2
  go_loopw [4] (fun vi wx => ∃ k : Nat, k ≤ os.length ∧ vi = .int .i64 k ∧ MakeObs w.heap.size wx (.slice (some ⟨w.heap.size, 0, none⟩) os.length os.length) os.length k os ∧ Fr w.heap.size [] w wx) (fun vi _ => os.length - (intOf vi).toNat)
  case atStart => exact ⟨0, Nat.zero_le _, rfl, H0.out, F0.out⟩
  case round =>
    obtain ⟨k, hk, rfl, hh, hfr⟩ := hrel
    have HH := hid hh
    clear hh
    by_cases hlt : k < os.length
    · rcases HC.out with h | ⟨b, off, rfl, hbs, hcell⟩
      · rw [h] at hlt; simp at hlt
      obtain ⟨u, x0, x1, x2, hu⟩ := hcell k hlt
      obtain ⟨ua, ucap, rfl, _, _⟩ := hu.shape
      have c0 := hfr.cell hbs x0
      have c1 := hfr.cell hbs x1
      have c2 := hfr.cell hbs x2
      have HU := hid (hu.grow hfr)
      have hbk := HB.out _ (List.getElem_mem hlt)
      have hki : (k : Int) < (os.length : Int) := by omega
      have hsr := hfr.size
      clear hcell x0 x1 x2 hu
      go_wp2_with (go_at_call 63; go_must (refine (toObject_any K _ os[k] _ HU.out hbk).mono ?_; rintro e w2 ⟨v2, rfl, own2, fr2⟩; obtain ⟨na, ncap, rfl⟩ := own_any own2; obtain ⟨⟨⟨d0, hd0⟩, ⟨d1, hd1⟩, ⟨d2, hd2⟩, hdf, hlo⟩, nx⟩ := HH.out.next fr2 hlt rfl hsr own2; have NX := hid nx; have F2 := hid (hfr.trans fr2.nil); clear own2 fr2 nx))
      go_roundw
      case rel => exact ⟨k + 1, by omega, by go_num, NX.out, F2.out.new3' hlo⟩
      case measure => simp [intOf]; omega
    · obtain rfl : k = os.length := by omega
      have OW := hid HH.out.all
      go_wp2
      go_ret
      exact ⟨_, rfl, OW.out, hfr⟩

set_option maxRecDepth 20000 in
set_option maxHeartbeats 2000000 in
theorem toOp_any (o : Opn) (w : World) :
    Calls Try.prog 112 #[.agg #[.int .i64 o.pos, .int .i64 o.size, .string (tx o.text)]] w fun e w' => e = .returned (.agg #[.int .i64 o.pos, .int .i64 o.size, .string (tx o.text)]) ∧ Fr w.heap.size [] w w' := by
  go_enter Try.func112, Try.ntmps112
  go_wp2
  exact bodyPost_ret (v := .agg #[.int .i64 o.pos, .int .i64 o.size, .string (tx o.text)]) (by simp [results, Try.results112, go_sem]) rfl
    ⟨rfl, ((((Fr.refl w.heap.size [] w).alloc _).alloc _).alloc _)⟩

theorem fmOp_len (l : List Opn) : (l.flatMap encOp).length = l.length * 3 := fm_length encOp 3 (fun _ => rfl) l

/-- The next operation is laid. -/
theorem opsNext {lo n k g cap : Nat} {w w2 : World} {ops : List Opn} (h : HalfRow lo 109 3 w (.slice (some ⟨g, 0, none⟩) n cap) n ((ops.take k).flatMap encOp)) (hf : Fr w.heap.size [] w w2) (hk : k < ops.length) (hn : ops.length = n) :
    ((∃ u, w2.cell? ⟨g, k * 3, none⟩ = some u) ∧ (∃ u, w2.cell? ⟨g, k * 3 + 1, none⟩ = some u) ∧ (∃ u, w2.cell? ⟨g, k * 3 + 2, none⟩ = some u) ∧ (∀ o, w2.frozen? ⟨g, o, none⟩ = false) ∧ lo ≤ g) ∧
    HalfRow lo 109 3 (((w2.setCell ⟨g, k * 3, none⟩ (.int .i64 ops[k].pos)).setCell ⟨g, k * 3 + 1, none⟩ (.int .i64 ops[k].size)).setCell ⟨g, k * 3 + 2, none⟩ (.string (tx ops[k].text))) (.slice (some ⟨g, 0, none⟩) n cap) n ((ops.take (k + 1)).flatMap encOp) := by
  have hd := fmOp_len (ops.take k)
  rw [List.length_take, Nat.min_eq_left (Nat.le_of_lt hk)] at hd
  have h2' := h.grow hf
  refine ⟨⟨h2'.cell (by omega), h2'.cell (by omega), h2'.cell (by omega), h2'.free, h2'.lo.1⟩, ?_⟩
  obtain ⟨a1, _, f1⟩ := h2'.next (j := k * 3) hd (by omega) (.int .i64 ops[k].pos)
  obtain ⟨a2, _, f2⟩ := a1.next (j := k * 3 + 1) (by rw [List.length_append, hd]; rfl) (by omega) (.int .i64 ops[k].size)
  obtain ⟨a3, _, f3⟩ := a2.next (j := k * 3 + 2) (by rw [List.length_append, List.length_append, hd]; rfl) (by omega) (.string (tx ops[k].text))
  rw [List.take_succ_eq_append_getElem hk, List.flatMap_append]
  simpa [encOp] using a3

set_option maxRecDepth 20000 in
set_option maxHeartbeats 4000000 in
theorem toOps_any (K : Nat → Bool → Prop) (v : Value) (ops : List Opn) (w : World) (hv : OpsR K w v ops) (hl : ops.length ≤ 1048576) :
    Calls Try.prog 97 #[v] w fun e w' => ∃ v', e = .returned v' ∧ w'.ownsRow w.heap.size 109 3 v' ops.length (ops.flatMap encOp) ∧ Fr w.heap.size [] w w' := by
  obtain ⟨a, cap, rfl, hcap, hcell⟩ := hv.shape
  obtain ⟨i0, hi, hz0, hz1, hz2⟩ := info_parts infoOp
  obtain ⟨wm, hmk, own, gr⟩ := run_make_full (P := Try.prog) w w.heap.size 30 109 i0 (.agg #[.int .i64 0, .int .i64 0, .string ⟨#[]⟩]) 3 Try.underlying30 hi hz0 hz1 .i64 .i64 ops.length (by rw [hz2]; omega) (by unfold maxLen; omega) (Nat.le_refl _)
  have HC := hid hcell
  have H0 := hid (HalfRow.start own)
  have F0 := hid (Fr.ofNone (B := w.heap.size) (T := []) gr)
  clear hv hcell own gr hi hz0 hz1 hz2
  go_enter Try.func97, Try.ntmps97
  go_wp2
  go_loopw [4] (fun vi wx => ∃ k : Nat, k ≤ ops.length ∧ vi = .int .i64 k ∧ HalfRow w.heap.size 109 3 wx (.slice (some ⟨w.heap.size, 0, none⟩) ops.length ops.length) ops.length ((ops.take k).flatMap encOp) ∧ Fr w.heap.size [] w wx) (fun vi _ => ops.length - (intOf vi).toNat)
  case atStart => exact ⟨0, Nat.zero_le _, rfl, H0.out, F0.out⟩
  case round =>
    obtain ⟨k, hk, rfl, hh, hfr⟩ := hrel
    have HH := hid hh
    clear hh
    by_cases hlt : k < ops.length
    · rcases HC.out with h | ⟨b, off, rfl, hbs, hcell⟩
      · rw [h] at hlt; simp at hlt
      obtain ⟨x0, x1, x2⟩ := hcell k hlt
      have c0 := hfr.cell hbs x0
      have c1 := hfr.cell hbs x1
      have c2 := hfr.cell hbs x2
      have hki : (k : Int) < (ops.length : Int) := by omega
      clear hcell x0 x1 x2
      go_wp2_with (go_at_call 112; go_must (refine (toOp_any ops[k] _).mono ?_; rintro e w2 ⟨rfl, fr2⟩; obtain ⟨⟨⟨d0, hd0⟩, ⟨d1, hd1⟩, ⟨d2, hd2⟩, hdf, hlo⟩, nx⟩ := opsNext HH.out fr2 hlt rfl; have NX := hid nx; have F2 := hid (hfr.trans fr2.nil); clear fr2 nx))
      go_roundw
      case rel => exact ⟨k + 1, by omega, by go_num, NX.out, F2.out.new3' hlo⟩
      case measure => simp [intOf]; omega
    · obtain rfl : k = ops.length := by omega
      have OW := hid (HH.out.all (by rw [List.take_length, fmOp_len]))
      go_wp2
      go_ret
      exact ⟨_, rfl, by have := OW.out; rwa [List.take_length] at this, hfr⟩

end Go.Proofs.Ytjgbconlpolddaa
