/- Entries of a law's own. -/
import Derived.Test.YtjgbconlpolddaaQExTo
set_option linter.unusedVariables false
set_option linter.unusedSimpArgs false
namespace Go.Proofs.Ytjgbconlpolddaa
open Go.RowKit
set_option linter.unusedVariables false

theorem Fr.new4' {B E i j k l : Nat} {T : List Nat} {a w : World} {x0 x1 x2 x3 : Value} (hf : Fr B T a w) (hB : a.heap.size ≤ E) :
    Fr B T a ((((w.setCell ⟨E, i, none⟩ x0).setCell ⟨E, j, none⟩ x1).setCell ⟨E, k, none⟩ x2).setCell ⟨E, l, none⟩ x3) :=
  (((hf.setNew (p := ⟨E, i, none⟩) hB x0).setNew (p := ⟨E, j, none⟩) hB x1).setNew (p := ⟨E, k, none⟩) hB x2).setNew (p := ⟨E, l, none⟩) hB x3

set_option maxRecDepth 20000 in
set_option maxHeartbeats 2000000 in
theorem toEntry_any (B : Nat) (v vp : Value) (o : En) (w : World) (hB : B ≤ w.heap.size) (hv : IntsR (old B) w v o.links) (hp : OpsR (old B) w vp o.ops) (hl : o.links.length ≤ 1048576) (hpl : o.ops.length ≤ 1048576) :
    Calls Try.prog 64 #[.agg #[.int .i64 o.kind, v, .int .i64 o.base, vp]] w fun e w' => ∃ v' p', e = .returned (.agg #[.int .i64 o.kind, v', .int .i64 o.base, p']) ∧ w'.ownsRow w.heap.size 3 1 v' o.links.length (o.links.map (Value.int .i64)) ∧ w'.ownsRow w.heap.size 109 3 p' o.ops.length (o.ops.flatMap encOp) ∧ Fr w.heap.size [] w w' := by
  obtain ⟨a, cap, rfl, hcap, -⟩ := hv.shape
  obtain ⟨a', cap', rfl, hcap', -⟩ := hp.shape
  have BB := hid (threeBoxes w (.cells #[.int .i64 o.kind, .slice a o.links.length cap, .int .i64 o.base, .slice a' o.ops.length cap'] 92) (.cells #[.int .i64 0, .slice none 0 0, .int .i64 0, .slice none 0 0] 32) (.cells #[.int .i64 o.kind, .slice none 0 0, .int .i64 0, .slice none 0 0] 32))
  have F0 := hid ((((Fr.refl w.heap.size [] w).alloc (.cells #[.int .i64 o.kind, .slice a o.links.length cap, .int .i64 o.base, .slice a' o.ops.length cap'] 92)).alloc (.cells #[.int .i64 0, .slice none 0 0, .int .i64 0, .slice none 0 0] 32)).alloc (.cells #[.int .i64 o.kind, .slice none 0 0, .int .i64 0, .slice none 0 0] 32))
  have HV := hid (hv.grow F0.out)
  have HP := hid (hp.grow F0.out)
  clear hv hp
  go_enter Try.func64, Try.ntmps64
  go_wp2_with (first
    | (go_at_call 96; go_must (refine (toInts_any _ _ o.links _ HV.out hl).mono ?_; rintro e w1 ⟨v1, rfl, own1, fr1⟩; obtain ⟨ca, ccap, rfl⟩ := own_any own1; have F1 := hid (F0.out.trans fr1.nil); have BX := hid (fr1.keep _ _ BB.out.1 (.inr (by simp))); have BY := hid (fr1.keep _ _ BB.out.2.1 (.inr (by simp))); have BZ := hid (fr1.keep _ _ BB.out.2.2 (.inr (by simp))); have OWN1 := hid (ownsRow_lo own1 (lo' := w.heap.size) F0.out.size); have x2 := cell_of (o := 2) BX.out rfl; have x3 := cell_of (o := 3) BX.out rfl; have z1 := cell_of (o := 1) BZ.out rfl; have z2 := cell_of (o := 2) BZ.out rfl; have zf := fun o => free_of (o := o) BZ.out; have hbz := lt_of_get BZ.out; have HP1 := hid (HP.out.grow fr1); clear own1 fr1))
    | (go_at_call 97; go_must (have FZ := hid ((((Fr.refl w.heap.size [32] w1).setOld (p := ⟨w.heap.size + 1 + 1, 1, none⟩) BZ.out (by dsimp only; omega) (by simp [otag]) (.slice ca o.links.length ccap)).setOld (p := ⟨w.heap.size + 1 + 1, 2, none⟩) (block_set BZ.out 1 _) (by dsimp only; omega) (by simp [otag]) (.int .i64 o.base))); have FN := hid ((F1.out.setNew (p := ⟨w.heap.size + 1 + 1, 1, none⟩) (by dsimp only; omega) (.slice ca o.links.length ccap)).setNew (p := ⟨w.heap.size + 1 + 1, 2, none⟩) (by dsimp only; omega) (.int .i64 o.base)); have BZ2 := hid (block_set (block_set BZ.out 1 (.slice ca o.links.length ccap)) 2 (.int .i64 o.base)); have BY2 := hid (block_setne (p := ⟨w.heap.size + 1 + 1, 2, none⟩) (u := .int .i64 o.base) (block_setne (p := ⟨w.heap.size + 1 + 1, 1, none⟩) (u := .slice ca o.links.length ccap) BY.out (by dsimp only; omega)) (by dsimp only; omega)); refine (toOps_any _ _ o.ops _ (HP1.out.keep FZ.out (Safe.old hB)) hpl).mono ?_; rintro e w3 ⟨v3, rfl, own3, fr3⟩; obtain ⟨pa, pcap, rfl⟩ := own_any own3; have F3 := hid (FN.out.trans fr3.nil); have OWN1 := hid (ownsRow_grow (ownsRow_keep OWN1.out FZ.out (by simp)) fr3); have OWN3 := hid (ownsRow_lo own3 (lo' := w.heap.size) FN.out.size); have BY3 := hid (fr3.keep _ _ BY2.out (.inr (by simp))); have BZ3 := hid (fr3.keep _ _ BZ2.out (.inr (by simp))); clear x2 x3 z1 z2 zf hbz; have y0 := cell_of (o := 0) BY3.out rfl; have y1 := cell_of (o := 1) BY3.out rfl; have y2 := cell_of (o := 2) BY3.out rfl; have y3 := cell_of (o := 3) BY3.out rfl; have yf := fun o => free_of (o := o) BY3.out; have z0 := cell_of (o := 0) BZ3.out rfl; have z1 := cell_of (o := 1) BZ3.out rfl; have z2 := cell_of (o := 2) BZ3.out rfl; have z3 := cell_of (o := 3) BZ3.out rfl; have zf := fun o => free_of (o := o) BZ3.out; have hby := lt_of_get BY3.out; have hbz := lt_of_get BZ3.out; clear own3 fr3)))
  have B2 := block_setne (p := ⟨w.heap.size + 1 + 1, 3, none⟩) (u := .slice pa o.ops.length pcap) BY3.out (by dsimp only; omega)
  have e := fill4 (x0 := .int .i64 o.kind) (x1 := .slice ca o.links.length ccap) (x2 := .int .i64 o.base) (x3 := .slice pa o.ops.length pcap) B2
  have e0 := cell_of (o := 0) e rfl
  have e1 := cell_of (o := 1) e rfl
  have e2 := cell_of (o := 2) e rfl
  have e3 := cell_of (o := 3) e rfl
  have FT := ((Fr.refl 0 [32] w3).setOld (p := ⟨w.heap.size + 1 + 1, 3, none⟩) BZ3.out (Nat.zero_le _) (by simp [otag]) (.slice pa o.ops.length pcap)).fill4 (x0 := .int .i64 o.kind) (x1 := .slice ca o.links.length ccap) (x2 := .int .i64 o.base) (x3 := .slice pa o.ops.length pcap) B2 (Nat.zero_le _)
  exact bodyPost_ret (v := .agg #[.int .i64 o.kind, .slice ca o.links.length ccap, .int .i64 o.base, .slice pa o.ops.length pcap]) (by simp [results, Try.results64, go_sem, e0, e1, e2, e3]) rfl
    ⟨_, _, rfl, ownsRow_keep OWN1.out FT (by simp), ownsRow_keep OWN3.out FT (by simp), (F3.out.setNew (p := ⟨w.heap.size + 1 + 1, 3, none⟩) (by dsimp only; omega) _).new4 (by omega)⟩

/-- Entries in a row of their own, their links and operations in rows of their own. -/
def EnsSep (lo : Nat) (w : World) (v : Value) (es : List En) : Prop :=
  ∃ zs : List (En × (Value × Value)), zs.map (·.1) = es ∧ w.ownsRow lo 32 4 v es.length (zs.flatMap encEn) ∧ (∀ z ∈ zs, w.ownsRow lo 3 1 z.2.1 z.1.links.length (z.1.links.map (Value.int .i64)) ∧ w.ownsRow lo 109 3 z.2.2 z.1.ops.length (z.1.ops.flatMap encOp)) ∧ zs.Pairwise (fun a b => Apart a.2.1 b.2.1 ∧ Apart a.2.2 b.2.2)

theorem EnsSep.own {lo : Nat} {w : World} {v : Value} {es : List En} (h : EnsSep lo w v es) : EnsOwn lo w v es := by
  obtain ⟨zs, h1, h2, h3, _⟩ := h
  exact ⟨zs, h1, h2, fun z hz => ⟨SlR.ofOwns (h3 z hz).1, SlR.ofOwns (h3 z hz).2⟩⟩

theorem EnsSep.grow {lo B : Nat} {w w' : World} {v : Value} {es : List En} (h : EnsSep lo w v es) (hf : Fr B [] w w') : EnsSep lo w' v es := by
  obtain ⟨zs, h1, h2, h3, h4⟩ := h
  exact ⟨zs, h1, ownsRow_grow h2 hf, fun z hz => ⟨ownsRow_grow (h3 z hz).1 hf, ownsRow_grow (h3 z hz).2 hf⟩, h4⟩

/-- Entries made: the first ones are laid. -/
def MakeEns (lo : Nat) (w : World) (v : Value) (n k : Nat) (es : List En) : Prop :=
  ∃ zs : List (En × (Value × Value)), zs.map (·.1) = es.take k ∧ HalfRow lo 32 4 w v n (zs.flatMap encEn) ∧ (∀ z ∈ zs, w.ownsRow lo 3 1 z.2.1 z.1.links.length (z.1.links.map (Value.int .i64)) ∧ w.ownsRow lo 109 3 z.2.2 z.1.ops.length (z.1.ops.flatMap encOp)) ∧ zs.Pairwise (fun a b => Apart a.2.1 b.2.1 ∧ Apart a.2.2 b.2.2)

theorem fmEn_len4 (zs : List (En × (Value × Value))) : (zs.flatMap encEn).length = zs.length * 4 := fm_length encEn 4 (fun _ => rfl) zs

theorem MakeEns.all {lo : Nat} {w : World} {v : Value} {es : List En} (h : MakeEns lo w v es.length es.length es) : EnsSep lo w v es := by
  obtain ⟨zs, h1, h2, h3, h4⟩ := h
  rw [List.take_length] at h1
  have hl : zs.length = es.length := by rw [← h1]; simp
  exact ⟨zs, h1, h2.all (by rw [fmEn_len4, hl]), h3, h4⟩

/-- The next entry is laid. -/
theorem MakeEns.next {lo n k g cap : Nat} {w w2 : World} {es : List En} (h : MakeEns lo w (.slice (some ⟨g, 0, none⟩) n cap) n k es) (hf : Fr w.heap.size [] w w2) (hk : k < es.length) (hn : es.length = n) (hlo : lo ≤ w.heap.size) {u p : Value} (hu : w2.ownsRow w.heap.size 3 1 u es[k].links.length (es[k].links.map (Value.int .i64))) (hp : w2.ownsRow w.heap.size 109 3 p es[k].ops.length (es[k].ops.flatMap encOp)) :
    ((∃ u, w2.cell? ⟨g, k * 4, none⟩ = some u) ∧ (∃ u, w2.cell? ⟨g, k * 4 + 1, none⟩ = some u) ∧ (∃ u, w2.cell? ⟨g, k * 4 + 2, none⟩ = some u) ∧ (∃ u, w2.cell? ⟨g, k * 4 + 3, none⟩ = some u) ∧ (∀ o, w2.frozen? ⟨g, o, none⟩ = false) ∧ lo ≤ g) ∧
    MakeEns lo ((((w2.setCell ⟨g, k * 4, none⟩ (.int .i64 es[k].kind)).setCell ⟨g, k * 4 + 1, none⟩ u).setCell ⟨g, k * 4 + 2, none⟩ (.int .i64 es[k].base)).setCell ⟨g, k * 4 + 3, none⟩ p) (.slice (some ⟨g, 0, none⟩) n cap) n (k + 1) es := by
  obtain ⟨zs, h1, h2, h3, h4⟩ := h
  have hl : zs.length = k := by have := congrArg List.length h1; simp at this; omega
  have hd := fmEn_len4 zs
  rw [hl] at hd
  have h2' := h2.grow hf
  refine ⟨⟨h2'.cell (by omega), h2'.cell (by omega), h2'.cell (by omega), h2'.cell (by omega), h2'.free, h2'.lo.1⟩, ?_⟩
  obtain ⟨a1, _, f1⟩ := h2'.next (j := k * 4) hd (by omega) (.int .i64 es[k].kind)
  obtain ⟨a2, _, f2⟩ := a1.next (j := k * 4 + 1) (by rw [List.length_append, hd]; rfl) (by omega) u
  obtain ⟨a3, _, f3⟩ := a2.next (j := k * 4 + 2) (by rw [List.length_append, List.length_append, hd]; rfl) (by omega) (.int .i64 es[k].base)
  obtain ⟨a4, _, f4⟩ := a3.next (j := k * 4 + 3) (by rw [List.length_append, List.length_append, List.length_append, hd]; rfl) (by omega) p
  have F := ((f1.trans f2).trans f3).trans f4
  refine ⟨zs ++ [(es[k], (u, p))], by rw [List.map_append, h1, List.take_succ_eq_append_getElem hk]; rfl, ?_, fun z hz => ?_, ?_⟩
  · rw [List.flatMap_append]
    simpa [encEn] using a4
  · rcases List.mem_append.1 hz with hz | hz
    · exact ⟨ownsRow_keep (ownsRow_grow (h3 z hz).1 hf) F (by simp), ownsRow_keep (ownsRow_grow (h3 z hz).2 hf) F (by simp)⟩
    · simp at hz
      subst hz
      exact ⟨ownsRow_lo (ownsRow_keep hu F (by simp)) hlo, ownsRow_lo (ownsRow_keep hp F (by simp)) hlo⟩
  · rw [List.pairwise_append]
    refine ⟨h4, List.pairwise_singleton _ _, fun a ha z hz => ?_⟩
    simp at hz
    subst hz
    exact ⟨(apart_new (h3 a ha).1 hu (Nat.le_refl _)).1, (apart_new (h3 a ha).2 hp (Nat.le_refl _)).1⟩

set_option maxRecDepth 20000 in
set_option maxHeartbeats 4000000 in
theorem toEntries_any (B : Nat) (v : Value) (es : List En) (w : World) (hB : B ≤ w.heap.size) (hv : EnsR (old B) w v es) (hl : es.length ≤ 1048576) (hb : ∀ e ∈ es, e.links.length ≤ 1048576 ∧ e.ops.length ≤ 1048576) :
    Calls Try.prog 27 #[v] w fun e w' => ∃ v', e = .returned v' ∧ EnsSep w.heap.size w' v' es ∧ Fr w.heap.size [] w w' := by
  obtain ⟨a, cap, rfl, hcap, hcell⟩ := hv.shape
  obtain ⟨i0, hi, hz0, hz1, hz2⟩ := info_parts infoEn
  obtain ⟨wm, hmk, own, gr⟩ := run_make_full (P := Try.prog) w w.heap.size 25 32 i0 (.agg #[.int .i64 0, .slice none 0 0, .int .i64 0, .slice none 0 0]) 4 Try.underlying25 hi hz0 hz1 .i64 .i64 es.length (by rw [hz2]; omega) (by unfold maxLen; omega) (Nat.le_refl _)
  have HC := hid hcell
  have HB := hid hb
  have H0 := hid (show MakeEns w.heap.size wm (.slice (some ⟨w.heap.size, 0, none⟩) es.length es.length) es.length 0 es from ⟨[], rfl, HalfRow.start own, (fun z hz => by cases hz), List.Pairwise.nil⟩)
  have F0 := hid (Fr.ofNone (B := w.heap.size) (T := []) gr)
  clear hv hcell own gr hi hz0 hz1 hz2 hb
  go_enter Try.func27, Try.ntmps27
  go_wp2
  go_loopw [4] (fun vi wx => ∃ k : Nat, k ≤ es.length ∧ vi = .int .i64 k ∧ MakeEns w.heap.size wx (.slice (some ⟨w.heap.size, 0, none⟩) es.length es.length) es.length k es ∧ Fr w.heap.size [] w wx) (fun vi _ => es.length - (intOf vi).toNat)
  case atStart => exact ⟨0, Nat.zero_le _, rfl, H0.out, F0.out⟩
  case round =>
    obtain ⟨k, hk, rfl, hh, hfr⟩ := hrel
    have HH := hid hh
    clear hh
    by_cases hlt : k < es.length
    · rcases HC.out with h | ⟨b, off, rfl, hbs, hcell⟩
      · rw [h] at hlt; simp at hlt
      obtain ⟨u, p, x0, x1, x2, x3, hu, hp⟩ := hcell k hlt
      obtain ⟨ua, ucap, rfl, _, _⟩ := hu.shape
      obtain ⟨pa, pcap, rfl, _, _⟩ := hp.shape
      have c0 := hfr.cell hbs x0
      have c1 := hfr.cell hbs x1
      have c2 := hfr.cell hbs x2
      have c3 := hfr.cell hbs x3
      have HU := hid (hu.grow hfr)
      have HP := hid (hp.grow hfr)
      obtain ⟨hbk, hpk⟩ := HB.out _ (List.getElem_mem hlt)
      have hki : (k : Int) < (es.length : Int) := by omega
      have hsr := hfr.size
      clear hcell x0 x1 x2 x3 hu hp
      go_wp2_with (go_at_call 64; go_must (refine (toEntry_any B _ _ es[k] _ (by omega) HU.out HP.out hbk hpk).mono ?_; rintro e w2 ⟨v2, p2, rfl, own2, ownp, fr2⟩; obtain ⟨na, ncap, rfl⟩ := own_any own2; obtain ⟨qa, qcap, rfl⟩ := own_any ownp; obtain ⟨⟨⟨d0, hd0⟩, ⟨d1, hd1⟩, ⟨d2, hd2⟩, ⟨d3, hd3⟩, hdf, hlo⟩, nx⟩ := HH.out.next fr2 hlt rfl hsr own2 ownp; have NX := hid nx; have F2 := hid (hfr.trans fr2.nil); clear own2 ownp fr2 nx))
      go_roundw
      case rel => exact ⟨k + 1, by omega, by go_num, NX.out, F2.out.new4' hlo⟩
      case measure => simp [intOf]; omega
    · obtain rfl : k = es.length := by omega
      have OW := hid HH.out.all
      go_wp2
      go_ret
      exact ⟨_, rfl, OW.out, hfr⟩

end Go.Proofs.Ytjgbconlpolddaa
