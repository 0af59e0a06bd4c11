/- The walks that mark. -/
import Derived.Test.YtjgbconlpolddaaQExMark2
set_option linter.unusedVariables false
set_option linter.unusedSimpArgs false
namespace Go.Proofs.Ytjgbconlpolddaa
open Go.RowKit
set_option linter.unusedVariables false

theorem getD_set_ne {l : List Ob} {i : Nat} {o : Ob} (h : i < l.length) : (l.set i o)[i]'(by simpa using h) = o := by simp

/-- One object's marks. -/
theorem ObsIn.round {lo hi g n cap : Nat} {w : World} {os : List Ob} (h : ObsIn lo hi w (.slice (some ⟨g, 0, none⟩) n cap) os) {i : Nat} (hi' : i < os.length) (x : Int) :
    ∃ u : Value, (w.cell? ⟨g, i * 3, none⟩ = some (.int .i64 os[i].kind) ∧ w.cell? ⟨g, i * 3 + 1, none⟩ = some u ∧ (∀ o, w.frozen? ⟨g, o, none⟩ = false) ∧ lo ≤ g ∧ g < hi) ∧ Hi hi u ∧
      (w.setCell ⟨g, i * 3, none⟩ (.int .i64 x)).ownsRow lo 3 1 u os[i].links.length (os[i].links.map (Value.int .i64)) ∧ w.grownBy (w.setCell ⟨g, i * 3, none⟩ (.int .i64 x)) (some g) ∧
      ∀ (w2 : World) (l : List Int), w2.ownsRow lo 3 1 u l.length (l.map (Value.int .i64)) → (w.setCell ⟨g, i * 3, none⟩ (.int .i64 x)).grownBy w2 u.ownBlock →
        ∀ (w3 : World), Fr w2.heap.size [] w2 w3 → (∃ v, w3.cell? ⟨g, i * 3 + 2, none⟩ = some v) ∧ (∀ o, w3.frozen? ⟨g, o, none⟩ = false) ∧
          ∀ t : Tx, ObsIn lo hi (w3.setCell ⟨g, i * 3 + 2, none⟩ (.string (tx t))) (.slice (some ⟨g, 0, none⟩) n cap) (os.set i ⟨x, l, t⟩) ∧ w3.grownBy (w3.setCell ⟨g, i * 3 + 2, none⟩ (.string (tx t))) (some g) := by
  obtain ⟨u, ⟨c0, c1, c2, cf, g1, g2⟩, hu, hh, k1, _, _⟩ := h.at hi'
  obtain ⟨o1, gr1⟩ := k1 x
  have hi1 : i < (os.set i ⟨x, os[i].links, os[i].text⟩).length := by simpa using hi'
  obtain ⟨u1, ⟨_, d1, _, _, _, _⟩, hu1, hh1, _, _, k3⟩ := o1.at hi1
  have e1 : u1 = u := by
    have : (w.setCell ⟨g, i * 3, none⟩ (.int .i64 x)).cell? ⟨g, i * 3 + 1, none⟩ = some u := by
      refine Eq.trans ?_ c1
      apply World.cell?_setCell_other
      intro e
      injection e
      omega
    rw [this] at d1
    cases d1
    rfl
  subst e1
  refine ⟨u1, ⟨c0, c1, cf, g1, g2⟩, hh, ?_, gr1, fun w2 l hl hg w3 hf => ?_⟩
  · simpa using hu1
  · have o2 := (k3 w2 l hl hg).grow hf
    have hi2 : i < ((os.set i ⟨x, os[i].links, os[i].text⟩).set i ⟨x, l, os[i].text⟩).length := by simpa using hi'
    simp only [List.getElem_set_self] at o2
    obtain ⟨_, ⟨_, _, e2, ef, _, _⟩, _, _, _, k2, _⟩ := o2.at hi2
    refine ⟨⟨_, e2⟩, ef, fun t => ?_⟩
    have := k2 t
    simpa using this

/-- One entry's marks. -/
theorem EnsIn.round {lo hi g n cap : Nat} {w : World} {es : List En} (h : EnsIn lo hi w (.slice (some ⟨g, 0, none⟩) n cap) es) {i : Nat} (hi' : i < es.length) (x : Int) :
    ∃ u p : Value, (w.cell? ⟨g, i * 4, none⟩ = some (.int .i64 es[i].kind) ∧ w.cell? ⟨g, i * 4 + 1, none⟩ = some u ∧ (∀ o, w.frozen? ⟨g, o, none⟩ = false) ∧ lo ≤ g ∧ g < hi) ∧ Hi hi u ∧ Hi hi p ∧
      (w.setCell ⟨g, i * 4, none⟩ (.int .i64 x)).ownsRow lo 3 1 u es[i].links.length (es[i].links.map (Value.int .i64)) ∧ w.grownBy (w.setCell ⟨g, i * 4, none⟩ (.int .i64 x)) (some g) ∧
      ∀ (w2 : World) (l : List Int), w2.ownsRow lo 3 1 u l.length (l.map (Value.int .i64)) → (w.setCell ⟨g, i * 4, none⟩ (.int .i64 x)).grownBy w2 u.ownBlock →
        (∃ v, w2.cell? ⟨g, i * 4 + 2, none⟩ = some v) ∧ w2.cell? ⟨g, i * 4 + 3, none⟩ = some p ∧ (∀ o, w2.frozen? ⟨g, o, none⟩ = false) ∧
          ∀ y : Int, (w2.setCell ⟨g, i * 4 + 2, none⟩ (.int .i64 y)).ownsRow lo 109 3 p es[i].ops.length (es[i].ops.flatMap encOp) ∧ w2.grownBy (w2.setCell ⟨g, i * 4 + 2, none⟩ (.int .i64 y)) (some g) ∧
            ∀ (w4 : World) (ops : List Opn), w4.ownsRow lo 109 3 p ops.length (ops.flatMap encOp) → (w2.setCell ⟨g, i * 4 + 2, none⟩ (.int .i64 y)).grownBy w4 p.ownBlock → EnsIn lo hi w4 (.slice (some ⟨g, 0, none⟩) n cap) (es.set i ⟨x, l, y, ops⟩) := by
  obtain ⟨u, p, ⟨c0, c1, c2, c3, cf, g1, g2⟩, hu, hh, hp, hhp, k1, _⟩ := h.at hi'
  obtain ⟨o1, gr1⟩ := k1 x
  have hi1 : i < (es.set i { es[i] with kind := x }).length := by simpa using hi'
  obtain ⟨u1, p1, ⟨_, d1, _, d3, _, _, _⟩, hu1, _, hp1, _, _, _, k3, _⟩ := o1.at hi1
  have e1 : u1 = u := by
    have : (w.setCell ⟨g, i * 4, none⟩ (.int .i64 x)).cell? ⟨g, i * 4 + 1, none⟩ = some u := by
      refine Eq.trans ?_ c1
      apply World.cell?_setCell_other
      intro e
      injection e
      omega
    rw [this] at d1
    cases d1
    rfl
  have e2 : p1 = p := by
    have : (w.setCell ⟨g, i * 4, none⟩ (.int .i64 x)).cell? ⟨g, i * 4 + 3, none⟩ = some p := by
      refine Eq.trans ?_ c3
      apply World.cell?_setCell_other
      intro e
      injection e
      omega
    rw [this] at d3
    cases d3
    rfl
  subst e1 e2
  refine ⟨u1, p1, ⟨c0, c1, cf, g1, g2⟩, hh, hhp, by simpa using hu1, gr1, fun w2 l hl hg => ?_⟩
  have o2 := k3 w2 l hl hg
  simp only [List.getElem_set_self, List.set_set] at o2
  have hi2 : i < (es.set i { kind := x, links := l, base := es[i].base, ops := es[i].ops }).length := by simpa using hi'
  obtain ⟨u2, p2, ⟨_, _, f2, f3, ff, _, _⟩, _, _, hp2, _, _, k2, _⟩ := o2.at hi2
  have e3 : w2.cell? ⟨g, i * 4 + 3, none⟩ = some p1 := by
    have hrow := o1
    obtain ⟨zs, _, z2, z3, _, _, _⟩ := o1
    have hz := hp1
    have hne : some g ≠ u1.ownBlock := fun e => by
      rcases apart_tag z2 hu1 (by decide) with h | h
      · cases h
      · exact h e
    exact hg.cell d3 hne
  have e4 : p2 = p1 := by
    rw [e3] at f3
    cases f3
    rfl
  subst e4
  refine ⟨⟨_, f2⟩, e3, ff, fun y => ?_⟩
  obtain ⟨o3, gr3⟩ := k2 y
  simp only [List.getElem_set_self, List.set_set] at o3
  have hi3 : i < (es.set i { kind := x, links := l, base := y, ops := es[i].ops }).length := by simpa using hi'
  obtain ⟨u3, p3, ⟨_, _, _, m3, _, _, _⟩, _, _, hp3, _, _, _, _, k4⟩ := o3.at hi3
  have e5 : p3 = p2 := by
    have : (w2.setCell ⟨g, i * 4 + 2, none⟩ (.int .i64 y)).cell? ⟨g, i * 4 + 3, none⟩ = some p2 := by
      refine Eq.trans ?_ e3
      apply World.cell?_setCell_other
      intro e
      injection e
      omega
    rw [this] at m3
    cases m3
    rfl
  subst e5
  refine ⟨by simpa using hp3, gr3, fun w4 ops ho hg4 => ?_⟩
  have := k4 w4 ops ho hg4
  simpa only [List.getElem_set_self, List.set_set] using this

/-- Two cells of an operation, then its text in a later world. -/
theorem opsTwo {lo g cap n i : Nat} {w : World} {ops : List Opn} (h : w.ownsRow lo 109 3 (.slice (some ⟨g, 0, none⟩) n cap) n (ops.flatMap encOp)) (hn : ops.length = n) (hi : i < n) (x y : Int) :
    w.grownBy ((w.setCell ⟨g, i * 3, none⟩ (.int .i64 x)).setCell ⟨g, i * 3 + 1, none⟩ (.int .i64 y)) (some g) ∧
    ∀ w3 : World, Fr ((w.setCell ⟨g, i * 3, none⟩ (.int .i64 x)).setCell ⟨g, i * 3 + 1, none⟩ (.int .i64 y)).heap.size [] ((w.setCell ⟨g, i * 3, none⟩ (.int .i64 x)).setCell ⟨g, i * 3 + 1, none⟩ (.int .i64 y)) w3 →
      (∃ v, w3.cell? ⟨g, i * 3 + 2, none⟩ = some v) ∧ w3.frozen? ⟨g, i * 3 + 2, none⟩ = false ∧ ∀ t : Tx, ∃ ops' : List Opn, ops'.length = n ∧ (w3.setCell ⟨g, i * 3 + 2, none⟩ (.string (tx t))).ownsRow lo 109 3 (.slice (some ⟨g, 0, none⟩) n cap) n (ops'.flatMap encOp) ∧ w3.grownBy (w3.setCell ⟨g, i * 3 + 2, none⟩ (.string (tx t))) (some g) := by
  obtain ⟨_, _, h1, r1⟩ := opsRow_set h hn hi (j := 0) (by omega) (.int .i64 x) ⟨x, (ops[i]'(by omega)).size, (ops[i]'(by omega)).text⟩ rfl
  rw [Nat.add_zero] at h1 r1
  obtain ⟨_, _, h2, r2⟩ := opsRow_set h1 (by simpa using hn) hi (j := 1) (by omega) (.int .i64 y) ⟨x, y, (ops[i]'(by omega)).text⟩ (by simp [encOp])
  refine ⟨grown_trans r1 r2, fun w3 hf => ?_⟩
  have h3 := ownsRow_grow h2 hf
  obtain ⟨c, f, _, _⟩ := opsRow_set h3 (by simpa using hn) hi (j := 2) (by omega) (.string (tx [])) ⟨x, y, []⟩ (by simp [encOp])
  refine ⟨c, f, fun t => ?_⟩
  obtain ⟨_, _, h4, r4⟩ := opsRow_set h3 (by simpa using hn) hi (j := 2) (by omega) (.string (tx t)) ⟨x, y, t⟩ (by simp [encOp])
  exact ⟨_, by simpa using hn, h4, r4⟩

set_option maxRecDepth 20000 in
set_option maxHeartbeats 4000000 in
theorem markOps_any (lo : Nat) (v : Value) (k0 : Nat) (ops : List Opn) (w : World) (hv : w.ownsRow lo 109 3 v ops.length (ops.flatMap encOp)) (hn : ops.length ≤ 1048576) (hk0 : k0 ≤ 100000000000000000) :
    Calls Try.prog 69 #[v, .int .i64 k0] w fun e w' => ∃ ops' : List Opn, e = .returned (.int .i64 ((k0 + 3 * ops.length : Nat) : Int)) ∧ ops'.length = ops.length ∧ w'.ownsRow lo 109 3 v ops'.length (ops'.flatMap encOp) ∧ w.grownBy w' v.ownBlock := by
  generalize hN : ops.length = N at *
  rcases Nat.eq_zero_or_pos N with rfl | hp
  · obtain ⟨a, cap, rfl⟩ := own_any hv
    have HV := hid hv
    have HN := hid hN
    clear hv hN
    go_enter Try.func69, Try.ntmps69
    go_wp2
    go_loopw [1, 5] (fun vk vi wx => vk = .int .i64 k0 ∧ vi = .int .i64 0 ∧ wx = w) (fun _ _ _ => 0)
    case atStart => exact ⟨rfl, rfl, rfl⟩
    case round =>
      obtain ⟨rfl, rfl, rfl⟩ := hrel
      go_wp2
      go_ret
      exact ⟨ops, rfl, HN.out, by rw [HN.out]; exact HV.out, World.grownBy.refl _ _⟩
  · obtain ⟨g, cap, rfl, hg, hgs, hnc⟩ := own_shape hv hp
    have HV := hid hv
    have HN := hid hN
    clear hv hN
    go_enter Try.func69, Try.ntmps69
    go_wp2
    go_loopw [1, 5] (fun vk vi wx => ∃ (i : Nat) (os : List Opn), i ≤ N ∧ vi = .int .i64 i ∧ vk = .int .i64 ((k0 + 3 * i : Nat) : Int) ∧ os.length = N ∧ wx.ownsRow lo 109 3 (.slice (some ⟨g, 0, none⟩) N cap) N (os.flatMap encOp) ∧ w.grownBy wx (some g)) (fun _ vi _ => N - (intOf vi).toNat)
    case atStart => exact ⟨0, ops, Nat.zero_le _, rfl, rfl, HN.out, HV.out, World.grownBy.refl _ _⟩
    case round =>
      obtain ⟨i, os, hi, rfl, rfl, hol, hh, hgr⟩ := hrel
      have HH := hid hh
      have GR := hid hgr
      have OL := hid hol
      by_cases hlt : i < N
      · have hki : (i : Int) < (N : Int) := by omega
        obtain ⟨⟨u0, d0⟩, df, -⟩ := opsRow_set hh hol hlt (j := 0) (by omega) (.int .i64 0) ⟨0, (os[i]'(by omega)).size, (os[i]'(by omega)).text⟩ rfl
        obtain ⟨⟨u1, d1⟩, df1, -⟩ := opsRow_set hh hol hlt (j := 1) (by omega) (.int .i64 0) ⟨(os[i]'(by omega)).pos, 0, (os[i]'(by omega)).text⟩ rfl
        rw [Nat.add_zero] at d0 df
        have NX := hid (fun (x y : Int) => opsTwo hh hol hlt x y)
        clear hh hgr hol
        go_wp2_with (go_at_call 68; go_must (refine (markText_any (k0 + 3 * i + 1 + 1) _ (by omega)).mono ?_; rintro e w2 ⟨rfl, fr2⟩; obtain ⟨⟨v2, hv2⟩, hf2, hk⟩ := (NX.out _ _).2 _ fr2; have HK := hid (hk (mkT (k0 + 3 * i + 1 + 1))); have G2 := hid (grown_trans (grown_trans GR.out (NX.out _ _).1) (grown_fr fr2)); clear hk fr2))
        go_roundw
        case rel =>
          obtain ⟨ops', h1, h2, h3⟩ := HK.out
          exact ⟨i + 1, ops', by omega, by go_num, by go_num, h1, h2, grown_trans G2.out h3⟩
        case measure => simp [intOf]; omega
      · obtain rfl : i = N := by omega
        go_wp2
        go_ret
        exact ⟨os, rfl, OL.out, by rw [OL.out]; exact HH.out, GR.out⟩

/-- The number at which object i's marks begin. -/
def kAt (os : List Ob) (k0 : Nat) : Nat → Nat
  | 0 => k0
  | i + 1 => kAt os k0 i + (match os[i]? with | some o => o.links.length | none => 0) + 2

theorem kAt_succ {os : List Ob} {k0 i : Nat} (h : i < os.length) : kAt os k0 (i + 1) = kAt os k0 i + os[i].links.length + 2 := by
  simp [kAt, List.getElem?_eq_getElem h]

theorem kAt_le {os : List Ob} {k0 B : Nat} (hb : ∀ o ∈ os, o.links.length ≤ B) : ∀ i, i ≤ os.length → kAt os k0 i ≤ k0 + i * (B + 2) := by
  intro i
  induction i with
  | zero => intro _; simp [kAt]
  | succ i ih =>
    intro hi
    have h1 := ih (by omega)
    have h2 := hb _ (List.getElem_mem (show i < os.length by omega))
    rw [kAt_succ (by omega), Nat.add_mul]
    omega

/-- Object i, marked. -/
def mkOb (os : List Ob) (k0 i : Nat) : Ob :=
  match os[i]? with
  | some o => ⟨(kAt os k0 i : Int), cnt (kAt os k0 i + 1) o.links.length, mkT (kAt os k0 i + 1 + o.links.length)⟩
  | none => ⟨0, [], []⟩

theorem mkOb_eq {os : List Ob} {k0 i : Nat} (h : i < os.length) : mkOb os k0 i = ⟨(kAt os k0 i : Int), cnt (kAt os k0 i + 1) os[i].links.length, mkT (kAt os k0 i + 1 + os[i].links.length)⟩ := by
  simp [mkOb, List.getElem?_eq_getElem h]

/-- The first i objects marked. -/
def stage (os : List Ob) (k0 i : Nat) : List Ob := (List.range i).map (mkOb os k0) ++ os.drop i

theorem stage_len {os : List Ob} {k0 i : Nat} (h : i ≤ os.length) : (stage os k0 i).length = os.length := by simp [stage]; omega

theorem stage_zero (os : List Ob) (k0 : Nat) : stage os k0 0 = os := by simp [stage]

theorem stage_get {os : List Ob} {k0 i : Nat} (h : i < os.length) (h' : i < (stage os k0 i).length) : (stage os k0 i)[i] = os[i] := by
  simp only [stage]
  rw [List.getElem_append_right (by simp)]
  simp

theorem stage_set {os : List Ob} {k0 i : Nat} (h : i < os.length) : (stage os k0 i).set i (mkOb os k0 i) = stage os k0 (i + 1) := by
  unfold stage
  rw [List.set_append_right _ _ (by simp), List.length_map, List.length_range, Nat.sub_self, List.range_succ, List.map_append, List.drop_eq_getElem_cons h, List.set_cons_zero]
  simp

theorem stage_all {os : List Ob} {k0 j : Nat} (h : j < os.length) (h' : j < (stage os k0 os.length).length) : (stage os k0 os.length)[j] = mkOb os k0 j := by
  simp only [stage]
  rw [List.getElem_append_left (by simp; exact h)]
  simp

set_option maxRecDepth 20000 in
set_option maxHeartbeats 4000000 in
theorem markObjects_any (lo hi : Nat) (v : Value) (k0 : Nat) (os : List Ob) (w : World) (hv : ObsIn lo hi w v os) (hn : os.length ≤ 1048576) (hb : ∀ o ∈ os, o.links.length ≤ 1048576) (hk0 : k0 ≤ 1000000) :
    Calls Try.prog 30 #[v, .int .i64 k0] w fun e w' => e = .returned (.int .i64 (kAt os k0 os.length : Int)) ∧ ObsIn lo hi w' v (stage os k0 os.length) ∧ Fi lo hi w w' := by
  obtain ⟨a, cap, rfl, _, _⟩ := hv.sep.own.reads.shape
  have HV := hid hv
  have HB := hid hb
  have HK := hid (fun i (h : i ≤ os.length) => kAt_le (k0 := k0) hb i h)
  clear hv hb
  go_enter Try.func30, Try.ntmps30
  go_wp2
  go_loopw [1, 5] (fun vk vi wx => ∃ i : Nat, i ≤ os.length ∧ vi = .int .i64 i ∧ vk = .int .i64 (kAt os k0 i : Int) ∧ ObsIn lo hi wx (.slice a os.length cap) (stage os k0 i) ∧ Fi lo hi w wx) (fun _ vi _ => os.length - (intOf vi).toNat)
  case atStart => exact ⟨0, Nat.zero_le _, rfl, rfl, by rw [stage_zero]; exact HV.out, Fi.refl _ _ _⟩
  case round =>
    obtain ⟨i, hi', rfl, rfl, hh, hfi⟩ := hrel
    have HH := hid hh
    have FI := hid hfi
    clear hfi
    by_cases hlt : i < os.length
    · have hki : (i : Int) < (os.length : Int) := by omega
      have hsl : i < (stage os k0 i).length := by rw [stage_len (by omega)]; exact hlt
      have hsg := stage_get (k0 := k0) hlt hsl
      obtain ⟨g, rfl⟩ : ∃ g, a = some ⟨g, 0, none⟩ := by
        obtain ⟨zs, _, g2, _⟩ := hh
        rw [stage_len hi'] at g2
        obtain ⟨g, cap', he, _⟩ := own_shape g2 (by omega)
        cases he
        exact ⟨g, rfl⟩
      obtain ⟨u, ⟨c0, c1, cf, hlg, hgh⟩, hhu, hur, hgr, hk⟩ := hh.round hsl (kAt os k0 i)
      rw [hsg] at c0 hur
      have HU := hid hur
      have HHU := hid hhu
      have G1 := hid (FI.out.trans (Fi.ofGrown hgr (fun k e => by cases e; exact ⟨hlg, hgh⟩)))
      have HKK := hid hk
      have KB := HK.out i (by omega)
      have KS := hid (kAt_succ (k0 := k0) hlt)
      have SS := hid (stage_set (k0 := k0) hlt)
      have ME := hid (mkOb_eq (k0 := k0) hlt)
      have hol := HB.out _ (List.getElem_mem hlt)
      clear hh hur hhu hgr hk hsg hsl
      generalize kAt os k0 i = kk at *
      generalize os[i] = o at *
      have KL := cnt_len (kk + 1) o.links.length
      go_wp2_with (first
        | (go_at_call 67; go_must (refine (markInts_any lo _ o.links.length (kk + 1) _ _ HU.out hol (by omega)).mono ?_; rintro e w2 ⟨rfl, own2, gr2⟩; have OW2 := hid own2; have GR2 := hid gr2; have F2 := hid (G1.out.trans (Fi.ofGrown gr2 (fun b hb => ⟨(HU.out.lt b hb).1, HHU.out b hb⟩))); obtain ⟨⟨v3, hv3⟩, hf3, -⟩ := HKK.out w2 (cnt (kk + 1) o.links.length) (by rw [KL]; exact own2) gr2 w2 (Fr.refl _ _ _); clear own2 gr2))
        | (go_at_call 68; go_must (refine (markText_any (kk + 1 + o.links.length) _ (by omega)).mono ?_; rintro e w3 ⟨rfl, fr3⟩; obtain ⟨⟨v4, hv4⟩, hf4, hk4⟩ := HKK.out w2 (cnt (kk + 1) o.links.length) (by rw [KL]; exact OW2.out) GR2.out w3 fr3; have K4 := hid (hk4 (mkT (kk + 1 + o.links.length))); have F3 := hid (F2.out.trans (Fi.ofFr fr3)); clear fr3 hk4)))
      go_roundw
      case rel => exact ⟨i + 1, by omega, by go_num, by rw [KS.out]; go_num, by rw [← SS.out, ME.out]; exact K4.out.1, F3.out.trans (Fi.ofGrown K4.out.2 (fun k e => by cases e; exact ⟨hlg, hgh⟩))⟩
      case measure => simp [intOf]; omega
    · obtain rfl : i = os.length := by omega
      go_wp2
      go_ret
      exact ⟨rfl, HH.out, FI.out⟩

end Go.Proofs.Ytjgbconlpolddaa
