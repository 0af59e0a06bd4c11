/- Entries' marks; what is held. -/
import Derived.Test.YtjgbconlpolddaaQExMark3
import Derived.Test.YtjgbconlpolddaaQM8
set_option linter.unusedVariables false
set_option linter.unusedSimpArgs false
namespace Go.Proofs.Ytjgbconlpolddaa
open Go.RowKit
set_option linter.unusedVariables false

set_option maxRecDepth 20000 in
set_option maxHeartbeats 4000000 in
theorem markEntries_any (lo hi : Nat) (v : Value) (k0 : Nat) (es : List En) (w : World) (hv : EnsIn lo hi w v es) (hn : es.length ≤ 1048576) (hb : ∀ e ∈ es, e.links.length ≤ 1048576 ∧ e.ops.length ≤ 1048576) (hk0 : k0 ≤ 10000000000000) :
    Calls Try.prog 31 #[v, .int .i64 k0] w fun e w' => (∃ k : Nat, e = .returned (.int .i64 (k : Int))) ∧ Fi lo hi w w' := by
  obtain ⟨a, cap, rfl, _, _⟩ := (show EnsOwn lo w v es from by
    obtain ⟨zs, h1, h2, h3, _⟩ := hv
    exact ⟨zs, h1, h2, fun z hz => ⟨SlR.ofOwns (h3 z hz).1, SlR.ofOwns (h3 z hz).2⟩⟩).reads.shape
  have HV := hid hv
  have HB := hid hb
  obtain ⟨N, hN⟩ : ∃ N, es.length = N := ⟨_, rfl⟩
  rw [hN] at hn ⊢
  have HV := hid (show EnsIn lo hi w (.slice a N cap) es by rw [← hN]; exact HV.out)
  have HN := hid hN
  clear hv hb hN
  go_enter Try.func31, Try.ntmps31
  go_wp2
  go_loopw [1, 5] (fun vk vi wx => ∃ (i k : Nat) (xs : List En), i ≤ N ∧ vi = .int .i64 i ∧ vk = .int .i64 (k : Int) ∧ k ≤ k0 + i * 5000000 ∧ xs.length = N ∧ EnsIn lo hi wx (.slice a N cap) xs ∧ (∀ e ∈ xs, e.links.length ≤ 1048576 ∧ e.ops.length ≤ 1048576) ∧ Fi lo hi w wx) (fun _ vi _ => N - (intOf vi).toNat)
  case atStart => exact ⟨0, k0, es, Nat.zero_le _, rfl, rfl, by omega, HN.out, HV.out, HB.out, Fi.refl _ _ _⟩
  case round =>
    obtain ⟨i, k, xs, hi', rfl, rfl, hk, hxl, hh, hxb, hfi⟩ := hrel
    have FI := hid hfi
    have XL := hid hxl
    have XB := hid hxb
    by_cases hlt : i < N
    · have hki : (i : Int) < (N : Int) := by omega
      have hxi : i < xs.length := by omega
      have hmul : i * 5000000 ≤ 1048576 * 5000000 := Nat.mul_le_mul_right _ (by omega)
      obtain ⟨g, rfl⟩ : ∃ g, a = some ⟨g, 0, none⟩ := by
        obtain ⟨zs, _, g2, _⟩ := hh
        rw [hxl] at g2
        obtain ⟨g, cap', he, _⟩ := own_shape g2 (by omega)
        cases he
        exact ⟨g, rfl⟩
      obtain ⟨u, p, ⟨c0, c1, cf, hlg, hgh⟩, hhu, hhp, hur, hgr, hc⟩ := hh.round hxi (k : Int)
      obtain ⟨hol, hpl⟩ := hxb _ (List.getElem_mem hxi)
      have HU := hid hur
      have HHU := hid hhu
      have HHP := hid hhp
      have G1 := hid (FI.out.trans (Fi.ofGrown hgr (fun k e => by cases e; exact ⟨hlg, hgh⟩)))
      have HC := hid hc
      clear hfi hxl hxb hh hur hhu hhp hgr hc
      generalize xs[i] = o at *
      have KL := cnt_len (k + 1) o.links.length
      go_wp2_with (first
        | (go_at_call 67; go_must (refine (markInts_any lo _ o.links.length (k + 1) _ _ HU.out hol (by omega)).mono ?_; rintro e w2 ⟨rfl, own2, gr2⟩; have F2 := hid (G1.out.trans (Fi.ofGrown gr2 (fun b hb => ⟨(HU.out.lt b hb).1, HHU.out b hb⟩))); obtain ⟨⟨v3, hv3⟩, hp3, hf3, hk3⟩ := HC.out w2 (cnt (k + 1) o.links.length) (by rw [KL]; exact own2) gr2; obtain ⟨hpr, hgr3, hk4⟩ := hk3 ((k + 1 + o.links.length : Nat) : Int); have PR := hid hpr; have K4 := hid hk4; have F3 := hid (F2.out.trans (Fi.ofGrown hgr3 (fun k e => by cases e; exact ⟨hlg, hgh⟩))); clear own2 gr2 hk3 hpr hgr3 hk4))
        | (go_at_call 69; go_must (refine (markOps_any lo _ (k + 1 + o.links.length + 1) o.ops _ PR.out hpl (by omega)).mono ?_; rintro e w4 ⟨ops', rfl, hol4, own4, gr4⟩; have O4 := hid (K4.out w4 ops' own4 gr4); have L4 := hid hol4; have F4 := hid (F3.out.trans (Fi.ofGrown gr4 (fun b hb => ⟨(PR.out.lt b hb).1, HHP.out b hb⟩))); clear own4 gr4 hol4)))
      go_roundw
      case rel =>
        refine ⟨i + 1, k + 1 + o.links.length + 1 + 3 * o.ops.length, xs.set i _, by omega, by go_num, by go_num, by omega, by rw [List.length_set]; exact XL.out, O4.out, fun e he => ?_, F4.out⟩
        rcases List.mem_or_eq_of_mem_set he with hm | rfl
        · exact XB.out e hm
        · refine ⟨?_, ?_⟩
          · show (cnt (k + 1) o.links.length).length ≤ 1048576
            omega
          · show ops'.length ≤ 1048576
            rw [L4.out]; exact hpl
      case measure => simp [intOf]; omega
    · obtain rfl : i = N := by omega
      go_wp2
      go_ret
      exact ⟨⟨k, rfl⟩, FI.out⟩

set_option maxRecDepth 20000 in
set_option maxHeartbeats 2000000 in
theorem heldInts_any (K : Nat → Bool → Prop) (v : Value) (k0 n : Nat) (w : World) (hv : IntsR K w v (cnt k0 n)) (hn : n ≤ 1048576) (hk0 : k0 ≤ 1000000000000000000) :
    Calls Try.prog 70 #[v, .int .i64 k0] w fun e w' => e = .returned (.int .i64 ((k0 + n : Nat) : Int)) ∧ w = w' := by
  have hcl := cnt_len k0 n
  obtain ⟨a, cap, rfl, hcap, hcell⟩ := hv.shape
  have HC := hid hcell
  rw [hcl] at hcap ⊢
  have CG := hid (cnt_get k0 n)
  have CL := hid hcl
  clear hv hcell hcl
  go_enter Try.func70, Try.ntmps70
  go_wp2
  go_loopw [1, 5] (fun vk vi wx => ∃ i : Nat, i ≤ n ∧ vi = .int .i64 i ∧ vk = .int .i64 ((k0 + i : Nat) : Int) ∧ wx = w) (fun _ vi _ => n - (intOf vi).toNat)
  case atStart => exact ⟨0, Nat.zero_le _, rfl, rfl, rfl⟩
  case round =>
    obtain ⟨i, hi, rfl, rfl, rfl⟩ := hrel
    by_cases hlt : i < n
    · have hki : (i : Int) < (n : Int) := by omega
      have hil : i < (cnt k0 n).length := by rw [CL.out]; exact hlt
      rcases HC.out with hh | ⟨b, off, rfl, hbs, hcell⟩
      · rw [hh] at hil; cases hil
      have c0 := hcell i hil
      rw [CG.out i hil] at c0
      clear hcell hil
      go_wp2
      go_roundw
      case rel => exact ⟨i + 1, by omega, by go_num, by go_num, (by first | rfl | trivial)⟩
      case measure => simp [intOf]; omega
    · obtain rfl : i = n := by omega
      go_wp2
      go_ret
      exact ⟨rfl, rfl⟩

set_option maxRecDepth 20000 in
set_option maxHeartbeats 4000000 in
theorem heldObjects_any (K : Nat → Bool → Prop) (v : Value) (k0 : Nat) (os : List Ob) (w : World) (hv : ObsR K w v (stage os k0 os.length)) (hn : os.length ≤ 1048576) (hb : ∀ o ∈ os, o.links.length ≤ 1048576) (hk0 : k0 ≤ 1000000) :
    Calls Try.prog 32 #[v, .int .i64 k0] w fun e w' => e = .returned (.int .i64 (kAt os k0 os.length : Int)) ∧ Fr w.heap.size [] w w' := by
  have hsl := stage_len (os := os) (k0 := k0) (Nat.le_refl os.length)
  obtain ⟨a, cap, rfl, hcap, hcell⟩ := hv.shape
  have HC := hid hcell
  have SL := hid hsl
  have HB := hid hb
  have HK := hid (fun i (h : i ≤ os.length) => kAt_le (k0 := k0) hb i h)
  rw [hsl] at hcap ⊢
  clear hv hcell hsl hb
  go_enter Try.func32, Try.ntmps32
  go_wp2
  go_loopw [1, 5] (fun vk vi wx => ∃ i : Nat, i ≤ os.length ∧ vi = .int .i64 i ∧ vk = .int .i64 (kAt os k0 i : Int) ∧ Fr w.heap.size [] w wx) (fun _ vi _ => os.length - (intOf vi).toNat)
  case atStart => exact ⟨0, Nat.zero_le _, rfl, rfl, Fr.refl _ _ _⟩
  case round =>
    obtain ⟨i, hi', rfl, rfl, hfr⟩ := hrel
    have FR := hid hfr
    by_cases hlt : i < os.length
    · have hki : (i : Int) < (os.length : Int) := by omega
      have hil : i < (stage os k0 os.length).length := by rw [SL.out]; exact hlt
      rcases HC.out with hh | ⟨b, off, rfl, hbs, hcell⟩
      · rw [hh] at hil; cases hil
      obtain ⟨u, x0, x1, x2, hu⟩ := hcell i hil
      rw [stage_all hlt hil, mkOb_eq hlt] at x0 x2 hu
      have KS := hid (kAt_succ (k0 := k0) hlt)
      have KB := HK.out i (by omega)
      have hol := HB.out _ (List.getElem_mem hlt)
      have KL := cnt_len (kAt os k0 i + 1) os[i].links.length
      obtain ⟨ua, ucap, rfl, _, _⟩ := hu.shape
      have c0 := hfr.cell hbs x0
      have c1 := hfr.cell hbs x1
      have c2 := hfr.cell hbs x2
      have HU := hid (hu.grow hfr)
      have hbr := Nat.lt_of_lt_of_le hbs hfr.size
      clear hcell hil x0 x1 x2 hu hfr
      generalize kAt os k0 i = kk at *
      generalize os[i] = o at *
      dsimp only at *
      rw [KL] at c1
      clear KL
      obtain ⟨tt, htt⟩ : ∃ tt, mkT (kk + 1 + o.links.length) = tt := ⟨_, rfl⟩
      have TT := hid htt
      rw [htt] at c2
      clear htt
      go_upto_region 10 with (go_at_call 70; go_must (refine (heldInts_any K _ (kk + 1) o.links.length _ (by have := HU.out; simpa [cnt_len] using this) hol (by omega)).mono ?_; rintro e w2 ⟨rfl, rfl⟩))
      go_region_held3 (fun x => x.cell? ⟨b, off + i * 3 + 2, none⟩ = some (.string (tx tt)))
        (first | exact c2 | exact fr1.cell hbr c2)
        (first
          | (go_at_call 68; go_must (refine (markText_any (kk + 1 + o.links.length) _ (by omega)).mono ?_; rintro e w3 ⟨rfl, fr⟩; rw [TT.out]; have fr1 : Fr wr.heap.size [] wr w3 := (Fr.refl wr.heap.size [] wr).drew.trans fr)))
      go_wp2
      go_roundw
      case rel => exact ⟨i + 1, by omega, by go_num, by rw [KS.out]; go_num, FR.out.trans fr1.nil⟩
      case measure => simp [intOf]; omega
    · obtain rfl : i = os.length := by omega
      go_wp2
      go_ret
      exact ⟨rfl, FR.out⟩

end Go.Proofs.Ytjgbconlpolddaa

/- The walk of FnExactFetchStore. -/
namespace Go.Proofs.Ytjgbconlpolddaa
open Go.RowKit
set_option linter.unusedVariables false

/-- The arguments, and what the reference says. -/
structure S1 (w W : World) (v vp vw : Value) (os xs : List Ob) (es : List En) (bw : Nat) : Prop where
  fr : Fr w.heap.size [] w W
  a : ObsR (old w.heap.size) W v os
  p : EnsR (old w.heap.size) W vp es
  r : ObsR (old bw) W vw xs
  b : w.heap.size ≤ bw
  c : bw ≤ W.heap.size

theorem S1.grow {w W W' : World} {v vp vw : Value} {os xs : List Ob} {es : List En} {bw : Nat} (h : S1 w W v vp vw os xs es bw) (hf : Fr W.heap.size [] W W') : S1 w W' v vp vw os xs es bw :=
  ⟨h.fr.trans hf.nil, h.a.grow hf, h.p.grow hf, h.r.grow hf, h.b, Nat.le_trans h.c hf.size⟩

theorem S1.fi {w W W' : World} {v vp vw : Value} {os xs : List Ob} {es : List En} {bw lo hi : Nat} (h : S1 w W v vp vw os xs es bw) (hf : Fi lo hi W W') (hl : bw ≤ lo) : S1 w W' v vp vw os xs es bw :=
  ⟨h.fr.afterFi hf (Nat.le_trans h.b hl), h.a.fi hf (fun b _ hb => .inl (Nat.lt_of_lt_of_le hb (Nat.le_trans h.b hl))), h.p.fi hf (fun b _ hb => .inl (Nat.lt_of_lt_of_le hb (Nat.le_trans h.b hl))), h.r.fi hf (fun b _ hb => .inl (Nat.lt_of_lt_of_le hb hl)), h.b, Nat.le_trans h.c hf.size⟩

theorem ObsIn.fi {lo hi l h : Nat} {w w' : World} {v : Value} {os : List Ob} (o : ObsIn lo hi w v os) (hf : Fi l h w w') (hl : h ≤ lo) : ObsIn lo hi w' v os := by
  obtain ⟨zs, h1, h2, h3, h4, h5, h6⟩ := o
  exact ⟨zs, h1, ownsRow_fi h2 hf (fun b hb => .inr (by have := (h2.lt b hb).1; omega)), fun z hz => ownsRow_fi (h3 z hz) hf (fun b hb => .inr (by have := ((h3 z hz).lt b hb).1; omega)), h4, h5, h6⟩

theorem EnsIn.fi {lo hi l h : Nat} {w w' : World} {v : Value} {es : List En} (o : EnsIn lo hi w v es) (hf : Fi l h w w') (hl : h ≤ lo) : EnsIn lo hi w' v es := by
  obtain ⟨zs, h1, h2, h3, h4, h5, h6⟩ := o
  exact ⟨zs, h1, ownsRow_fi h2 hf (fun b hb => .inr (by have := (h2.lt b hb).1; omega)), fun z hz => ⟨ownsRow_fi (h3 z hz).1 hf (fun b hb => .inr (by have := ((h3 z hz).1.lt b hb).1; omega)), ownsRow_fi (h3 z hz).2 hf (fun b hb => .inr (by have := ((h3 z hz).2.lt b hb).1; omega))⟩, h4, h5, h6⟩

theorem EnsIn.own {lo hi : Nat} {w : World} {v : Value} {es : List En} (h : EnsIn lo hi w v es) : EnsOwn lo w v es := by
  obtain ⟨zs, h1, h2, h3, _⟩ := h
  exact ⟨zs, h1, h2, fun z hz => ⟨SlR.ofOwns (h3 z hz).1, SlR.ofOwns (h3 z hz).2⟩⟩

/-- Besides: the two copies, and the program's result. -/
structure S2 (w W : World) (v vp vw vx vy : Value) (os xs : List Ob) (es : List En) (bw lo0 hi0 lo1 hi1 : Nat) : Prop where
  s : S1 w W v vp vw os xs es bw
  x : ObsIn lo0 hi0 W vx os
  y : EnsIn lo1 hi1 W vy es
  o0 : bw ≤ lo0
  o1 : hi0 ≤ lo1
  o2 : lo0 ≤ hi0
  o3 : lo1 ≤ hi1
  c : hi1 ≤ W.heap.size

theorem S2.grow {w W W' : World} {v vp vw vx vy : Value} {os xs : List Ob} {es : List En} {bw lo0 hi0 lo1 hi1 : Nat} (h : S2 w W v vp vw vx vy os xs es bw lo0 hi0 lo1 hi1) (hf : Fr W.heap.size [] W W') : S2 w W' v vp vw vx vy os xs es bw lo0 hi0 lo1 hi1 :=
  ⟨h.s.grow hf, h.x.grow hf, h.y.grow hf, h.o0, h.o1, h.o2, h.o3, Nat.le_trans h.c hf.size⟩

structure S3 (w W : World) (v vp vw vx vy vg : Value) (os xs : List Ob) (es : List En) (bw lo0 hi0 lo1 hi1 lo2 hi2 : Nat) : Prop where
  s : S2 w W v vp vw vx vy os xs es bw lo0 hi0 lo1 hi1
  g : ObsIn lo2 hi2 W vg xs
  o : hi1 ≤ lo2
  p : lo2 ≤ hi2

theorem S3.grow {w W W' : World} {v vp vw vx vy vg : Value} {os xs : List Ob} {es : List En} {bw lo0 hi0 lo1 hi1 lo2 hi2 : Nat} (h : S3 w W v vp vw vx vy vg os xs es bw lo0 hi0 lo1 hi1 lo2 hi2) (hf : Fr W.heap.size [] W W') : S3 w W' v vp vw vx vy vg os xs es bw lo0 hi0 lo1 hi1 lo2 hi2 :=
  ⟨h.s.grow hf, h.g.grow hf, h.o, h.p⟩

/-- Behind the marks. -/
structure S4 (w W : World) (v vp vw vg : Value) (os xs gs : List Ob) (es : List En) (bw lo2 hi2 : Nat) : Prop where
  s : S1 w W v vp vw os xs es bw
  g : ObsIn lo2 hi2 W vg gs
  o : bw ≤ lo2

theorem S4.grow {w W W' : World} {v vp vw vg : Value} {os xs gs : List Ob} {es : List En} {bw lo2 hi2 : Nat} (h : S4 w W v vp vw vg os xs gs es bw lo2 hi2) (hf : Fr W.heap.size [] W W') : S4 w W' v vp vw vg os xs gs es bw lo2 hi2 :=
  ⟨h.s.grow hf, h.g.grow hf, h.o⟩

theorem fetch_small (os : List Ob) (es : List En) : ((fetch os es).getD []).length ≤ 16 ∧ ∀ o ∈ (fetch os es).getD [], o.links.length ≤ 4 := by
  cases h : fetch os es with
  | none => exact ⟨Nat.zero_le _, fun o ho => by cases ho⟩
  | some xs => exact ⟨(stOk_iff.1 (fetch_ok h)).1, fun o ho => (obOk_len ((stOk_iff.1 (fetch_ok h)).2.1 o ho)).1⟩

set_option maxRecDepth 100000 in
set_option maxHeartbeats 8000000 in
theorem exactFetch_walk {w : World} {v vp : Value} {os : List Ob} {es : List En} (hv : ObsR (old w.heap.size) w v os) (hp : EnsR (old w.heap.size) w vp es) (hol : os.length ≤ 9223372036854775807) (hob : ∀ o ∈ os, o.links.length ≤ 9223372036854775807 ∧ o.text.length ≤ 9223372036854775807) (hel : es.length ≤ 9223372036854775807) (heb : ∀ e ∈ es, EnM e) :
    Calls Try.prog 8 #[v, vp] w fun e w' => e = .returned (.bool true) ∧ Fr w.heap.size [] w w' := by
  obtain ⟨a, cap, rfl, hcap, -⟩ := hv.shape
  obtain ⟨a', cap', rfl, hcap', -⟩ := hp.shape
  have A0 := hid hv
  have P0 := hid hp
  have OB := hid hob
  have EB := hid heb
  clear hv hp hob heb
  go_enter Try.func8, Try.ntmps8
  go_upto_region 3 with (go_at_call 24; go_must (refine (szObjects_any _ _ os 1048576 _ A0.out hol OB.out (by omega) (by omega)).mono ?_; rintro e w1 ⟨⟨n1, rfl, hn0, hn1⟩, fr1⟩; have N1 := hid hn1; have F1 := hid fr1; have A1 := hid (A0.out.grow fr1); have P1 := hid (P0.out.grow fr1); clear hn1 fr1))
  by_cases hn : n1 < 0
  · go_wp2
    go_ret
    exact ⟨rfl, F1.out⟩
  obtain ⟨hnl, hsz, hszl⟩ := N1.out (by omega)
  have SZ := hid hszl
  clear hszl
  go_upto_region 6 with (go_at_call 25; go_must (refine (szEntries_any _ _ es n1 _ P1.out hel EB.out (by omega) (by omega)).mono ?_; rintro e w2 ⟨⟨n2, rfl, hm0, hm1⟩, fr2⟩; have N2 := hid hm1; have F2 := hid (F1.out.trans fr2.nil); have A2 := hid (A1.out.grow fr2); have P2 := hid (P1.out.grow fr2); clear hm1 fr2))
  by_cases hm : n2 < 0
  · go_wp2
    go_ret
    exact ⟨rfl, F2.out⟩
  obtain ⟨hml, hez, hezl⟩ := N2.out (by omega)
  have EZ := hid hezl
  clear hezl A0 P0 A1 P1 F1 N1 N2 OB EB
  obtain ⟨xs, hxs⟩ : ∃ xs, (fetch os es).getD [] = xs := ⟨_, rfl⟩
  obtain ⟨rb, hrb⟩ : ∃ rb, (fetch os es).isSome = rb := ⟨_, rfl⟩
  obtain ⟨hx16, hx4⟩ := fetch_small os es
  rw [hxs] at hx16 hx4
  have XS := hid hxs
  have RB := hid hrb
  have X4 := hid hx4
  have OL := hid (show ∀ o ∈ os, o.links.length ≤ 1000000000 from fun o ho => by have := SZ.out o ho; omega)
  have EL := hid (show ∀ e ∈ es, e.links.length ≤ 1000000000 from fun e he => by have := (EZ.out e he).1; omega)
  clear hxs hrb hx4
  go_upto_region 9 with (first
    | (go_at_call 26; go_must (refine (toObjects_any _ _ os _ A2.out hsz SZ.out).mono ?_; rintro e w3 ⟨v3, rfl, own3, fr3⟩; have O3 := hid own3; have F3 := hid (F2.out.trans fr3.nil); have A3 := hid (A2.out.grow fr3); have P3 := hid (P2.out.grow fr3); clear own3 fr3))
    | (go_at_call 27; go_must (refine (toEntries_any _ _ es _ F3.out.size P3.out hez EZ.out).mono ?_; rintro e w4 ⟨v4, rfl, own4, fr4⟩; have O4 := hid (O3.out.grow fr4); have E4 := hid own4; have F4 := hid (F3.out.trans fr4.nil); have A4 := hid (A3.out.grow fr4); have P4 := hid (P3.out.grow fr4); clear own4 fr4))
    | (go_at_call 19; go_must (refine (specFetch_any _ _ _ _ os es _ O4.out.own.reads E4.out.own.reads OL.out (by omega) (by omega) EL.out).mono ?_; rintro e w5 ⟨v5, rfl, own5, fr5⟩; rw [XS.out] at own5; rw [RB.out]; have ST := hid (show S1 w w5 _ _ v5 os xs es w5.heap.size from ⟨F4.out.trans fr5.nil, A4.out.grow fr5, P4.out.grow fr5, own5.reads.weak (fun b t hb _ => hb), (F4.out.trans fr5.nil).size, Nat.le_refl _⟩); clear own5 fr5)))
  clear O3 O4 E4 F2 F3 F4 A2 A3 A4 P2 P3 P4
  obtain ⟨wb, hwb⟩ : ∃ n, w5.heap.size = n := ⟨_, rfl⟩
  rw [hwb] at ST
  have ST := hid ST.out
  clear hwb
  go_upto_region 11 with (first
    | (go_at_call 26; go_must (refine (toObjects_any _ _ os _ ST.out.a hsz SZ.out).mono ?_; rintro e w6 ⟨v6, rfl, own6, fr6⟩; have X6 := hid own6.inn; have ST6 := hid (ST.out.grow fr6); have C5 := hid ST.out.c; have C6 := hid fr6.size; clear own6 fr6))
    | (go_at_call 27; go_must (refine (toEntries_any _ _ es _ ST6.out.fr.size ST6.out.p hez EZ.out).mono ?_; rintro e w7 ⟨v7, rfl, own7, fr7⟩; have S7 := hid (show S2 w w7 _ _ v5 v6 v7 os xs es wb w5.heap.size w6.heap.size w6.heap.size w7.heap.size from ⟨ST6.out.grow fr7, X6.out.grow fr7, own7.inn, C5.out, Nat.le_refl _, C6.out, fr7.size, Nat.le_refl _⟩); clear own7 fr7)))
  clear ST ST6 X6 C5 C6
  generalize w5.heap.size = lo0 at *
  generalize w6.heap.size = hi0 at *
  obtain ⟨hi1, hh1⟩ : ∃ n, w7.heap.size = n := ⟨_, rfl⟩
  rw [hh1] at S7
  have S7 := hid S7.out
  clear hh1
  have hkx := kAt_le (k0 := 1) SZ.out os.length (Nat.le_refl _)
  have hkm := kAt_le (k0 := 1) X4.out xs.length (Nat.le_refl _)
  have hkx2 : os.length * (1048576 + 2) ≤ 1048576 * (1048576 + 2) := Nat.mul_le_mul_right _ hsz
  obtain ⟨kx, hkxe⟩ : ∃ k, kAt os 1 os.length = k := ⟨_, rfl⟩
  obtain ⟨km, hkme⟩ : ∃ k, kAt xs 1 xs.length = k := ⟨_, rfl⟩
  obtain ⟨gx, hgxe⟩ : ∃ k, stage xs 1 xs.length = k := ⟨_, rfl⟩
  rw [hkxe] at hkx
  rw [hkme] at hkm
  have hkxb : kx ≤ 10000000000000 := by omega
  have hkmb : km ≤ 1000 := by omega
  clear hkx hkx2 hkm
  have KX := hid hkxe
  have KM := hid hkme
  have GX := hid hgxe
  clear hkxe hkme hgxe
  cases rb
  all_goals
    go_upto_region 18 with (first
      | (go_at_call 18; go_must (refine (implFetch_sep _ _ _ _ os es _ S7.out.x.sep.own.reads S7.out.y.own.reads (Mild.new _ _) OL.out (by omega) EL.out).mono ?_; rintro e w8 ⟨v8, rfl, own8, fr8⟩; rw [XS.out] at own8; rw [RB.out]; have S8 := hid (show S3 w w8 _ _ v5 v6 v7 v8 os xs es wb lo0 hi0 hi0 hi1 w7.heap.size w8.heap.size from ⟨S7.out.grow fr8, own8.inn, S7.out.c, fr8.size⟩); clear own8 fr8))
      | (go_at_call 28; (with_reducible refine (eqObjects_any _ _ v8 v5 xs _ S8.out.g.sep.own.reads S8.out.s.s.r (by omega) (fun o ho => Nat.le_trans (X4.out o ho) (by omega))).mono ?_); go_must (rintro e w9 ⟨rfl, fr9⟩; have S8 := hid (S8.out.grow fr9); clear fr9))
      | (go_at_call 26; go_must (refine (toObjects_any _ _ os _ S8.out.s.s.a hsz SZ.out).mono ?_; rintro e w9 ⟨v9, rfl, own9, fr9⟩; have O9 := hid own9; have S8 := hid (S8.out.grow fr9); clear own9 fr9))
      | (go_at_call 28; go_must (refine (eqObjects_any _ _ v6 v9 os _ S8.out.s.x.sep.own.reads O9.out.own.reads (by omega) OL.out).mono ?_; rintro e w9 ⟨rfl, fr9⟩; have S8 := hid (S8.out.grow fr9); clear fr9))
      | (go_at_call 27; go_must (refine (toEntries_any _ _ es _ S8.out.s.s.fr.size S8.out.s.s.p hez EZ.out).mono ?_; rintro e w9 ⟨v10, rfl, own9, fr9⟩; have E9 := hid own9; have S8 := hid (S8.out.grow fr9); clear own9 fr9))
      | (go_at_call 29; go_must (refine (eqEntries_any _ _ v7 v10 es _ S8.out.s.y.own.reads E9.out.own.reads (by omega) (fun e he => ⟨EL.out e he, by have := (EZ.out e he).2; omega⟩)).mono ?_; rintro e w9 ⟨rfl, fr9⟩; have S8 := hid (S8.out.grow fr9); clear fr9)))
    go_upto_region 20 with (go_at_call 30; go_must (refine (markObjects_any lo0 hi0 v6 1 os _ S8.out.s.x hsz SZ.out (by omega)).mono ?_; rintro e wa ⟨rfl, -, fi⟩; rw [KX.out]; have SA := hid (show S1 w wa _ _ v5 os xs es wb from S8.out.s.s.fi fi S8.out.s.o0); have YA := hid (S8.out.s.y.fi fi S8.out.s.o1); have GA := hid (S8.out.g.fi fi (Nat.le_trans S8.out.s.o1 (Nat.le_trans S8.out.s.o3 S8.out.o))); clear fi))
    go_upto_region 21 with (go_at_call 31; go_must (refine (markEntries_any _ _ v7 kx es _ YA.out hez EZ.out (by omega)).mono ?_; rintro e wc ⟨⟨ky, rfl⟩, fi⟩; have SC := hid (show S4 w wc _ _ v5 v8 os xs xs es wb w7.heap.size w8.heap.size from ⟨SA.out.fi fi (Nat.le_trans S8.out.s.o0 (Nat.le_trans S8.out.s.o2 S8.out.s.o1)), GA.out.fi fi S8.out.o, Nat.le_trans S8.out.s.o0 (Nat.le_trans S8.out.s.o2 (Nat.le_trans S8.out.s.o1 (Nat.le_trans S8.out.s.o3 S8.out.o)))⟩); clear fi))
    clear S8 SA YA GA S7 O9 E9
    have hky1 : decide ((ky : Int) < 0) = false := decide_eq_false (by omega)
    have hky2 : ¬ (ky : Int) < 0 := by omega
    have hky3 : (0 : Int) ≤ (ky : Int) := by omega
    have hkm3 : (0 : Int) ≤ (km : Int) := by omega
    go_upto_region 23 with (go_at_call 28; go_must (refine (eqObjects_any _ _ v8 v5 xs _ SC.out.g.sep.own.reads SC.out.s.r (by omega) (fun o ho => Nat.le_trans (X4.out o ho) (by omega))).mono ?_; rintro e wd ⟨rfl, fr⟩; have SC := hid (SC.out.grow fr); clear fr))
    go_upto_region 25 with (go_at_call 30; go_must (refine (markObjects_any _ _ v8 1 xs _ SC.out.g (by omega) (fun o ho => Nat.le_trans (X4.out o ho) (by omega)) (by omega)).mono ?_; rintro e we ⟨rfl, gg, fi⟩; rw [GX.out] at gg; rw [KM.out]; have SD := hid (show S4 w we _ _ v5 v8 os xs gx es wb w7.heap.size w8.heap.size from ⟨SC.out.s.fi fi SC.out.o, gg, SC.out.o⟩); clear gg fi))
    clear SC
    go_upto_region 31 with (go_at_call 32; go_must (refine (heldObjects_any _ v8 1 xs _ (by rw [GX.out]; exact SD.out.g.sep.own.reads) (by omega) (fun o ho => Nat.le_trans (X4.out o ho) (by omega)) (by omega)).mono ?_; rintro e wf ⟨rfl, fr⟩; rw [KM.out]; have SD := hid (SD.out.grow fr); clear fr))
    go_upto_region 34 with (first
      | (go_at_call 26; go_must (refine (toObjects_any _ _ os _ SD.out.s.a hsz SZ.out).mono ?_; rintro e wg ⟨va, rfl, own, fr⟩; have OA := hid own; have SD := hid (SD.out.grow fr); clear own fr))
      | (go_at_call 27; go_must (refine (toEntries_any _ _ es _ SD.out.s.fr.size SD.out.s.p hez EZ.out).mono ?_; rintro e wh ⟨vb, rfl, own, fr⟩; have OA := hid (OA.out.grow fr); have EA := hid own; have SD := hid (SD.out.grow fr); clear own fr))
      | (go_at_call 18; go_must (refine (implFetch_sep _ _ _ _ os es _ OA.out.own.reads EA.out.own.reads (Mild.new _ _) OL.out (by omega) EL.out).mono ?_; rintro e wi ⟨vh, rfl, own, fr⟩; rw [XS.out] at own; rw [RB.out]; have HA := hid own; have SD := hid (SD.out.grow fr); clear own fr))
      | (go_at_call 28; go_must (refine (eqObjects_any _ _ vh v5 xs _ HA.out.own.reads SD.out.s.r (by omega) (fun o ho => Nat.le_trans (X4.out o ho) (by omega))).mono ?_; rintro e wj ⟨rfl, fr⟩; have SD := hid (SD.out.grow fr); clear fr)))
    go_wp2_with (go_at_call 32; go_must (refine (heldObjects_any _ v8 1 xs _ (by rw [GX.out]; exact SD.out.g.sep.own.reads) (by omega) (fun o ho => Nat.le_trans (X4.out o ho) (by omega)) (by omega)).mono ?_; rintro e wk ⟨rfl, fr⟩; rw [KM.out]; have SD := hid (SD.out.grow fr); clear fr))
    go_ret
    exact ⟨rfl, SD.out.s.fr⟩

end Go.Proofs.Ytjgbconlpolddaa
