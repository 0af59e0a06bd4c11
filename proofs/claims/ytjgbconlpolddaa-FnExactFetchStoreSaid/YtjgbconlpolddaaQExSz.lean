/- Sizes. -/
import Derived.Test.YtjgbconlpolddaaQM8
set_option linter.unusedVariables false
set_option linter.unusedSimpArgs false
namespace Go.Proofs.Ytjgbconlpolddaa
open Go.RowKit
set_option linter.unusedVariables false

set_option maxHeartbeats 1000000 in
theorem szInts_any (K : Nat → Bool → Prop) (v : Value) (l : List Int) (left : Int) (w : World) (hv : IntsR K w v l) (hl : l.length ≤ 9223372036854775807) (h0 : 0 ≤ left) (h1 : left ≤ 1048576) :
    Calls Try.prog 94 #[v, .int .i64 left] w fun e w' => Sz (l.length ≤ 1048576) left e ∧ w = w' := by
  obtain ⟨a, cap, rfl, hcap, -⟩ := hv.shape
  clear hv
  go_enter Try.func94, Try.ntmps94
  by_cases hlt : left - l.length < 0
  · go_wp2
    go_ret
    exact ⟨Sz.no _ _, rfl⟩
  · go_wp2
    go_ret
    exact ⟨⟨_, rfl, by omega, fun _ => ⟨by omega, by omega⟩⟩, rfl⟩

set_option maxHeartbeats 1000000 in
theorem szOp_any (o : Opn) (left : Int) (w : World) (hl : o.text.length ≤ 9223372036854775807) (h0 : 0 ≤ left) (h1 : left ≤ 1048576) :
    Calls Try.prog 111 #[.agg #[.int .i64 o.pos, .int .i64 o.size, .string (tx o.text)], .int .i64 left] w fun e w' => Sz True left e ∧ Fr w.heap.size [] w w' := by
  have hs := tx_size o.text
  have F0 := hid ((Fr.refl w.heap.size [] w).alloc (.cells #[.int .i64 o.pos, .int .i64 o.size, .string (tx o.text)] 129))
  go_enter Try.func111, Try.ntmps111
  by_cases hlt : left - o.text.length < 0
  · go_wp2
    go_ret
    exact ⟨Sz.no _ _, F0.out⟩
  · go_wp2
    go_ret
    exact ⟨⟨_, rfl, by omega, fun _ => ⟨by omega, trivial⟩⟩, F0.out⟩

set_option maxHeartbeats 1000000 in
theorem szObject_any (K : Nat → Bool → Prop) (v : Value) (o : Ob) (left : Int) (w : World) (hv : IntsR K w v o.links) (hl : o.links.length ≤ 9223372036854775807) (ht : o.text.length ≤ 9223372036854775807) (h0 : 0 ≤ left) (h1 : left ≤ 1048576) :
    Calls Try.prog 61 #[.agg #[.int .i64 o.kind, v, .string (tx o.text)], .int .i64 left] w fun e w' => Sz (o.links.length ≤ 1048576) left e ∧ Fr w.heap.size [] w w' := by
  obtain ⟨a, cap, rfl, hcap, -⟩ := hv.shape
  have hs := tx_size o.text
  have F0 := hid ((Fr.refl w.heap.size [] w).alloc (.cells #[.int .i64 o.kind, .slice a o.links.length cap, .string (tx o.text)] 88))
  have HV := hid (hv.grow F0.out)
  clear hv
  go_enter Try.func61, Try.ntmps61
  go_upto_region 2 with (go_at_call 94; go_must (refine (szInts_any K _ o.links left _ HV.out hl h0 h1).mono ?_; rintro e w1 ⟨⟨n, rfl, hn0, hn1⟩, rfl⟩; have N1 := hid hn1; clear hn1))
  by_cases hn : n < 0
  · go_wp2
    go_ret
    exact ⟨Sz.no _ _, F0.out⟩
  · obtain ⟨hnl, hol⟩ := N1.out (by omega)
    have HOL := hid hol
    clear hol
    by_cases hlt : n - o.text.length < 0
    · go_wp2
      go_ret
      exact ⟨Sz.no _ _, F0.out⟩
    · go_wp2
      go_ret
      exact ⟨⟨_, rfl, by omega, fun _ => ⟨by omega, HOL.out⟩⟩, F0.out⟩

set_option maxHeartbeats 2000000 in
theorem szObjects_any (K : Nat → Bool → Prop) (v : Value) (os : List Ob) (left : Int) (w : World) (hv : ObsR K w v os) (hl : os.length ≤ 9223372036854775807) (hb : ∀ o ∈ os, o.links.length ≤ 9223372036854775807 ∧ o.text.length ≤ 9223372036854775807) (h0 : 0 ≤ left) (h1 : left ≤ 1048576) :
    Calls Try.prog 24 #[v, .int .i64 left] w fun e w' => Sz (os.length ≤ 1048576 ∧ ∀ o ∈ os, o.links.length ≤ 1048576) left e ∧ Fr w.heap.size [] w w' := by
  obtain ⟨a, cap, rfl, hcap, hcell⟩ := hv.shape
  have HC := hid hcell
  have HB := hid hb
  clear hv hcell hb
  go_enter Try.func24, Try.ntmps24
  by_cases hlt : left - os.length < 0
  · go_wp2
    go_ret
    exact ⟨Sz.no _ _, Fr.refl _ _ _⟩
  · go_wp2
    go_loopw [1, 5] (fun vl vi wx => ∃ (k : Nat) (n : Int), k ≤ os.length ∧ vi = .int .i64 k ∧ vl = .int .i64 n ∧ 0 ≤ n ∧ n ≤ left ∧ (∀ o ∈ os.take k, o.links.length ≤ 1048576) ∧ Fr w.heap.size [] w wx) (fun _ vi _ => os.length - (intOf vi).toNat)
    case atStart => exact ⟨0, _, Nat.zero_le _, rfl, rfl, by omega, by omega, fun o ho => by simp at ho, Fr.refl _ _ _⟩
    case round =>
      obtain ⟨k, n, hk, rfl, rfl, hn0, hn1, hto, hfr⟩ := hrel
      have TO := hid hto
      clear hto
      by_cases hkl : k < os.length
      · rcases HC.out with h | ⟨b, off, rfl, hbs, hcell⟩
        · rw [h] at hkl; simp at hkl
        obtain ⟨u, x0, x1, x2, hu⟩ := hcell k hkl
        obtain ⟨ua, ucap, rfl, _, _⟩ := hu.shape
        have c0 := hfr.cell hbs x0
        have c1 := hfr.cell hbs x1
        have c2 := hfr.cell hbs x2
        have HU := hid (hu.grow hfr)
        have hbk := HB.out _ (List.getElem_mem hkl)
        obtain ⟨hb1, hb2⟩ := hbk
        have hki : (k : Int) < (os.length : Int) := by omega
        have TS := hid (fun h : os[k].links.length ≤ 1048576 => show ∀ o ∈ os.take (k + 1), o.links.length ≤ 1048576 by
          rw [List.take_succ_eq_append_getElem hkl]
          intro o ho
          rcases List.mem_append.1 ho with ho | ho
          · exact TO.out o ho
          · simp at ho; subst ho; exact h)
        clear hcell x0 x1 x2 hu
        generalize os[k] = o at *
        go_upto_region 8 with (go_at_call 61; go_must (refine (szObject_any K _ o n _ HU.out hb1 hb2 hn0 (by omega)).mono ?_; rintro e w1 ⟨⟨m, rfl, hm0, hm1⟩, fr1⟩; have M1 := hid hm1; have F1 := hid (hfr.trans fr1.nil); clear hm1 fr1))
        by_cases hm : m < 0
        · go_wp2
          go_ret
          exact ⟨Sz.no _ _, F1.out⟩
        · obtain ⟨hml, hol⟩ := M1.out (by omega)
          have T2 := hid (TS.out hol)
          clear hol
          go_wp2
          go_roundw
          case rel => exact ⟨k + 1, m, by omega, by go_num, rfl, by omega, by omega, T2.out, F1.out⟩
          case measure => simp [intOf]; omega
      · obtain rfl : k = os.length := by omega
        go_wp2
        go_ret
        exact ⟨⟨n, rfl, by omega, fun _ => ⟨by omega, by omega, by have := TO.out; rwa [List.take_length] at this⟩⟩, hfr⟩

/-- Data that is not too long to be counted. -/
def OpsM (ops : List Opn) : Prop := ops.length ≤ 9223372036854775807 ∧ ∀ o ∈ ops, o.text.length ≤ 9223372036854775807

set_option maxHeartbeats 2000000 in
theorem szOps_any (K : Nat → Bool → Prop) (v : Value) (l : List Opn) (left : Int) (w : World) (hv : OpsR K w v l) (hb : OpsM l) (h0 : 0 ≤ left) (h1 : left ≤ 1048576) :
    Calls Try.prog 95 #[v, .int .i64 left] w fun e w' => Sz (l.length ≤ 1048576) left e ∧ Fr w.heap.size [] w w' := by
  obtain ⟨a, cap, rfl, hcap, hcell⟩ := hv.shape
  have HC := hid hcell
  have HB := hid hb.2
  have hl := hb.1
  clear hv hcell hb
  go_enter Try.func95, Try.ntmps95
  by_cases hlt : left - l.length < 0
  · go_wp2
    go_ret
    exact ⟨Sz.no _ _, Fr.refl _ _ _⟩
  · go_wp2
    go_loopw [1, 5] (fun vl vi wx => ∃ (k : Nat) (n : Int), k ≤ l.length ∧ vi = .int .i64 k ∧ vl = .int .i64 n ∧ 0 ≤ n ∧ n ≤ left ∧ Fr w.heap.size [] w wx) (fun _ vi _ => l.length - (intOf vi).toNat)
    case atStart => exact ⟨0, _, Nat.zero_le _, rfl, rfl, by omega, by omega, Fr.refl _ _ _⟩
    case round =>
      obtain ⟨k, n, hk, rfl, rfl, hn0, hn1, hfr⟩ := hrel
      by_cases hkl : k < l.length
      · rcases HC.out with h | ⟨b, off, rfl, hbs, hcell⟩
        · rw [h] at hkl; simp at hkl
        obtain ⟨x0, x1, x2⟩ := hcell k hkl
        have c0 := hfr.cell hbs x0
        have c1 := hfr.cell hbs x1
        have c2 := hfr.cell hbs x2
        have hbk := HB.out _ (List.getElem_mem hkl)
        have hki : (k : Int) < (l.length : Int) := by omega
        clear hcell x0 x1 x2
        generalize l[k] = o at *
        go_upto_region 8 with (go_at_call 111; go_must (refine (szOp_any o n _ hbk hn0 (by omega)).mono ?_; rintro e w1 ⟨⟨m, rfl, hm0, hm1⟩, fr1⟩; have M1 := hid hm1; have F1 := hid (hfr.trans fr1.nil); clear hm1 fr1))
        by_cases hm : m < 0
        · go_wp2
          go_ret
          exact ⟨Sz.no _ _, F1.out⟩
        · obtain ⟨hml, -⟩ := M1.out (by omega)
          go_wp2
          go_roundw
          case rel => exact ⟨k + 1, m, by omega, by go_num, rfl, by omega, by omega, F1.out⟩
          case measure => simp [intOf]; omega
      · obtain rfl : k = l.length := by omega
        go_wp2
        go_ret
        exact ⟨⟨n, rfl, by omega, fun _ => ⟨by omega, by omega⟩⟩, hfr⟩

def EnM (e : En) : Prop := e.links.length ≤ 9223372036854775807 ∧ OpsM e.ops

set_option maxHeartbeats 2000000 in
theorem szEntry_any (K : Nat → Bool → Prop) (v vp : Value) (en : En) (left : Int) (w : World) (hv : IntsR K w v en.links) (hp : OpsR K w vp en.ops) (hb : EnM en) (h0 : 0 ≤ left) (h1 : left ≤ 1048576) :
    Calls Try.prog 62 #[.agg #[.int .i64 en.kind, v, .int .i64 en.base, vp], .int .i64 left] w fun e w' => Sz (en.links.length ≤ 1048576 ∧ en.ops.length ≤ 1048576) left e ∧ Fr w.heap.size [] w w' := by
  obtain ⟨a, cap, rfl, hcap, -⟩ := hv.shape
  obtain ⟨a', cap', rfl, hcap', -⟩ := hp.shape
  have F0 := hid ((Fr.refl w.heap.size [] w).alloc (.cells #[.int .i64 en.kind, .slice a en.links.length cap, .int .i64 en.base, .slice a' en.ops.length cap'] 92))
  have B0 := hid (heap_alloc_new w (.cells #[.int .i64 en.kind, .slice a en.links.length cap, .int .i64 en.base, .slice a' en.ops.length cap'] 92))
  have HV := hid (hv.grow F0.out)
  have HP := hid (hp.grow F0.out)
  have HL := hid hb.1
  have HO := hid hb.2
  clear hv hp hb
  go_enter Try.func62, Try.ntmps62
  go_upto_region 2 with (go_at_call 94; go_must (refine (szInts_any K _ en.links left _ HV.out HL.out h0 h1).mono ?_; rintro e w1 ⟨⟨n, rfl, hn0, hn1⟩, rfl⟩; have N1 := hid hn1; clear hn1))
  by_cases hn : n < 0
  · go_wp2
    go_ret
    exact ⟨Sz.no _ _, F0.out⟩
  · obtain ⟨hnl, hol⟩ := N1.out (by omega)
    have HOL := hid hol
    clear hol
    go_upto_region 5 with (go_at_call 95; go_must (refine (szOps_any K _ en.ops n _ HP.out HO.out (by omega) (by omega)).mono ?_; rintro e w2 ⟨⟨m, rfl, hm0, hm1⟩, fr2⟩; have M1 := hid hm1; have F2 := hid (F0.out.trans fr2.nil); clear hm1 fr2))
    by_cases hm : m < 0
    · go_wp2
      go_ret
      exact ⟨Sz.no _ _, F2.out⟩
    · obtain ⟨hml, hpl⟩ := M1.out (by omega)
      have HPL := hid hpl
      clear hpl
      go_wp2
      go_ret
      exact ⟨⟨_, rfl, by omega, fun _ => ⟨by omega, HOL.out, HPL.out⟩⟩, F2.out⟩

set_option maxHeartbeats 2000000 in
theorem szEntries_any (K : Nat → Bool → Prop) (v : Value) (es : List En) (left : Int) (w : World) (hv : EnsR K w v es) (hl : es.length ≤ 9223372036854775807) (hb : ∀ e ∈ es, EnM e) (h0 : 0 ≤ left) (h1 : left ≤ 1048576) :
    Calls Try.prog 25 #[v, .int .i64 left] w fun e w' => Sz (es.length ≤ 1048576 ∧ ∀ e ∈ es, e.links.length ≤ 1048576 ∧ e.ops.length ≤ 1048576) left e ∧ Fr w.heap.size [] w w' := by
  obtain ⟨a, cap, rfl, hcap, hcell⟩ := hv.shape
  have HC := hid hcell
  have HB := hid hb
  clear hv hcell hb
  go_enter Try.func25, Try.ntmps25
  by_cases hlt : left - es.length < 0
  · go_wp2
    go_ret
    exact ⟨Sz.no _ _, Fr.refl _ _ _⟩
  · go_wp2
    go_loopw [1, 5] (fun vl vi wx => ∃ (k : Nat) (n : Int), k ≤ es.length ∧ vi = .int .i64 k ∧ vl = .int .i64 n ∧ 0 ≤ n ∧ n ≤ left ∧ (∀ o ∈ es.take k, o.links.length ≤ 1048576 ∧ o.ops.length ≤ 1048576) ∧ Fr w.heap.size [] w wx) (fun _ vi _ => es.length - (intOf vi).toNat)
    case atStart => exact ⟨0, _, Nat.zero_le _, rfl, rfl, by omega, by omega, fun o ho => by simp at ho, Fr.refl _ _ _⟩
    case round =>
      obtain ⟨k, n, hk, rfl, rfl, hn0, hn1, hto, hfr⟩ := hrel
      have TO := hid hto
      clear hto
      by_cases hkl : k < es.length
      · rcases HC.out with h | ⟨b, off, rfl, hbs, hcell⟩
        · rw [h] at hkl; simp at hkl
        obtain ⟨u, p, x0, x1, x2, x3, hu, hp⟩ := hcell k hkl
        obtain ⟨ua, ucap, rfl, _, _⟩ := hu.shape
        obtain ⟨pa, pcap, rfl, _, _⟩ := hp.shape
        have c0 := hfr.cell hbs x0
        have c1 := hfr.cell hbs x1
        have c2 := hfr.cell hbs x2
        have c3 := hfr.cell hbs x3
        have HU := hid (hu.grow hfr)
        have HP := hid (hp.grow hfr)
        have BK := hid (HB.out _ (List.getElem_mem hkl))
        have hki : (k : Int) < (es.length : Int) := by omega
        have TS := hid (fun h : es[k].links.length ≤ 1048576 ∧ es[k].ops.length ≤ 1048576 => show ∀ o ∈ es.take (k + 1), o.links.length ≤ 1048576 ∧ o.ops.length ≤ 1048576 by
          rw [List.take_succ_eq_append_getElem hkl]
          intro o ho
          rcases List.mem_append.1 ho with ho | ho
          · exact TO.out o ho
          · simp at ho; subst ho; exact h)
        clear hcell x0 x1 x2 x3 hu hp
        generalize es[k] = o at *
        go_upto_region 8 with (go_at_call 62; go_must (refine (szEntry_any K _ _ o n _ HU.out HP.out BK.out hn0 (by omega)).mono ?_; rintro e w1 ⟨⟨m, rfl, hm0, hm1⟩, fr1⟩; have M1 := hid hm1; have F1 := hid (hfr.trans fr1.nil); clear hm1 fr1))
        by_cases hm : m < 0
        · go_wp2
          go_ret
          exact ⟨Sz.no _ _, F1.out⟩
        · obtain ⟨hml, hol⟩ := M1.out (by omega)
          have T2 := hid (TS.out hol)
          clear hol
          go_wp2
          go_roundw
          case rel => exact ⟨k + 1, m, by omega, by go_num, rfl, by omega, by omega, T2.out, F1.out⟩
          case measure => simp [intOf]; omega
      · obtain rfl : k = es.length := by omega
        go_wp2
        go_ret
        exact ⟨⟨n, rfl, by omega, fun _ => ⟨by omega, by omega, by have := TO.out; rwa [List.take_length] at this⟩⟩, hfr⟩

end Go.Proofs.Ytjgbconlpolddaa
