/- Facts of the element types; a clone of integers; whether all objects are valid. -/
import Derived.Test.YtjgbconlpolddaaQPkId
import Derived.WalkSpells
set_option linter.unusedVariables false
set_option linter.unusedSimpArgs false
namespace Go.Proofs.Ytjgbconlpolddaa
open Go.RowKit
set_option linter.unusedVariables false

theorem infoI : (Try.prog.info? 3).map (fun i => (i.zero, i.size, i.bytes)) = some (some (.int .i64 0), 1, 8) := by kernel_rfl
theorem infoOp : (Try.prog.info? 109).map (fun i => (i.zero, i.size, i.bytes)) = some (some (.agg #[.int .i64 0, .int .i64 0, .string ⟨#[]⟩]), 3, 32) := by kernel_rfl
theorem infoOb : (Try.prog.info? 40).map (fun i => (i.zero, i.size, i.bytes)) = some (some (.agg #[.int .i64 0, .slice none 0 0, .string ⟨#[]⟩]), 3, 48) := by kernel_rfl
theorem infoEn : (Try.prog.info? 32).map (fun i => (i.zero, i.size, i.bytes)) = some (some (.agg #[.int .i64 0, .slice none 0 0, .int .i64 0, .slice none 0 0]), 4, 64) := by kernel_rfl
theorem infoPp : (Try.prog.info? 67).map (fun i => (i.zero, i.size, i.bytes)) = some (some (.pointer none), 1, 8) := by kernel_rfl

theorem oneI (l : List Int) : ∀ u ∈ l.map (Value.int .i64), u.oneCell' = true := by
  intro u hu
  obtain ⟨x, _, rfl⟩ := List.mem_map.1 hu
  rfl

theorem oneOp (l : List Opn) : ∀ u ∈ l.flatMap encOp, u.oneCell' = true := by
  intro u hu
  obtain ⟨x, _, hx⟩ := List.mem_flatMap.1 hu
  simp [encOp] at hx
  rcases hx with rfl | rfl | rfl <;> rfl

theorem SlR.one {K : Nat → Bool → Prop} {E sz n : Nat} {w : World} {v : Value} {cs : List Value} (h : SlR K E sz w v n cs) : v.oneCell' = true := by
  obtain ⟨a, cap, rfl, _⟩ := h
  rfl

set_option maxRecDepth 20000 in
set_option maxHeartbeats 1000000 in
theorem cloneI_any (K : Nat → Bool → Prop) (E' : Nat) (v : Value) (n : Nat) (cs : List Value) (w : World) (hv : SlR K E' 1 w v n cs) (h1 : ∀ u ∈ cs, u.oneCell' = true) (hn : n ≤ 1000000000) :
    Calls Try.prog 38 #[v] w fun e w' => ∃ v', e = .returned v' ∧ w'.ownsRow w.heap.size 3 1 v' n cs ∧ Fr w.heap.size [] w w' := by
  obtain ⟨a, cap, rfl, h2, h3, h4, h5⟩ := id hv
  obtain ⟨iu, hui, huz0, huz1, huz2⟩ := info_parts infoI
  have heq := fun (w : World) (a : Option Addr) (n c : Nat) => Lib.run_eql_slice_nil (P := Try.prog) w 29 3 a n c 0 0 Try.underlying29
  have HV := hid hv
  clear hv h5
  cases a with
  | none =>
    obtain ⟨rfl, rfl⟩ := h4 rfl
    have hcs : cs = [] := List.eq_nil_of_length_eq_zero (by simpa using h2)
    subst hcs
    clear h4 h2
    go_enter Try.func38, Try.ntmps38
    go_wp2
    go_ret
    exact ⟨_, rfl, World.ownsRow_nil _ _ _ _, Fr.refl _ _ _⟩
  | some ad =>
    have H2 := hid h2
    clear h4 h2
    go_enter Try.func38, Try.ntmps38
    go_wp2_with (at_builtin; go_must (refine wpList_clone rfl (.tmp 5) (.tmp 6) 29 rfl 3 iu (.int .i64 0) 1 8 Try.underlying29 hui huz0 huz1 huz2 rfl (by decide) _ (by rfl) (by simp [World.setCell]) K E' _ _ _ (by rfl) HV.out h1 (by unfold maxLen; omega) (by omega) ?_; intro v2 w2 own2 fr2))
    go_ret
    exact ⟨_, rfl, own2, fr2⟩

set_option maxRecDepth 20000 in
set_option maxHeartbeats 1000000 in
theorem notOk_any (K : Nat → Bool → Prop) (v : Value) (o : Ob) (w : World) (hv : IntsR K w v o.links) (hb : o.links.length ≤ 1000000000) :
    Calls Try.prog 36 #[.agg #[.int .i64 o.kind, v, .string (tx o.text)]] w fun e w' => e = .returned (.bool (!obOk o)) ∧ Fr w.heap.size [] w w' := by
  obtain ⟨a, cap, rfl, hcap, -⟩ := hv.shape
  have HV := hid hv
  clear hv
  go_enter Try.func36, Try.ntmps36
  go_wp2_with (go_at_call 37; go_must (refine (ok_any K _ o _ (HV.out.grow ((Fr.refl 0 [] w).alloc (.cells #[.int .i64 o.kind, .slice a o.links.length cap, .string (tx o.text)] 40))) hb).mono ?_; rintro e w1 ⟨rfl, fr1⟩))
  go_ret
  exact ⟨rfl, ((Fr.refl w.heap.size [] w).alloc _).trans fr1.nil⟩

/-- Objects whose lists are not too long. -/
def ObsB (os : List Ob) : Prop := os.length ≤ 1000000000 ∧ ∀ o ∈ os, o.links.length ≤ 1000000000

set_option maxRecDepth 20000 in
set_option maxHeartbeats 1000000 in
theorem indexFunc_any (K : Nat → Bool → Prop) (v : Value) (os : List Ob) (w : World) (hv : ObsR K w v os) (hb : ObsB os) (f : Value) (hf : f = .func (.func 36) #[] #[]) :
    Calls Try.prog 73 #[v, f] w fun e w' => (∃ i : Int, e = .returned (.int .i64 i) ∧ decide (0 ≤ i) = !os.all obOk) ∧ Fr w.heap.size [] w w' := by
  subst hf
  obtain ⟨a, cap, rfl, hcap, hcell⟩ := hv.shape
  have HB := hid hb
  have hbl := hb.1
  clear hv hb
  go_enter Try.func73, Try.ntmps73
  go_wp2
  go_loopw [8] (fun i wr => ∃ k : Nat, k ≤ os.length ∧ i = .int .i64 k ∧ (os.take k).all obOk = true ∧ Fr w.heap.size [] w wr) (fun i _ => os.length - (intOf i).toNat)
  case atStart => exact ⟨0, Nat.zero_le _, rfl, rfl, Fr.refl _ _ _⟩
  case round =>
    obtain ⟨k, hk, rfl, hto, hfr⟩ := hrel
    have HT := hid hto
    clear hto
    by_cases hlt : k < os.length
    · rcases hcell with rfl | ⟨b, off, rfl, hbs, hcell⟩
      · simp at hlt
      · obtain ⟨u, h0, h1, h2, hu⟩ := hcell k hlt
        obtain ⟨ua, ucap, rfl, _, _⟩ := hu.shape
        have c0 := hfr.cell hbs h0
        have c1 := hfr.cell hbs h1
        have c2 := hfr.cell hbs h2
        have HU := hid (hu.grow hfr)
        have hki : (k : Int) < (os.length : Int) := by omega
        have hbk := HB.out.2 _ (List.getElem_mem hlt)
        clear hcell h0 h1 h2 hu
        cases g : obOk os[k]
        · have G := hid g
          have hz := hid (show os.all obOk = false by rw [List.all_eq_false]; exact ⟨os[k], List.getElem_mem hlt, by simp [g]⟩)
          clear g
          go_wp2_with (go_at_call 36; go_must (refine (notOk_any K _ os[k] _ HU.out hbk).mono ?_; rintro e w1 ⟨rfl, fr1⟩; rw [G.out]))
          go_ret
          exact ⟨⟨_, rfl, by rw [hz.out]; simp⟩, hfr.trans fr1.nil⟩
        · have G := hid g
          have hz := hid (show (os.take (k + 1)).all obOk = true by rw [List.take_succ_eq_append_getElem hlt, List.all_append, HT.out]; simp [g])
          clear g
          go_wp2_with (go_at_call 36; go_must (refine (notOk_any K _ os[k] _ HU.out hbk).mono ?_; rintro e w1 ⟨rfl, fr1⟩; rw [G.out]))
          go_roundw
          case rel => exact ⟨k + 1, by omega, by go_num, hz.out, hfr.trans fr1.nil⟩
          case measure => simp [intOf]; omega
    · obtain rfl : k = os.length := by omega
      have hz := hid (show os.all obOk = true by have := HT.out; rwa [List.take_length] at this)
      clear hcell
      go_wp2
      go_ret
      exact ⟨⟨_, rfl, by rw [hz.out]; rfl⟩, hfr⟩

set_option maxRecDepth 20000 in
set_option maxHeartbeats 1000000 in
theorem containsFunc_any (K : Nat → Bool → Prop) (v : Value) (os : List Ob) (w : World) (hv : ObsR K w v os) (hb : ObsB os) (f : Value) (hf : f = .func (.func 36) #[] #[]) :
    Calls Try.prog 35 #[v, f] w fun e w' => e = .returned (.bool (!os.all obOk)) ∧ Fr w.heap.size [] w w' := by
  subst hf
  have HV := hid hv
  have HB := hid hb
  clear hv hb
  go_enter Try.func35, Try.ntmps35
  go_wp2_with (go_at_call 73; go_must (refine (indexFunc_any K _ os _ HV.out HB.out _ rfl).mono ?_; rintro e w1 ⟨⟨i, rfl, hi⟩, fr1⟩; have HI := hid hi; clear hi))
  go_ret
  exact ⟨ret_bool HI.out, fr1⟩

end Go.Proofs.Ytjgbconlpolddaa
