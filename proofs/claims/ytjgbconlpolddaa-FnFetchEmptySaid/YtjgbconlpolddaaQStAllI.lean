/- The program's storeAll and FetchStore. -/
import Derived.Test.YtjgbconlpolddaaQStPutI
import Derived.Test.YtjgbconlpolddaaQM6
set_option linter.unusedVariables false
set_option linter.unusedSimpArgs false
namespace Go.Proofs.Ytjgbconlpolddaa
open Go.RowKit
set_option linter.unusedVariables false

/-- What a pack stores. -/
def fetch (os : List Ob) (es : List En) : Option (List Ob) := match unpack es with | some list => if stOk os = true then putAll os list else none | none => none

theorem none_of {lo : Nat} {w' : World} {es : List En} {e : Ending} (hu : unpack es = none) (h : (unpack es = none ∧ e = .returned (.tuple #[.slice none 0 0, .bool false])) ∨ ∃ os v', unpack es = some os ∧ e = .returned (.tuple #[v', .bool true]) ∧ ObsOwn lo w' v' os) : e = .returned (.tuple #[.slice none 0 0, .bool false]) := by
  rcases h with ⟨_, h⟩ | ⟨os', v', h1, _⟩
  · exact h
  · rw [hu] at h1; cases h1

set_option maxRecDepth 20000 in
set_option maxHeartbeats 4000000 in
theorem implAll_any (K K' : Nat → Bool → Prop) (v vl : Value) (os list : List Ob) (w : World) (hv : ObsR K w v os) (hl : ObsR K' w vl list) (hok : stOk os = true) (hlo : ∀ o ∈ list, obOk o = true) (hll : list.length ≤ 1000000) :
    Calls Try.prog 54 #[v, vl] w fun e w' => ∃ v', e = .returned (.tuple #[v', .bool (putAll os list).isSome]) ∧ ObsOwn w.heap.size w' v' ((putAll os list).getD []) ∧ Fr w.heap.size [] w w' := by
  obtain ⟨a, cap, rfl, hcap, -⟩ := hv.shape
  obtain ⟨a', cap', rfl, hcap', hcell⟩ := hl.shape
  have hl16 := (stOk_iff.1 hok).1
  have hob : ∀ p ∈ os, p.links.length ≤ 1000000000 := fun p hp => by have := (obOk_len ((stOk_iff.1 hok).2.1 p hp)).1; omega
  have HOB := hid hob
  have HV := hid hv
  have HC := hid hcell
  have OK := hid hok
  have LO := hid hlo
  have PE := hid (show putAll os list = putTo os list list.length from rfl)
  generalize putAll os list = R at *
  clear hv hl hcell hob hok hlo
  go_enter Try.func54, Try.ntmps54
  go_wp2_with (go_at_call 60; go_must (refine (copyObjects_any _ _ os _ HV.out HOB.out (by omega)).mono ?_; rintro e w3 ⟨v3, rfl, own3, fr3⟩; have F3 := hid fr3; have OWN3 := hid own3; clear fr3 own3))
  go_loopw [6, 15] (fun vo vi wx => ∃ (k : Nat) (xs : List Ob), k ≤ list.length ∧ vi = .int .i64 k ∧ putTo os list k = some xs ∧ ObsOwn w.heap.size wx vo xs ∧ Fr w.heap.size [] w wx) (fun _ vi _ => list.length - (intOf vi).toNat)
  case atStart => exact ⟨0, os, Nat.zero_le _, rfl, rfl, OWN3.out, F3.out⟩
  case round =>
    obtain ⟨k, xs, hk, rfl, hto, hown, hfr⟩ := hrel
    have TO := hid hto
    have OWN := hid hown
    have XOK := hid (putTo_ok OK.out LO.out hk hto).1
    have hwr := hfr.size
    obtain ⟨va, vcap, rfl, _, _⟩ := hown.reads.shape
    clear hto hown
    by_cases hlt : k < list.length
    · rcases HC.out with hh | ⟨b, off, rfl, hbs, hcell⟩
      · rw [hh] at hlt; cases hlt
      · obtain ⟨u, h0, h1, h2, hu⟩ := hcell k hlt
        obtain ⟨ua, ucap, rfl, _, _⟩ := hu.shape
        have c0 := hfr.cell hbs h0
        have c1 := hfr.cell hbs h1
        have c2 := hfr.cell hbs h2
        have HU := hid (hu.grow hfr)
        have hki : (k : Int) < (list.length : Int) := by omega
        have OO := hid (LO.out _ (List.getElem_mem hlt))
        have SU := hid (putTo_succ hlt TO.out)
        have NN := hid (fun h => putTo_none (os := os) (list := list) (k := k + 1) h list.length hlt)
        clear h0 h1 h2 hu hcell
        generalize list[k] = o at *
        have FB := hid ((Fr.refl wr.heap.size [] wr).alloc (.cells #[.int .i64 o.kind, .slice ua o.links.length ucap, .string (tx o.text)] 40))
        obtain ⟨px, pb, hpp⟩ : ∃ px pb, put xs o = (px, pb) := ⟨_, _, rfl⟩
        have SU := hid (show putTo os list (k + 1) = if pb = true then some px else none by rw [SU.out, hpp])
        cases pb
        · have NO := hid (show R = none from by rw [PE.out]; exact NN.out (by rw [SU.out]; rfl))
          clear SU NN
          go_wp2_with (go_at_call 85; go_must (refine (implPut_any _ _ _ _ xs o _ (OWN.out.grow FB.out).reads (HU.out.grow FB.out) XOK.out OO.out).mono ?_; rintro e w4 ⟨v4, rfl, own4, fr4⟩; rw [hpp]; have F4 := hid (hfr.trans (FB.out.trans fr4.nil).nil); clear fr4 own4))
          go_ret2
          refine ⟨.slice none 0 0, ?_, ?_, F4.out⟩
          · rw [NO.out]; rfl
          · rw [NO.out]; exact ObsOwn.nil _ _
        · have NX := hid (show putTo os list (k + 1) = some px from by rw [SU.out]; rfl)
          clear SU NN
          go_wp2_with (go_at_call 85; go_must (refine (implPut_any _ _ _ _ xs o _ (OWN.out.grow FB.out).reads (HU.out.grow FB.out) XOK.out OO.out).mono ?_; rintro e w4 ⟨v4, rfl, own4, fr4⟩; rw [hpp] at own4; rw [hpp]; have OWN4 := hid own4; have F4 := hid (hfr.trans (FB.out.trans fr4.nil).nil); clear fr4 own4))
          go_roundw
          case rel => exact ⟨k + 1, px, by omega, by go_num, NX.out, OWN4.out.lower (by simp; omega), F4.out⟩
          case measure => simp [intOf]; omega
    · obtain rfl : k = list.length := by omega
      have RS := hid (show R = some xs from by rw [PE.out, TO.out])
      go_wp2
      go_ret2
      refine ⟨.slice va xs.length vcap, ?_, ?_, hfr⟩
      · have e := RS.out
        subst e
        rfl
      · rw [RS.out]; exact OWN.out

set_option maxRecDepth 20000 in
set_option maxHeartbeats 4000000 in
theorem implFetch_any (K K' : Nat → Bool → Prop) (v vp : Value) (os : List Ob) (es : List En) (w : World) (hv : ObsR K w v os) (hp : EnsR K' w vp es) (hm : Mild K' w.heap.size) (hob : ∀ p ∈ os, p.links.length ≤ 1000000000) (hol : os.length ≤ 1000000000) (hbl : ∀ e ∈ es, e.links.length ≤ 1000000000) :
    Calls Try.prog 18 #[v, vp] w fun e w' => ∃ v', e = .returned (.tuple #[v', .bool (fetch os es).isSome]) ∧ ObsOwn w.heap.size w' v' ((fetch os es).getD []) ∧ Fr w.heap.size [] w w' := by
  obtain ⟨a, cap, rfl, hcap, -⟩ := hv.shape
  obtain ⟨a', cap', rfl, hcap', -⟩ := hp.shape
  have HV := hid hv
  have HP := hid hp
  have HOB := hid hob
  have HBL := hid hbl
  have FE := hid (show fetch os es = (match unpack es with | some list => if stOk os = true then putAll os list else none | none => none) from rfl)
  generalize fetch os es = R at *
  clear hv hp hob hbl
  cases hu : unpack es with
  | none =>
    have HU := hid hu
    have NO := hid (show R = none by rw [FE.out, hu])
    clear FE hu
    go_enter Try.func18, Try.ntmps18
    go_wp2_with (go_at_call 13; go_must (refine (implPackObjects_any K' _ es _ HP.out hm HBL.out).mono ?_; rintro e w1 ⟨fr1, hres⟩; obtain rfl := none_of HU.out hres; have F1 := hid fr1; clear fr1 hres))
    go_ret2
    refine ⟨.slice none 0 0, ?_, ?_, F1.out⟩
    · rw [NO.out]; rfl
    · rw [NO.out]; exact ObsOwn.nil _ _
  | some list =>
    obtain ⟨hl, hll, hlok⟩ := unpack_ok hu
    have HU := hid hu
    have LOK := hid hlok
    have FE2 := hid (show R = if stOk os = true then putAll os list else none by rw [FE.out, hu])
    clear FE hu hlok
    cases hok : stOk os
    · have OK := hid hok
      have NO := hid (show R = none by rw [FE2.out, hok]; rfl)
      clear FE2 hok
      go_enter Try.func18, Try.ntmps18
      go_wp2_with (first
        | (go_at_call 13; go_must (refine (implPackObjects_any K' _ es _ HP.out hm HBL.out).mono ?_; rintro e w1 ⟨fr1, hres⟩; obtain ⟨v1, rfl, own1⟩ := unpacked_of HU.out hres; have F1 := hid fr1; clear fr1 hres own1))
        | (go_at_call 23; go_must (refine (implStoreValid_any _ _ os _ (HV.out.grow F1.out) HOB.out hol).mono ?_; rintro e w2 ⟨rfl, fr2⟩; rw [OK.out]; have F2 := hid (F1.out.trans fr2.nil); clear fr2)))
      go_ret2
      refine ⟨.slice none 0 0, ?_, ?_, F2.out⟩
      · rw [NO.out]; rfl
      · rw [NO.out]; exact ObsOwn.nil _ _
    · have OK := hid hok
      have RS := hid (show R = putAll os list by rw [FE2.out, hok]; rfl)
      clear FE2 hok
      go_enter Try.func18, Try.ntmps18
      go_wp2_with (first
        | (go_at_call 13; go_must (refine (implPackObjects_any K' _ es _ HP.out hm HBL.out).mono ?_; rintro e w1 ⟨fr1, hres⟩; obtain ⟨v1, rfl, own1⟩ := unpacked_of HU.out hres; have F1 := hid fr1; have OWN1 := hid own1; clear fr1 hres own1))
        | (go_at_call 23; go_must (refine (implStoreValid_any _ _ os _ (HV.out.grow F1.out) HOB.out hol).mono ?_; rintro e w2 ⟨rfl, fr2⟩; rw [OK.out]; have F2 := hid (F1.out.trans fr2.nil); have OWN2 := hid (OWN1.out.grow fr2); clear fr2))
        | (go_at_call 54; go_must (refine (implAll_any _ _ _ _ os list _ (HV.out.grow F2.out) OWN2.out.reads OK.out LOK.out (by omega)).mono ?_; rintro e w3 ⟨v3, rfl, own3, fr3⟩; have F3 := hid (F2.out.trans fr3.nil); have OWN3 := hid own3; have hs := F2.out.size; clear fr3 own3)))
      go_ret2
      refine ⟨v3, ?_, ?_, F3.out⟩
      · have e := RS.out
        subst e
        rfl
      · rw [RS.out]; exact OWN3.out.lower hs

end Go.Proofs.Ytjgbconlpolddaa
