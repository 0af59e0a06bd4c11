/- FnWorldInvalid holds at every slice of bytes: the row, and the tied card; the variable errors.errorType reads as the program's text lays it (premise of the row, tied by the card); calm. -/
import Derived.Test.YtknoanpgadecbaaGreatDoorRows
import Derived.Test.YtknoanpgadecbaaGreatDoorCards
import Derived.Test.YtknoanpgadecbaaGreatDoorTie
import Derived.WalkKit
import Derived.ProofKit
import Derived.OpenShut
import Derived.ShutString
import Derived.ChangeOld
import Derived.Below
import Derived.LaidLaws
import Derived.LaidHandle
import Derived.StillGives
import Derived.Conc.HoldsTime
import Derived.SevenTiedAt
import Derived.Stop.Joined
import Derived.Test.YtknoanpgadecbaaGreatDoorQM12
set_option linter.unusedVariables false
set_option linter.unusedSimpArgs false
namespace Go.Proofs.YtknoanpgadecbaaGreatDoor.fnWorldInvalidDone
open Go.ChangeShapes Go.WideShapes Go.ChangeAt Go.RowKit
open Go.ChangeMaps (open_string shut_string)
set_option linter.unusedVariables false

theorem own : ownKnob Tryz.prog.godebug = none := by kernel_rfl
theorem laidOut : laidOutB Tryz.prog = true := by kernel_rfl

theorem bytes_in {w : World} {a : Option Addr} {len cap : Nat} (h : (a = none ∧ len = 0 ∧ cap = 0) ∨ ∃ (x : Addr) (zs : List Int), a = some x ∧ len ≤ cap ∧ cap ≤ maxLen ∧ zs.length = cap ∧ (∀ i, i < zs.length → w.cell? (x.add i) = some (.int .u8 (zs.getD i 0))) ∧ ∀ n ∈ zs, (Lit.int .u8 n).wf = true) :
  Bytes w.heap.size w a len cap ∧ cap ≤ maxLen := by
 rcases h with ⟨rfl, rfl, rfl⟩ | ⟨x, zs, rfl, hl, hm, hz, hc, hw⟩
 ·exact ⟨⟨Nat.le_refl _, fun h => absurd h (Nat.lt_irrefl _)⟩, Nat.zero_le _⟩
 ·refine ⟨⟨hl, fun hn => ?_⟩, hm⟩
  obtain ⟨b, off, spot⟩ := x
  have h0 := hc 0 (by omega)
  have hspot : spot = none := by simpa [Addr.add] using World.cell?_spot h0
  subst hspot
  have hadd : ∀ i, (⟨b, off, none⟩ : Addr).add i = ⟨b, off + i, none⟩ := fun i => by unfold Addr.add; split <;> simp_all
  rw [hadd] at h0
  refine ⟨b, off, rfl, World.block_lt_of_cell? _ _ h0, fun i hi => ?_⟩
  have hi' : i < zs.length := by omega
  have h1 := hc i hi'
  rw [hadd] at h1
  have h2 := hw zs[i] (List.getElem_mem hi')
  rw [List.getD_eq_getElem?_getD, List.getElem?_eq_getElem hi', Option.getD_some] at h1
  have h3 : 0 ≤ zs[i] ∧ zs[i] ≤ 255 := by
   have e1 : IntKind.u8.min = 0 := rfl
   have e2 : IntKind.u8.max = 255 := rfl
   simp [Lit.wf] at h2
   omega
  refine ⟨zs[i].toNat, by omega, ?_⟩
  rw [h1]
  congr 2
  omega

theorem leaving_of_alone {P : Program} {last : Machine} {w : World} {t : Trace} (h : aloneAtReturn P last w t) : leavingAtReturn P last w t := by
 obtain ⟨⟨h1, h2⟩, h3, h4⟩ := h
 refine ⟨h3, ⟨fun g hg => ⟨0, ?_⟩, h2⟩, h4⟩
 unfold Machine.othersDone at h1
 rw [List.all_eq_true] at h1
 exact eq_of_beq (h1 g hg)

theorem post_time {H : Type} {enc : TypeId × Value → H} {P : Program} {f : Func} {s : ChangeSpec} {F : Stop.Interp} {apart fresh handsOn : Bool} {W W' : World} {args : Array Value} {v : Value}
  (h : s.post enc P f apart fresh handsOn false W args v W') : (OpenSpec.ofChange s).postWith enc P f F (outsideKept [.timePasses]) apart fresh handsOn W args v W' := by
 obtain ⟨ds, gs, before, pr, pa, pv, h1, h2, h3, h4, h5, _⟩ := h
 refine ⟨ds, gs, before, pr, pa, pv, h1, h2, h3, h4, leftAs_later ?_, h5.2⟩
 rw [h5.1]
 exact ConcM.OsLater.refl _

noncomputable def laidWorld (os : Os) : World :=
 let w0 := World.holding Tryz.prog os ⟨#[], #[], []⟩
 { w0 with heap := w0.heap.modify 0 fun
   | .cells _ t frozen => .cells #[.iface 192 (.agg #[typeHandle Tryz.prog 110])] t frozen
   | o => o }
theorem laidWorld_met (os : Os) (args : Array Value) : laidMetH Tryz.prog Rows.fnWorldInvalidRow.laid ((laidWorld os).forCall (fun _ _ => 0) ⟨#[], args, []⟩).memory :=
 laidMetH_of_parts (laidMet_nil _ _) (by kernel_rfl)

theorem witness_calm {H : Type} {enc : TypeId × Value → H} {C : Checked} {os : Os} {f : FuncId} {fn : Func} {s : ChangeSpec} {conds : List PathCond} {apart : Bool} {X : World → Array Value → Prop} (w0 : World) (args : Array Value) (fuel : Nat) (hos : w0.os = os)
  (hv : (w0.forCall (fun _ _ => 0) ⟨#[], args, []⟩).variablesB C.prog = true)
  (hr : ((w0.forCall (fun _ _ => 0) ⟨#[], args, []⟩).heap.toList.drop C.prog.globals.size).take ((begin C.prog (fun _ _ => 0) default).world.heap.size - C.prog.globals.size) =
   (begin C.prog (fun _ _ => 0) default).world.heap.toList.drop C.prog.globals.size)
  (hok : Input.okWideB C.prog (w0.forCall (fun _ _ => 0) ⟨#[], args, []⟩) f ⟨#[], args, []⟩ = true)
  (hpre : s.preB enc C.prog fn conds apart (w0.forCall (fun _ _ => 0) ⟨#[], args, []⟩).memory args fuel = true)
  (hsz : s.sizedB enc C.prog fn apart (w0.forCall (fun _ _ => 0) ⟨#[], args, []⟩).memory args fuel = true)
  (hx : X (w0.forCall (fun _ _ => 0) ⟨#[], args, []⟩).memory args) :
  ∃ (w : World) (tape : Tape) (i : Input), w.os = os ∧ (w.forCall tape i).Shaped C.prog ∧ i.vars = [] ∧ Input.okWide C.prog (w.forCall tape i) .any w.heap.size f i ∧
   ((s.pre enc C.prog fn conds apart (w.forCall tape i).memory i.args ∧ X (w.forCall tape i).memory i.args) ∧ sizedMet enc C.prog fn (OpenSpec.ofChange s) apart (w.forCall tape i).memory i.args) ∧ ({ calm := true } : Assume).holds C.prog (lone (Frame.enter C.prog f i.args .normal) [] (w.forCall tape i)) :=
 ⟨w0, fun _ _ => 0, ⟨#[], args, []⟩, hos, World.shaped_of_B hv hr, (Input.okWide_of_okWideB (base := 0) hok).1, (Input.okWide_of_okWideB hok).2, ⟨⟨ChangeSpec.pre_of_preB hpre, hx⟩, sizedMet_of_sizedB hsz⟩, by
  simp only [Assume.holds]
  exact ⟨by simp, fun _ _ _ _ => rfl, by simp, by simp, by simp⟩⟩

set_option maxRecDepth 100000 in
theorem lifted (os : Os) (started : os.Started) (H : Type) (enc : TypeId × Value → H) :
  ReturnsInHanded { calm := true } Tryz.checked os 3 .any (fun w args => (Rows.fnWorldInvalidSpec.pre enc Tryz.prog Tryz.f3 Rows.fnWorldInvalidRow.domain false w args ∧ laidMetH Tryz.prog Rows.fnWorldInvalidRow.laid w) ∧ sizedMet enc Tryz.prog Tryz.f3 (OpenSpec.ofChange Rows.fnWorldInvalidSpec) false w args) (Rows.fnWorldInvalidSpec.post enc Tryz.prog Tryz.f3 false true false false) := by
 refine returnsInHanded_of_change_and (C := Tryz.checked) (X := fun w _ => laidMetH Tryz.prog Rows.fnWorldInvalidRow.laid w) (fun _ _ _ hh h => h.of_heap hh) own started (by kernel_rfl) Tryz.func3
  (witness_calm (enc := enc) (C := Tryz.checked) (os := os) (X := fun w _ => laidMetH Tryz.prog Rows.fnWorldInvalidRow.laid w) (laidWorld os) #[.slice none 0 0] 8 rfl (by kernel_rfl) (by kernel_rfl) (by kernel_rfl) (by kernel_rfl) (by kernel_rfl) (laidWorld_met os _)) ?_
 intro W base args ds gs before hval0 hW hcnd _ _ _
 have hval : ∀ (j : Nat) t v, Tryz.f3.params[j]? = some t → args[j]? = some v → Value.okWide Tryz.prog W .any base t v := hval0
 have hW' := hW
 obtain ⟨p, q, hA0, hV, rfl, hfz, hnd⟩ := hW
 have hA : DataW.TrodAll enc Tryz.prog W 0 (fun _ => true) true Tryz.f3.params.toList args.toList ds p := hA0
 rw [Tryz.params3] at hA hval
 obtain ⟨v0, vs0, d0, ds0, p0, q0, hargs, rfl, rfl, h0, r0⟩ := trodAll_cons hA
 obtain ⟨rfl, rfl, rfl⟩ := trodAll_nil r0
 obtain rfl : args = #[v0] := by cases args; simp_all
 obtain ⟨rfl, rfl⟩ := trodVars_none hV
 obtain ⟨a0, len0, cap0, rfl⟩ := okWide_slice Tryz.underlying22 (hval 0 22 v0 rfl rfl)
 have k0 := h0
 have lt0 : ∀ x ∈ p0, x.block < W.heap.size := by obtain ⟨m, hm⟩ := k0; exact DataW.trod_lt m _ _ _ hm
 have hb : Bytes W.heap.size W a0 len0 cap0 ∧ cap0 ≤ maxLen := by
  apply bytes_in
  obtain ⟨fuel, hf⟩ := h0
  rcases open_ints Tryz.underlying22 Tryz.underlying5 (by kernel_rfl) hf with ⟨hcs, _⟩ | ⟨x, l, c, zs, hcs, _, hl, hm, hz, _, hcell, hwz⟩
  ·simp [Value.cells] at hcs
   obtain ⟨rfl, rfl, rfl⟩ := hcs
   exact .inl ⟨rfl, rfl, rfl⟩
  ·simp [Value.cells] at hcs
   obtain ⟨rfl, rfl, rfl⟩ := hcs
   exact .inr ⟨_, zs, rfl, hl, hm, by simpa using hz, hcell, hwz⟩
 clear hA0 hval0
 refine (worldInvalid_walk hb.1 hb.2).mono fun e W' ⟨he, fr⟩ => ?_
 have bel : Below W.heap.size W W' := fr.below (Nat.le_refl _)
 subst he
 exact ⟨_, rfl, _, _, _, [], _, [], hW', trodAll_mk1 (shut_bool Tryz.underlying4 _), (trodAll_cons_mk (Below.trod laidOut (by kernel_rfl) (of_decide_eq_true (by kernel_rfl)) k0 bel lt0) trodAll_mk0), rfl, bel.frame _, fun h => by cases h⟩

theorem leaves (os : Os) (started : os.Started) (H : Type) (enc : TypeId × Value → H) (F : Stop.Interp) :
  ReturnsInLeavingWide { calm := true } Tryz.checked os 3 .any (fun w args => (Rows.fnWorldInvalidSpec.pre enc Tryz.prog Tryz.f3 Rows.fnWorldInvalidRow.domain false w args ∧ laidMetH Tryz.prog Rows.fnWorldInvalidRow.laid w) ∧ sizedMet enc Tryz.prog Tryz.f3 (OpenSpec.ofChange Rows.fnWorldInvalidSpec) false w args) ((OpenSpec.ofChange Rows.fnWorldInvalidSpec).postWith enc Tryz.prog Tryz.f3 F (outsideKept [.timePasses]) false true false) :=
 fun enter => ReturnsInOpen.mono_post (fun _ _ _ _ h => post_time h) (ReturnsInOpen.mono (fun _ _ _ h => leaving_of_alone h) (fun _ h => h) (lifted os started H enc enter))

theorem over : Rows.fnWorldInvalidRow.holds Tryz.pinned (OpenSpec.ofChange Rows.fnWorldInvalidSpec) :=
 OpenClaim.holds_of_wide_leaving_time 3 Tryz.f3 rfl rfl rfl rfl rfl rfl rfl ⟨rfl, rfl, rfl, rfl, rfl⟩ rfl rfl rfl rfl rfl (by kernel_rfl) Tryz.func3 (by kernel_rfl)
  (of_decide_eq_true (by kernel_rfl)) (by unfold Func.isWrapper; first | (rw [if_pos (by decide +kernel)]; kernel_rfl) | (rw [if_neg (by decide +kernel)]; exact ⟨rfl, rfl⟩))
  (fun os started H enc _ F => leaves os started H enc F)

theorem goes_true : Rows.fnWorldInvalidRow.goesBy Tryz.pinned.checked.prog = true := by kernel_rfl

theorem proved : Rows.FnWorldInvalidCardSaid := by
 have h6 : ∀ r : OpenClaim, Claim7.isSixth { stood := { row := r, standIns := [], harness := (true, "568768e49b9d44be8c5b7d70d421e8616788f490b42ef26404e48a1481208175"), looks := true }, kinds := [] } = false := fun r => by simp [Claim7.isSixth]
 refine ⟨Claim7.tied_new_at .later [.handle] true (Claim7.new_of_sixth over (true, "568768e49b9d44be8c5b7d70d421e8616788f490b42ef26404e48a1481208175") true rfl ⟨rfl, rfl⟩ (by kernel_rfl) (h6 _) ?_) (by kernel_rfl), (fun _ h => by cases h), fnWorldInvalid_row_tie, (fun h => by cases h), goes_true.symm⟩
 intro f fn hf hfn
 obtain rfl : f = 3 := Option.some.inj ((show Tryz.prog.funcNamed "loop.example/atomicpush/laws.FnWorldInvalid" = some 3 by kernel_rfl).symm.trans hf) |>.symm
 obtain rfl : fn = Tryz.f3 := (Option.some.inj (Tryz.func3.symm.trans hfn)).symm
 refine ⟨by kernel_rfl, fun j t ht => ?_⟩
 rw [Tryz.params3] at ht
 have h3 : t = 22 := by
  rcases j with _ | j
  ·simpa using ht.symm
  ·simp at ht
 subst h3
 exact (show Tryz.prog.wantsStandIn 22 = false by kernel_rfl)
#print axioms proved
end Go.Proofs.YtknoanpgadecbaaGreatDoor.fnWorldInvalidDone
