/- (Txn).ok, a loop of it (printed by py/mkCoTnOk.py). -/
import Derived.Test.YtknoanpgadecbaaGreatDoorQM5
set_option linter.unusedVariables false
set_option linter.unusedSimpArgs false
namespace Go.Proofs.YtknoanpgadecbaaGreatDoor
open Go.RowKit Go.Conc
set_option linter.unusedVariables false

set_option maxRecDepth 20000 in
set_option maxHeartbeats 4000000 in
theorem txnOk_no (lo : Nat) (t : Tn) (pv vv : Value) (w : World) (hp : PartsR lo w pv t.parts) (hv : IntsR (new lo) w vv t.votes) (hi : TnI t) (hno : (partsOk t.parts && (t.votes.length == t.parts.length)) = false) :
  Calls Tryz.prog 37 #[.agg #[pv, vv, .int .i64 t.dec]] w fun e w' => e = .returned (.bool false) ∧ Fr w.heap.size [] w w' := by
 obtain ⟨pa, pcap, rfl, hpc, -⟩ := hp.shape
 obtain ⟨va, vcap, rfl, hvc, -⟩ := hv.shape
 have HP := hid hp
 have HI := hid hi
 have hul : ∀ p ∈ t.parts, p.ups.length ≤ 1000000000 := fun p h => by have := (hi.1 p h).2; omega
 have hpl : t.parts.length ≤ 1000000000 := by have := hi.2.1; omega
 have hl1 := hi.2.1
 have hl2 := hi.2.2.1
 have HUL := hid hul
 clear hp hv hi hul
 have FX := hid ((Fr.refl w.heap.size [] w).alloc (.cells #[.slice pa t.parts.length pcap, .slice va t.votes.length vcap, .int .i64 t.dec] 74))
 have BX := hid (heap_alloc_new w (.cells #[.slice pa t.parts.length pcap, .slice va t.votes.length vcap, .int .i64 t.dec] 74))
 cases g1 : partsOk t.parts
 ·have G1 := hid g1
  clear g1 hno
  go_enter Tryz.func37, Tryz.ntmps37
  go_wp2_with (go_at_call 80; go_must (refine (implPartsOk_any lo _ t.parts _ (HP.out.grow FX.out) hpl HUL.out).mono ?_; rintro e w1 ⟨rfl, fr1⟩; rw [G1.out]))
  go_ret
  exact ⟨rfl, FX.out.trans fr1.nil⟩
 ·have G1 := hid g1
  have hne : ¬ (t.votes.length : Int) = (t.parts.length : Int) := by
   intro e
   have : t.votes.length = t.parts.length := by omega
   rw [g1, this] at hno; simp at hno
  clear g1 hno
  go_enter Tryz.func37, Tryz.ntmps37
  go_wp2_with (go_at_call 80; go_must (refine (implPartsOk_any lo _ t.parts _ (HP.out.grow FX.out) hpl HUL.out).mono ?_; rintro e w1 ⟨rfl, fr1⟩; rw [G1.out]; have BX1 := fr1.keep _ _ BX.out (.inr (by simp)); have c0 := cell_of (o := 0) BX1 rfl; have c1 := cell_of (o := 1) BX1 rfl; clear BX1))
  go_ret
  exact ⟨rfl, FX.out.trans fr1.nil⟩

set_option maxRecDepth 20000 in
set_option maxHeartbeats 4000000 in
theorem txnOk_yes (lo : Nat) (t : Tn) (pv vv : Value) (w : World) (hp : PartsR lo w pv t.parts) (hv : IntsR (new lo) w vv t.votes) (hi : TnI t) (hpo : partsOk t.parts = true) (hle : t.votes.length = t.parts.length) :
  Calls Tryz.prog 37 #[.agg #[pv, vv, .int .i64 t.dec]] w fun e w' => e = .returned (.bool (tnOkI t)) ∧ Fr w.heap.size [] w w' := by
 obtain ⟨pa, pcap, rfl, hpc, -⟩ := hp.shape
 obtain ⟨va, vcap, rfl, hvc, hcell⟩ := hv.shape
 have HP := hid hp
 have HUL := hid (show ∀ p ∈ t.parts, p.ups.length ≤ 1000000000 from fun p h => by have := (hi.1 p h).2; omega)
 have hpl : t.parts.length ≤ 1000000000 := by have := hi.2.1; omega
 have hl1 := hi.2.1
 have hl2 := hi.2.2.1
 have HVB := hid hi.2.2.2
 have HPO := hid hpo
 have HLE := hid hle
 have HC := hid hcell
 clear hp hv hi hpo hcell
 have hli : ((t.votes.length : Int) != (t.parts.length : Int)) = false := by rw [hle]; simp
 clear hle
 have FX := hid ((Fr.refl w.heap.size [] w).alloc (.cells #[.slice pa t.parts.length pcap, .slice va t.votes.length vcap, .int .i64 t.dec] 74))
 have BX := hid (heap_alloc_new w (.cells #[.slice pa t.parts.length pcap, .slice va t.votes.length vcap, .int .i64 t.dec] 74))
 generalize hRR : (fun (e : Ending) (w' : World) => e = .returned (.bool (tnOkI t)) ∧ Fr w.heap.size [] w w') = R
 refine calls_of_loneTo (fun cs => ?_) (by subst hRR; rintro _ ⟨h, _⟩; cases h)
 have e : Frame.enter Tryz.prog 37 #[.agg #[.slice pa t.parts.length pcap, .slice va t.votes.length vcap, .int .i64 t.dec]] .normal = (base 37).at ⟨#[.agg #[.slice pa t.parts.length pcap, .slice va t.votes.length vcap, .int .i64 t.dec], undef, undef, undef, undef, undef, undef, undef, undef, undef, undef, undef, undef, undef, undef, undef, undef, undef, undef, undef, undef, undef, undef, undef, undef, undef, undef, undef, undef, undef, undef, undef, undef, undef, undef, undef, undef, undef, undef, undef, undef, undef, undef, undef, undef, undef, undef, undef, undef, undef, undef, undef, undef, undef, undef, undef, undef, undef, undef, undef, undef, undef, undef, undef, undef, undef, undef, undef, undef, undef, undef, undef, undef, undef, undef, undef, undef, undef, undef, undef, undef, undef, undef, undef, undef, undef, undef], []⟩ [.code (Tryz.f37.body.getD .skip)] := by
  exact enter_at Tryz.func37 Tryz.ntmps37 (by kernel_rfl) rfl
 rw [e]
 simp only [Tryz.f37, Option.getD_some]
 refine LT.seq (LT.code ?_)
 go_wp2
 simp only [LTP]
 refine LT.seq (LT.code ?_)
 go_wp2_with (go_at_call 80; go_must (refine (implPartsOk_any lo _ t.parts _ (HP.out.grow FX.out) hpl HUL.out).mono ?_; rintro e w1 ⟨rfl, fr1⟩; rw [HPO.out]; have BX1 := hid (fr1.keep _ _ BX.out (.inr (by simp))); have c0 := cell_of (o := 0) BX1.out rfl; have c1 := cell_of (o := 1) BX1.out rfl; have F1 := hid (FX.out.trans fr1.nil)))
 simp only [LTP]
 have hmk := mkChan t.votes.length (by omega) w1
 refine LT.seq (LT.code ?_)
 go_wp2
 simp only [LTP]
 have hX1 : w.heap.size < w1.heap.size := lt_of_get BX1.out
 have BX2 := hid (heap_up BX1.out (.chan t.votes.length #[] false 0 0 false))
 have CH := hid (heap_alloc_new w1 (.chan t.votes.length #[] false 0 0 false))
 have F2 := hid (F1.out.alloc (.chan t.votes.length #[] false 0 0 false))
 clear hmk c0 c1 e fr1 F1 FX BX HP HUL
 clear BX1
 generalize w1.alloc (.chan t.votes.length #[] false 0 0 false) = w2 at *
 generalize w1.heap.size = c at *
 have c1 := cell_of (o := 1) BX2.out rfl
 refine LT.seq (LT.seq (LT.code ?_))
 go_wp2
 simp only [LTP]
 clear c1
 refine LT.block ?_
 refine LT.rounds (OkI1 w (.slice pa t.parts.length pcap) va vcap t w.heap.size c) t.votes.length (by unfold OkI1; exact ⟨⟨_, _, _, _, _, _, _, _, _, _, _, _, _, _, _, _, _, _, _, _, _, _, _, _, _, _, _, _, _, _, _, _, _, _, _, _, _, _, _, _, _, _, _, _, _, _, _, _, _, _, _, _, _, _, _, _, _, _, _, _, _, _, _, _, _, _, _, _, _, _, _, _, _, _, _, _, _, _, _, _, _, _, rfl⟩, F2.out, BX2.out, 0, by simpa using CH.out⟩) (fun k a wr hk hI next => ?_) (fun a wr hI => ?_)
 ·exact txnR1 _ w _ va vcap t c k a wr hk hl2 hX1 HC hI fun a' w' h => LT.inLoop (next a' w' h)
 ·unfold OkI1 at hI
  obtain ⟨⟨s0, s2, s4, s5, s6, s7, s8, s9, s10, s11, s12, s13, s14, s15, s16, s17, s18, s19, s20, s21, s22, s23, s24, s25, s26, s27, s28, s32, s33, s34, s35, s36, s37, s38, s39, s40, s41, s42, s43, s44, s45, s46, s47, s48, s49, s50, s51, s52, s53, s54, s55, s56, s57, s58, s59, s60, s61, s62, s63, s64, s65, s66, s67, s68, s69, s70, s71, s72, s73, s74, s75, s76, s77, s78, s79, s80, s81, s82, s83, s84, s85, s86, rfl⟩, hf, hb, s, hch⟩ := hI
  rw [List.take_length] at hch
  have HCH := hid hch
  have HF := hid hf
  have HB := hid hb
  clear hch hf hb F2 CH BX2 HC
  refine LT.seq (LT.code ?_)
  go_wp2
  simp only [LTP]
  refine LT.seq (LT.code ?_)
  go_wp2
  refine ⟨_, rfl, ?_⟩
  have hcl := fun ats ty => run_close_open (P := Tryz.prog) (w := wr) ats ty HCH.out
  refine LT.seq (LT.code ?_)
  go_wp2
  simp only [LTP]
  have HS := hid (heap_setChan wr c t.votes.length (t.votes.map (Value.int .i64)).toArray true s 0 false (lt_of_get HCH.out))
  have HB2 := hid (setChan_ne HB.out (show w.heap.size ≠ c by omega) t.votes.length (t.votes.map (Value.int .i64)).toArray true s 0 false)
  have HF2 := hid (Fr.setChan HF.out (show w.heap.size ≤ c by omega) t.votes.length (t.votes.map (Value.int .i64)).toArray true s 0 false)
  clear hcl
  obtain ⟨wq, hwq⟩ : ∃ wq, wq = wr.setChan c t.votes.length (t.votes.map (Value.int .i64)).toArray true s 0 false := ⟨_, rfl⟩
  change LoneTo _ _ _ (wr.setChan c t.votes.length (t.votes.map (Value.int .i64)).toArray true s 0 false)
  rw [← hwq] at HS HB2 HF2 ⊢
  clear hwq HCH HF HB
  clear wr
  have hmm := @run_makeMap Tryz.prog
  refine LT.seq (LT.code ?_)
  go_wp2
  simp only [LTP]
  have hcq := lt_of_get HS.out
  have HS3 := hid (heap_up HS.out (.map #[] 0))
  have HB3 := hid (heap_up HB2.out (.map #[] 0))
  have HF3 := hid (HF2.out.alloc (.map #[] 0))
  have HM3 := hid (MapF.made wq)
  clear HS HB2 HF2 hmm
  generalize wq.alloc (.map #[] 0) = w3 at *
  generalize wq.heap.size = m at *
  refine LT.seq (LT.seq (LT.code ?_))
  go_wp2
  simp only [LTP]
  refine LT.block ?_
  refine LT.rounds (OkI2 w (.slice pa t.parts.length pcap) va vcap t w.heap.size c m) t.votes.length (by unfold OkI2; exact ⟨⟨_, _, _, _, _, _, _, _, _, _, _, _, _, _, _, _, _, _, _, _, _, _, _, _, _, _, _, _, _, _, _, _, _, _, _, _, _, _, _, _, _, _, _, _, _, _, _, _, _, _, _, _, _, _, _, _, _, _, _, _, _, _, _, _, _, _, _, _, _, _, _, _, _, _, _, _, _, _, _, _, _, _, _, rfl⟩, HF3.out, HB3.out, by rw [List.take_zero, cnt_nil]; exact HM3.out, s, 0, by rw [HS3.out, List.drop_zero]⟩) (fun k a wr hk hI next => ?_) (fun a wr hI => ?_)
  ·exact txnR2 _ w _ va vcap t c m k a wr hk hl2 hX1 hcq HVB hI fun a' w' h => LT.inLoop (next a' w' h)
  ·unfold OkI2 at hI
   clear s0 s2 s4 s5 s6 s7 s8 s9 s10 s11 s12 s13 s14 s15 s16 s17 s18 s19 s20 s21 s22 s23 s24 s25 s26 s27 s28 s32 s33 s34 s35 s36 s37 s38 s39 s40 s41 s42 s43 s44 s45 s46 s47 s48 s49 s50 s51 s52 s53 s54 s55 s56 s57 s58 s59 s60 s61 s62 s63 s64 s65 s66 s67 s68 s69 s70 s71 s72 s73 s74 s75 s76 s77 s78 s79 s80 s81 s82 s83 s84 s85 s86
   obtain ⟨⟨s0, s2, s4, s5, s7, s8, s9, s10, s11, s12, s13, s14, s15, s16, s17, s18, s19, s20, s21, s22, s23, s24, s25, s26, s27, s28, s29, s30, s31, s32, s33, s34, s35, s36, s37, s38, s39, s41, s42, s43, s44, s45, s46, s47, s48, s49, s50, s51, s52, s53, s54, s55, s56, s57, s58, s59, s60, s61, s62, s63, s64, s65, s66, s67, s68, s69, s70, s71, s72, s73, s74, s75, s76, s77, s78, s79, s80, s81, s82, s83, s84, s85, s86, rfl⟩, hf, hb, hm, s, r, hch⟩ := hI
   clear HF3 HB3 HM3 HS3
   clear w3
   rw [List.drop_length, List.map_nil] at hch
   rw [List.take_length] at hm
   have HF := hid hf
   have HB := hid hb
   have HM := hid hm
   have HCH := hid hch
   clear hf hb hm hch
   refine LT.seq (LT.region ?_)
   simp only [List.size_toArray, List.length_cons, List.length_nil, Nat.reduceAdd, Nat.zero_add, List.range, List.range.loop]
   refine LT.shut (w₁ := wr) (z := .int .i64 0) (by decide) rfl rfl (by simp [go_sem, rcase, Tryz.underlying138, zeroN]) HCH.out ?_
   simp only [List.getElem_toArray, List.getElem_cons_zero, List.getElem_cons_succ, Act.put]
   try simp only [List.setIfInBounds_toArray, List.set_cons_zero, List.set_cons_succ]
   refine LT.op (v := .bool false) (w' := wr) rfl rfl rfl ?_
   simp only [List.getElem_toArray, List.getElem_cons_zero, List.getElem_cons_succ, Act.put]
   try simp only [List.setIfInBounds_toArray, List.set_cons_zero, List.set_cons_succ]
   refine LT.done (LT.seq (LT.code ?_))
   go_wp2
   refine ⟨_, rfl, ?_⟩
   clear hli
   refine LT.body (R := R) Tryz.func37 rfl rfl ?_ (by subst hRR; rintro _ ⟨h, _⟩; cases h) (by subst hRR; rintro _ _ ⟨h, _⟩; cases h)
   subst hRR
   exact txnTail t _ va vcap w wr c m _ _ _ _ _ _ _ _ _ _ _ _ _ _ _ _ _ _ _ _ _ _ _ _ _ _ _ _ _ _ _ _ _ _ _ _ _ _ _ _ _ _ _ _ _ _ _ _ _ _ _ _ _ _ _ _ _ _ _ _ _ _ _ _ _ _ _ _ _ _ _ _ _ _ _ _ _ _ _ _ _ _ _ HPO.out HLE.out hl2 HF.out HB.out HM.out

theorem implTxnOk_any (lo : Nat) (t : Tn) (pv vv : Value) (w : World) (hp : PartsR lo w pv t.parts) (hv : IntsR (new lo) w vv t.votes) (hi : TnI t) :
  Calls Tryz.prog 37 #[.agg #[pv, vv, .int .i64 t.dec]] w fun e w' => e = .returned (.bool (tnOk t)) ∧ Fr w.heap.size [] w w' := by
 cases h : partsOk t.parts && (t.votes.length == t.parts.length) with
 | false =>
  have e : tnOk t = false := by
   unfold tnOk
   rw [Bool.and_assoc (votesIn t.votes), h]; simp
  rw [e]
  exact txnOk_no lo t pv vv w hp hv hi h
 | true =>
  rw [Bool.and_eq_true, beq_iff_eq] at h
  rw [← tnOkI_eq]
  exact txnOk_yes lo t pv vv w hp hv hi h.1 h.2

end Go.Proofs.YtknoanpgadecbaaGreatDoor
