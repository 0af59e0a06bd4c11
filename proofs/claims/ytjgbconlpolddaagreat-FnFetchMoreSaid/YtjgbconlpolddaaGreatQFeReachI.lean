/- The program's reach. -/
import Derived.Test.YtjgbconlpolddaaGreatQM6
import Derived.Test.YtjgbconlpolddaaGreatQM2
import Derived.Test.YtjgbconlpolddaaGreatQM3
import Derived.Test.YtjgbconlpolddaaGreatQM8
set_option linter.unusedVariables false
set_option linter.unusedSimpArgs false
namespace Go.Proofs.YtjgbconlpolddaaGreat
open Go.RowKit
set_option linter.unusedVariables false

theorem zeroB (w : World) : (zeroValue 4).run Tryz.prog w = .ok (.bool false) w := by kernel_rfl
theorem zeroOb (w : World) : (zeroValue 37).run Tryz.prog w = .ok (.agg #[.int .i64 0, .slice none 0 0, .string ⟨#[]⟩]) w := by kernel_rfl

/-- The map of a store's objects by their ids. -/
def MapO (K : Nat → Bool → Prop) (w : World) (m : Nat) (os : List Ob) : Prop :=
  ∃ n f, MapF w m n f ∧ ∀ x, match obId os x with | none => f x = none | some o => ∃ a cap, f x = some (.agg #[.int .i64 o.kind, .slice a o.links.length cap, .string (tx o.text)]) ∧ IntsR K w (.slice a o.links.length cap) o.links

theorem MapO.grow {K : Nat → Bool → Prop} {B : Nat} {w w' : World} {m : Nat} {os : List Ob} (h : MapO K w m os) (hf : Fr B [] w w') : MapO K w' m os := by
  obtain ⟨n, f, h1, h2⟩ := h
  refine ⟨n, f, h1.keep hf (by simp), fun x => ?_⟩
  have := h2 x
  cases hx : obId os x with
  | none => rw [hx] at this; exact this
  | some o =>
    rw [hx] at this
    obtain ⟨a, cap, h3, h4⟩ := this
    exact ⟨a, cap, h3, h4.grow hf⟩

theorem MapO.none {K : Nat → Bool → Prop} {w : World} {m : Nat} {os : List Ob} (h : MapO K w m os) {x : Int} (hx : obId os x = none) (hk : 0 ≤ x ∧ x ≤ 990) :
    (Instr.lookup 54 (.map (some m)) (.int .i64 x) true).run Tryz.prog w = .ok (.tuple #[.agg #[.int .i64 0, .slice none 0 0, .string ⟨#[]⟩], .bool false]) w := by
  obtain ⟨n, f, h1, h2⟩ := h
  have := h2 x
  rw [hx] at this
  have h3 := h1.look 54 37 _ Tryz.underlying54 (zeroOb _) x (wf64 (by omega))
  rw [this] at h3
  exact h3

theorem MapO.some {K : Nat → Bool → Prop} {B : Nat} {w w2 : World} {m : Nat} {os : List Ob} (h : MapO K w m os) (hf : Fr B [] w w2) {x : Int} {o : Ob} (hx : obId os x = some o) (hk : 0 ≤ x ∧ x ≤ 990) :
    ∃ a cap, (Instr.lookup 54 (.map (some m)) (.int .i64 x) true).run Tryz.prog w2 = .ok (.tuple #[.agg #[.int .i64 o.kind, .slice a o.links.length cap, .string (tx o.text)], .bool true]) w2 ∧ IntsR K w (.slice a o.links.length cap) o.links := by
  obtain ⟨n, f, h1, h2⟩ := h
  have := h2 x
  rw [hx] at this
  obtain ⟨a, cap, h3, h4⟩ := this
  have h5 := (h1.keep hf (by simp)).look 54 37 _ Tryz.underlying54 (zeroOb _) x (wf64 (by omega))
  rw [h3] at h5
  exact ⟨a, cap, h5, h4⟩

/-- What has been seen. -/
def seenF (st ms : List Int) : Int → Option Value := fun x => if x ∈ st ∨ x ∈ ms then some (.bool true) else none

theorem seenF_st (st ms : List Int) (x : Int) : upd (seenF st ms) x (.bool true) = seenF (st ++ [x]) ms := by
  funext y
  unfold upd seenF
  by_cases e : y = x
  · subst e; simp
  · simp [e]

theorem seenF_ms (st ms : List Int) (x : Int) : upd (seenF st ms) x (.bool true) = seenF st (ms ++ [x]) := by
  funext y
  unfold upd seenF
  by_cases e : y = x
  · subst e; simp
  · simp [e]

theorem seen_look {w : World} {m n : Nat} {st ms : List Int} (h : MapF w m n (seenF st ms)) {x : Int} (hk : 0 ≤ x ∧ x ≤ 990) :
    (Instr.lookup 96 (.map (some m)) (.int .i64 x) false).run Tryz.prog w = .ok (.bool (decide (x ∈ st ∨ x ∈ ms))) w := by
  have h1 := h.look1 96 4 _ Tryz.underlying96 (zeroB _) x (wf64 (by omega))
  rw [h1]
  unfold seenF
  by_cases e : x ∈ st ∨ x ∈ ms
  · rw [if_pos e, decide_eq_true e]; rfl
  · rw [if_neg e, decide_eq_false e]; rfl

theorem seen_store {w : World} {m n lo : Nat} {st ms : List Int} (h : MapF w m n (seenF st ms)) (hlo : lo ≤ m) (hn : n ≤ 1000000000) {x : Int} (hk : 0 ≤ x ∧ x ≤ 990) :
    ∃ w', (Instr.mapUpdate 96 (.map (some m)) (.int .i64 x) (.bool true)).run Tryz.prog w = .ok () w' ∧ MapF w' m (n + 1) (upd (seenF st ms) x (.bool true)) ∧ Fr lo [1000000] w w' := by
  obtain ⟨w', hr, hm, hg⟩ := h.store 96 4 Tryz.underlying96 (by unfold maxLen; omega) x (.bool true) (wf64 (by omega))
  obtain ⟨o, ho, hot⟩ := h.tag
  refine ⟨w', hr, hm, Fr.ofGrown hg fun k y hk hy => ?_⟩
  cases hk
  rw [ho] at hy
  cases hy
  exact ⟨hlo, by rw [hot]; simp⟩

def sliceLen : Value → Nat
  | .slice _ n _ => n
  | _ => 0

set_option maxRecDepth 20000 in
set_option maxHeartbeats 4000000 in
theorem reach_any (K K' : Nat → Bool → Prop) (m0 : Nat) (vf : Value) (os : List Ob) (fr : List Int) (w : World) (hm0 : MapO K w m0 os) (hf : IntsR K' w vf fr) (hok : stOk os = true) (hin : ∀ x ∈ fr, 0 ≤ x ∧ x ≤ 990) (hfl : fr.length ≤ 1000) :
    Calls Tryz.prog 28 #[.map (some m0), vf] w fun e w' => ∃ v1 v2, e = .returned (.tuple #[v1, v2]) ∧ OwnI w.heap.size w' v1 (rcS os fr) ∧ OwnI w.heap.size w' v2 (rcM os fr) ∧ Fr w.heap.size [] w w' := by
  obtain ⟨fa, fcap, rfl, _, _⟩ := hf.shape
  obtain ⟨i0, hi, hz0, hz1, hz2⟩ := info_parts infoI
  have hmm := @run_makeMap Tryz.prog
  have MO := hid hm0
  have HF := hid hf
  have OK := hid hok
  have IN := hid hin
  have hl16 : os.length ≤ 16 := (stOk_iff.1 hok).1
  have FA := hid ((Fr.refl w.heap.size [] w).alloc (.map #[] 0))
  have M0 := hid (MapF.made w)
  clear hm0 hf hok hin
  go_enter Tryz.func28, Tryz.ntmps28
  go_wp2_with (go_at_call 36; go_must (refine (cloneI_any K' 3 _ fr.length (fr.map (Value.int .i64)) _ (HF.out.grow FA.out) (oneI _) (by omega)).mono ?_; rintro e w1 ⟨v1, rfl, own1, fr1⟩; have F1 := hid (FA.out.trans fr1.nil); have Q1 := hid ((OwnQ.ofOwn (show OwnI _ w1 v1 fr from own1)).lower FA.out.size); have M1 := hid (M0.out.keep fr1 (by simp)); clear own1 fr1))
  have M2 := hid (show MapF w1 w.heap.size 0 (seenF [] []) by
    have : seenF [] [] = fun _ => none := by funext x; simp [seenF]
    rw [this]; exact M1.out)
  clear M1
  go_loopw [4, 5, 7] (fun vs vm vq wx => ∃ (st ms q : List Int) (n : Nat), RQ os fr q st ms ∧ n ≤ st.length + ms.length ∧ OwnI w.heap.size wx vs st ∧ OwnI w.heap.size wx vm ms ∧ OwnQ w.heap.size wx vq q ∧ SepV vs vm ∧ SepV vs vq ∧ SepV vm vq ∧ MapF wx w.heap.size n (seenF st ms) ∧ Fr w.heap.size [] w wx) (fun vs _ vq _ => sliceLen vq + 8 * (17 - sliceLen vs))
  case atStart => exact ⟨[], [], fr, 0, RQ.start os fr, Nat.zero_le _, OwnI.nil _ _, OwnI.nil _ _, Q1.out, SepV.none _, SepV.none _, SepV.none _, M2.out, F1.out⟩
  case round =>
    obtain ⟨st, ms, q, n, hrq, hn, hst, hms, hq, s1, s2, s3, hm, hfr⟩ := hrel
    have RH := hid hrq
    have ST := hid hst
    have MS := hid hms
    have S1 := hid s1
    have S2 := hid s2
    have S3 := hid s3
    have MM := hid hm
    have FR := hid hfr
    have hls := hfr.size
    have hl1 := hrq.len1
    have hl2 := hrq.len2 OK.out IN.out
    have hsz := hrq.sz
    have hmlt := hm.lt
    obtain ⟨sa, scap, rfl⟩ := hst.any
    obtain ⟨ma, mcap, rfl⟩ := hms.any
    clear hrq hst hms s1 s2 s3 hm hfr M2 Q1 F1 M0 FA
    cases q with
    | nil =>
      obtain ⟨qa, qcap, rfl⟩ := hq.any
      obtain ⟨f1, f2⟩ := RH.out.fin OK.out IN.out
      have FI1 := hid f1
      have FI2 := hid f2
      clear hq f1 f2
      go_wp2_with (first
        | (go_at_call 60; refine (sortI_any ST.out (by omega)).mono ?_; go_must (rintro e w2 ⟨rfl, own2, gr2, fr2⟩; rw [FI1.out] at own2; have ST2 := hid own2; have MS2 := hid (S1.out.keep MS.out gr2); have F2 := hid (FR.out.after fr2); clear own2 gr2 fr2 ST))
        | (go_at_call 60; go_must (refine (sortI_any MS2.out (by omega)).mono ?_; rintro e w3 ⟨rfl, own3, gr3, fr3⟩; rw [FI2.out] at own3; have MS3 := hid own3; have ST3 := hid (S1.out.symm.keep ST2.out gr3); have F3 := hid (F2.out.after fr3); clear own3 gr3 fr3)))
      go_ret2
      exact ⟨_, _, rfl, ST3.out, MS3.out, F3.out⟩
    | cons x q =>
      obtain ⟨g, off, cap, o', rfl, hqc, hgs, c0, hqa, hq'⟩ := hq.pop
      have QQ := hid hq'
      have hxin := (RH.out.rq x (List.mem_cons_self ..)).inside OK.out IN.out
      simp only [List.length_cons] at hsz
      have i1 : (0 : Int) < ((q.length + 1 : Nat) : Int) := by omega
      have i2 : (1 : Int) ≤ ((q.length + 1 : Nat) : Int) := by omega
      have i3 : ((q.length + 1 : Nat) : Int) ≤ ((cap + 1 : Nat) : Int) := by omega
      have T2 := hid (show SepV (.slice sa st.length scap) (.slice (some ⟨g, o', none⟩) q.length cap) from S2.out)
      have T3 := hid (show SepV (.slice ma ms.length mcap) (.slice (some ⟨g, o', none⟩) q.length cap) from S3.out)
      clear hq hq' S2 S3
      by_cases hx : x ∈ st ∨ x ∈ ms
      · have NX := hid (RH.out.skip hx)
        have hlk := seen_look MM.out (x := x) (by omega)
        rw [decide_eq_true hx] at hlk
        clear hx
        go_wp2
        exact ⟨⟨st, ms, q, n, NX.out, hn, ST.out, MS.out, QQ.out, S1.out, T2.out, T3.out, MM.out, FR.out⟩, by simp [sliceLen]⟩
      · have hlk := seen_look MM.out (x := x) (by omega)
        rw [decide_eq_false hx] at hlk
        obtain ⟨w2, hup, hm2, fr2⟩ := seen_store MM.out (Nat.le_refl _) (by omega) (x := x) (by omega)
        have ST2 := hid (ST.out.keep fr2 (by simp))
        have MS2 := hid (MS.out.keep fr2 (by simp))
        have QQ2 := hid (QQ.out.keep fr2 (by simp))
        have F2 := hid (FR.out.after fr2)
        have hls2 := F2.out.size
        have MM2 := hid hm2
        have hx1 : x ∉ st := fun h => hx (.inl h)
        have hx2 : x ∉ ms := fun h => hx (.inr h)
        have MO2 := hid (MO.out.grow F2.out)
        clear hm2 hx
        cases ho : obId os x with
        | none =>
          have NX := hid (RH.out.miss hx1 hx2 (obId_none.1 ho))
          have hlo := MO2.out.none ho hxin
          clear ho hx1 hx2
          go_wp2_with (at_builtin; go_must (refine wpList_push rfl (.tmp 35) (.tmp 37) 24 rfl w.heap.size 3 i0 (.int .i64 0) 1 8 Tryz.underlying24 hi hz0 hz1 hz2 rfl (by decide) _ _ _ (ownsRow_grow MS2.out ((Fr.refl 0 [] w2).alloc _)) rfl (oneInt _) (by unfold maxLen; omega) (by omega) (by simp; omega) (by rfl) _ (by rfl) (by simp [World.setCell]) ?_; intro v4 w4 own4 fr4 gr4; have MS4 := hid (OwnI.pushed own4); have F4 := hid ((F2.out.alloc _).after fr4); clear own4))
          have FA2 := (Fr.refl 0 [] w2).alloc (.cells #[.int .i64 0, .slice none 0 0, .string ⟨#[]⟩] 37)
          refine ⟨⟨st, ms ++ [x], q, n + 1, NX.out, by simp; omega, S1.out.symm.keep (ST2.out.grow FA2) gr4.1, MS4.out, (QQ2.out.grow FA2).kept gr4.1 T3.out, (S1.out.symm.moved (ST2.out.grow FA2) gr4.2).symm, T2.out, T3.out.movedQ (QQ2.out.grow FA2) gr4.2, ?_, F4.out⟩, by simp [sliceLen]⟩
          rw [← seenF_ms]
          exact (MM2.out.keep FA2 (by simp)).keep fr4 (by simp)
        | some o =>
          have NX := hid (RH.out.hit OK.out hx1 hx2 ho)
          have hol := (obOk_len ((stOk_iff.1 OK.out).2.1 _ (obId_some ho).1)).1
          obtain ⟨la, lcap, hlo, hli⟩ := MO.out.some F2.out ho hxin
          have LI := hid hli
          have hl1' := NX.out.len1
          clear ho hx1 hx2 hli
          have FA2 := hid ((Fr.refl 0 [] w2).alloc (.cells #[.int .i64 o.kind, .slice la o.links.length lcap, .string (tx o.text)] 37))
          have B2 := hid (heap_alloc_new w2 (.cells #[.int .i64 o.kind, .slice la o.links.length lcap, .string (tx o.text)] 37))
          have FR2 := hid fr2
          clear fr2
          go_wp2_with (first
            | (at_builtin; refine wpList_push rfl (.tmp 39) (.tmp 41) 24 rfl w.heap.size 3 i0 (.int .i64 0) 1 8 Tryz.underlying24 hi hz0 hz1 hz2 rfl (by decide) _ _ _ (ST2.out.grow FA2.out) rfl (oneInt _) (by unfold maxLen; omega) (by omega) (by simp; omega) (by rfl) _ (by rfl) (by simp [World.setCell]) ?_; go_must (intro v4 w4 own4 fr4 gr4; have ST4 := hid (OwnI.pushed own4); have F4 := hid ((F2.out.alloc _).after fr4); have B4 := hid (fr4.keep _ _ B2.out (.inr (by simp [otag]))); have b41 := cell_of (o := 1) B4.out rfl; have MS4 := hid (S1.out.keep (MS2.out.grow FA2.out) gr4.1); have QQ4 := hid ((QQ2.out.grow FA2.out).kept gr4.1 T2.out); have P1 := hid (S1.out.moved (MS2.out.grow FA2.out) gr4.2); have P2 := hid (T2.out.movedQ (QQ2.out.grow FA2.out) gr4.2); have MM4 := hid ((MM2.out.keep FA2.out (by simp)).keep fr4 (by simp)); have hls4 := F4.out.size; clear own4 fr4 gr4))
            | (at_builtin; go_must (refine wpList_apQ rfl (.tmp 43) (.tmp 45) rfl w.heap.size _ q (by rfl) QQ4.out K _ o.links (by rfl) (LI.out.grow F4.out) (by omega) (by omega) ?_; intro v5 w5 own5 gr5 mv5 fr5; have QQ5 := hid own5; have ST5 := hid (P2.out.symm.keep ST4.out gr5); have MS5 := hid (T3.out.symm.keep MS4.out gr5); have R2 := hid (SepV.symm (P2.out.symm.moved ST4.out mv5)); have R3 := hid (SepV.symm (T3.out.symm.moved MS4.out mv5)); have MM5 := hid (MM4.out.keep fr5 (by simp)); have F5 := hid (F4.out.after fr5); clear own5 gr5 mv5 fr5)))
          obtain ⟨a5, c5, rfl⟩ := QQ5.out.any
          obtain ⟨a4, c4, rfl⟩ := OwnI.any ST5.out
          refine ⟨⟨st ++ [x], ms, q ++ o.links, n + 1, NX.out, by simp; omega, ST5.out, MS5.out, QQ5.out, P1.out, R2.out, R3.out, ?_, F5.out⟩, ?_⟩
          · rw [← seenF_st]; exact MM5.out
          · simp only [sliceLen, List.length_append, List.length_cons, List.length_nil] at hl1' ⊢
            omega

end Go.Proofs.YtjgbconlpolddaaGreat
