/- Draws of stores. -/
import Derived.Test.YtjgbconlpolddaaGreatQM5
import Derived.Deep.CutBlock
import Derived.Test.YtjgbconlpolddaaGreatQStPutS
set_option linter.unusedVariables false
set_option linter.unusedSimpArgs false
namespace Go.Proofs.YtjgbconlpolddaaGreat
open Go.RowKit
set_option linter.unusedVariables false

/-- A reading stays where the one block that changed is none of its own. -/
theorem SlR.grown {K : Nat → Bool → Prop} {E sz n : Nat} {w w' : World} {v : Value} {cs : List Value} {row : Option Nat} (h : SlR K E sz w v n cs) (hg : w.grownBy w' row) (hK : ∀ b t, K b t → row ≠ some b) : SlR K E sz w' v n cs := by
  obtain ⟨a, cap, h1, h2, h3, h4, h5⟩ := h
  refine ⟨a, cap, h1, h2, h3, h4, fun hn => ?_⟩
  obtain ⟨b, off, cur, e, fr, g1, g2, g3, g4⟩ := h5 hn
  exact ⟨b, off, cur, e, fr, g1, g2, by rw [hg.block b (lt_of_get g3) (fun h => hK _ _ g2 h.symm)]; exact g3, g4⟩

theorem ObsOwn.grown {lo : Nat} {w w' : World} {v : Value} {os : List Ob} {row : Option Nat} (h : ObsOwn lo w v os) (hg : w.grownBy w' row) (hr : ∀ b, row = some b → b < lo) : ObsOwn lo w' v os := by
  obtain ⟨zs, h1, h2, h3⟩ := h
  have hK : ∀ b (t : Bool), new lo b t → row ≠ some b := fun b t hb he => by have := hr b he; have := hb.1; omega
  refine ⟨zs, h1, h2.kept hg ?_, fun z hz => (h3 z hz).grown hg hK⟩
  cases ho : v.ownBlock with
  | none => exact .inl rfl
  | some x =>
    refine .inr fun he => ?_
    have h5 := hr x he.symm
    obtain ⟨_, hh⟩ := h2
    rcases hh with ⟨rfl, _⟩ | ⟨g, cap, cur, rfl, hb, _⟩
    · cases ho
    · have hx : g = x := by simpa [Value.ownBlock] using ho
      omega

theorem ids_in {ids : List Int} (h : ∀ x ∈ ids, 0 ≤ x ∧ x ≤ 990) : ∀ (i : Nat) (h : i < ids.length), -1000 ≤ ids[i] ∧ ids[i] ≤ 1000 := fun i hi => by
  have := h _ (List.getElem_mem hi)
  omega

theorem ids_snoc {ids : List Int} {n : Int} (h : ∀ x ∈ ids, 0 ≤ x ∧ x ≤ 990) (hn : 0 ≤ n ∧ n ≤ 990) : ∀ x ∈ ids ++ [n], 0 ≤ x ∧ x ≤ 990 := fun x hx => by
  rcases List.mem_append.1 hx with hx | hx
  · exact h x hx
  · simp at hx; subst hx; exact hn

set_option maxRecDepth 20000 in
set_option maxHeartbeats 4000000 in
theorem l91Store_any {B r p : Nat} {w : World} (hR : Rdr B w r p) (hp : p ≤ 999900000) :
    Calls Tryz.prog 67 #[.pointer (some ⟨r, 0, none⟩)] w fun e w' => ∃ (v : Value) (os : List Ob) (q : Nat), e = .returned v ∧ ObsOwn w.heap.size w' v os ∧ stOk os = true ∧ Rdr B w' r q ∧ q ≤ p + 3 + 70 * 20 ∧ Fr B [110] w w' := by
  have hB : B ≤ w.heap.size := Nat.le_trans hR.1 (Nat.le_of_lt hR.lt)
  have HR0 := hid hR
  obtain ⟨i0, hi, hz0, hz1, hz2⟩ := info_parts infoI
  go_enter Tryz.func67, Tryz.ntmps67
  have OW0 := hid ((ObsOwn.empty (w := w) rfl).grow ((Fr.refl 0 [] (w.alloc (.cells #[] 37))).alloc (.cells #[] 3)))
  have ID0 := hid (show ((w.alloc (.cells #[] 37)).alloc (.cells #[] 3)).ownsRow w.heap.size 3 1 (.slice (some ⟨w.heap.size + 1, 0, none⟩) 0 0) 0 [] from by
    have h := World.ownsRow_made (w.alloc (.cells #[] 37)) (e := 3) (size := 1) #[] 0 (Nat.le_refl _) (by decide) (by simp)
    exact ownsRow_lo (by simpa using h) (by simp))
  have F0 := hid (((Fr.refl B [110] w).alloc (.cells #[] 37)).alloc (.cells #[] 3))
  go_upto_if 16 with (first
    | (go_at_call 68; (with_reducible refine (pick_at (n := 10) ((HR0.out.alloc _).alloc _) (by omega)).mono ?_); go_must (rintro e w1 ⟨k1, rfl, hk1, hR1, hf1⟩; have HR1 := hid hR1; have F1 := hid (F0.out.trans hf1); have OW1 := hid (OW0.out.keep hf1 (by simp) (by simp)); have ID1 := hid (ownsRow_keep ID0.out hf1 (by simp)); clear hR1 hf1))
    | (go_at_call 68; (with_reducible refine (pick_at (n := 12) HR1.out (by omega)).mono ?_); go_must (rintro e w2 ⟨k2, rfl, hk2, hR2, hf2⟩; have HR2 := hid hR2; have F2 := hid (F1.out.trans hf2); have OW2 := hid (OW1.out.keep hf2 (by simp) (by simp)); have ID2 := hid (ownsRow_keep ID1.out hf2 (by simp)); clear hR2 hf2)))
  clear HR0 F0 OW0 OW1 F1 HR1 ID0 ID1
  go_cut [5] (fun vn wx => ∃ N : Nat, vn = .int .i64 N ∧ N ≤ 20 ∧ wx = w2)
  case first =>
    go_wp2
    · go_meet
      exact ⟨20, rfl, by omega, rfl⟩
    · go_meet
      exact ⟨k1, rfl, by omega, rfl⟩
  case rest =>
    obtain ⟨N, rfl, hN, rfl⟩ := hcut
    go_wp2
    go_loopw [3, 4, 6] (fun vo vi vn wx => ∃ (k q : Nat) (os : List Ob) (ids : List Int), k ≤ N ∧ vn = .int .i64 k ∧ ids.length ≤ k ∧ (∀ x ∈ ids, 0 ≤ x ∧ x ≤ 990) ∧ stOk os = true ∧ vo ≠ .slice none 0 0 ∧ ObsOwn w.heap.size wx vo os ∧ wx.ownsRow w.heap.size 3 1 vi ids.length (ids.map (Value.int .i64)) ∧ Rdr B wx r q ∧ q ≤ p + 2 + 70 * k ∧ Fr B [110] w wx) (fun _ _ vn _ => N - (intOf vn).toNat)
    case atStart => exact ⟨0, _, [], [], Nat.zero_le _, rfl, Nat.zero_le _, fun x hx => (by cases hx), rfl, (by simp), OW2.out, ID2.out, HR2.out, by omega, F2.out⟩
    case round =>
      obtain ⟨k, q, os, ids, hk, rfl, hil, hids, hok, hnn, hown, hidr, hR5, hq5, hfr⟩ := hrel
      have HR5 := hid hR5
      have OK5 := hid hok
      have NN5 := hid hnn
      have IN5 := hid hids
      have OW5 := hid hown
      have ID5 := hid hidr
      obtain ⟨va, vcap, rfl, hvc, hsh⟩ := hown.reads.shape
      obtain ⟨ia, icap, rfl⟩ := own_any hidr
      have hls := hfr.size
      clear hR5 hown hidr hok hnn hids hsh OW2 ID2 HR2 F2
      by_cases hlt : k < N
      · have hki : (k : Int) < (N : Int) := by omega
        go_upto_region 10 with (go_at_call 87; go_must (refine (l91Object_any (new w.heap.size) HR5.out (by omega) _ ids (SlR.ofOwns ID5.out) (by omega) (Safe.new (by simp)) (ids_in IN5.out)).mono ?_; rintro e w3 ⟨o, vl, q6, rfl, hlo, hl1, hl2, hl3, hl4, hR6, hq6, hf6⟩; obtain ⟨la, lcap, rfl⟩ := own_any hlo))
        have FA := hid ((Fr.refl 0 [] w3).alloc (.cells #[.int .i64 o.kind, .slice la o.links.length lcap, .string (tx o.text)] 37))
        have LK := hid ((show IntsR (new wr.heap.size) w3 (.slice la o.links.length lcap) o.links from SlR.ofOwns hlo).grow FA.out)
        have XB := hid (heap_alloc_new w3 (.cells #[.int .i64 o.kind, .slice la o.links.length lcap, .string (tx o.text)] 37))
        have HR6 := hid (hR6.alloc (.cells #[.int .i64 o.kind, .slice la o.links.length lcap, .string (tx o.text)] 37))
        have F6 := hid ((hfr.trans hf6).alloc (.cells #[.int .i64 o.kind, .slice la o.links.length lcap, .string (tx o.text)] 37))
        have OW6 := hid ((OW5.out.keep hf6 (by simp) (by simp)).grow FA.out)
        have ID6 := hid (ownsRow_grow (ownsRow_keep ID5.out hf6 (by simp)) FA.out)
        have OKL := hid (show os.length ≤ 1000000000 ∧ ∀ p ∈ os, p.links.length ≤ 1000000000 from ⟨by have := (stOk_iff.1 OK5.out).1; omega, fun p hp => by have := (obOk_len ((stOk_iff.1 OK5.out).2.1 p hp)).1; omega⟩)
        clear hlo hR6 hf6 HR5 OW5 ID5
        have hcases : obOk o = true ∨ obOk o = false := by cases obOk o <;> simp
        rcases hcases with hob | hob
        · have OB := hid hob
          have OI := hid (oid_in hob)
          have PO := hid (put_ok OK5.out hob)
          clear hob
          obtain ⟨px, pb, hpp⟩ : ∃ px pb, put os o = (px, pb) := ⟨_, _, rfl⟩
          rw [hpp] at PO
          have PO := hid PO.out
          have PP := hid hpp
          clear hpp
          cases pb
          all_goals
            go_wp2_with (first
              | (go_at_call 56; go_must (refine (objectValid_any _ _ o _ LK.out (by omega)).mono ?_; rintro e w4 ⟨rfl, fr4⟩; rw [OB.out]; have X4 := hid (fr4.keep _ _ XB.out (.inr (by simp))); have F4 := hid (F6.out.trans fr4.nil); have O4 := hid (OW6.out.grow fr4); have L4 := hid (LK.out.grow fr4); have I4 := hid (ownsRow_grow ID6.out fr4); have R4 := hid (HR6.out.keep (fr4.nil (B' := B) (T := [])) (by simp)); clear fr4))
              | (go_at_call 77; go_must (refine (specStoreValid_any _ _ os _ O4.out.reads OKL.out.2 OKL.out.1).mono ?_; rintro e w5 ⟨rfl, fr5⟩; rw [OK5.out]; have X5 := hid (fr5.keep _ _ X4.out (.inr (by simp))); have x0 := cell_of (o := 0) X5.out rfl; have x1 := cell_of (o := 1) X5.out rfl; have x2 := cell_of (o := 2) X5.out rfl; have F5 := hid (F4.out.trans fr5.nil); have O5 := hid (O4.out.grow fr5); have L5 := hid (L4.out.grow fr5); have I5 := hid (ownsRow_grow I4.out fr5); have R5 := hid (R4.out.keep (fr5.nil (B' := B) (T := [])) (by simp)); clear fr5))
              | (go_at_call 88; go_must (refine (l1Put_any _ _ _ _ os o _ O5.out L5.out OK5.out OB.out NN5.out).mono ?_; rintro e w6 ⟨v6, rfl, own6, hv6, fr6⟩; rw [PP.out] at own6 ⊢; have X6 := hid (fr6.keep _ _ X5.out (.inr (by simp))); have x0 := cell_of (o := 0) X6.out rfl; have x1 := cell_of (o := 1) X6.out rfl; have x2 := cell_of (o := 2) X6.out rfl; have F6' := hid (F5.out.trans fr6.nil); have HF6 := hid fr6; have O6 := hid own6; have V6 := hid hv6; have L6 := hid (L5.out.grow fr6); have I6 := hid (ownsRow_grow I5.out fr6); have hs6 := fr6.size; have hs5 := F5.out.size; have R6 := hid (R5.out.keep (fr6.nil (B' := B) (T := [])) (by simp)); clear fr6 own6 hv6))
              | (go_at_call 55; go_must (refine (l1Of_any _ _ o _ L6.out OB.out).mono ?_; rintro e w7 ⟨rfl, fr7⟩; have F7 := hid (F6'.out.trans fr7.nil); have O7 := hid (O6.out.grow fr7); have I7 := hid (ownsRow_grow I6.out fr7); have hs7 := fr7.size; have R7 := hid (R6.out.keep (fr7.nil (B' := B) (T := [])) (by simp)); clear fr7))
              | (at_builtin; go_must (refine wpList_push rfl (.tmp 41) (.tmp 44) 24 rfl w.heap.size 3 i0 (.int .i64 0) 1 8 Tryz.underlying24 hi hz0 hz1 hz2 rfl (by decide) _ _ _ I7.out rfl (oneInt _) (by unfold maxLen; omega) (by omega) (by omega) (by rfl) _ (by rfl) (by simp [World.setCell]) ?_; intro v8 w8 own8 fr8 hgr; have OWN8 := hid own8; have F8 := hid fr8; have G8 := hid hgr; clear own8 fr8 hgr)))
            go_roundw
            case rel => first
              | exact ⟨k + 1, q6, os, ids, by omega, by go_num, by omega, IN5.out, OK5.out, NN5.out, O5.out.grow HF6.out, I6.out, R6.out, by omega, F6'.out⟩
              | exact ⟨k + 1, q6, px, ids ++ [oid o], by omega, by go_num, (by rw [List.length_append]; simp; omega), ids_snoc IN5.out OI.out, PO.out.1, V6.out, ((O7.out.grown G8.out.1 (fun b hb => (I5.out.lt _ hb).2)).lower hs5), by rw [List.length_append, List.map_append]; exact OWN8.out, R7.out.keep (F8.out.mono hB (fun _ x => x)) (by simp), by omega, F7.out.after F8.out⟩
            case measure => simp [intOf]; omega
        · have OB := hid hob
          clear hob
          go_wp2_with (go_at_call 56; go_must (refine (objectValid_any _ _ o _ LK.out (by omega)).mono ?_; rintro e w4 ⟨rfl, fr4⟩; rw [OB.out]))
          go_roundw
          case rel => exact ⟨k + 1, q6, os, ids, by omega, by go_num, by omega, IN5.out, OK5.out, NN5.out, OW6.out.grow fr4, ownsRow_grow ID6.out fr4, HR6.out.keep (fr4.nil (B' := B) (T := [])) (by simp), by omega, F6.out.trans fr4.nil⟩
          case measure => simp [intOf]; omega
      · obtain rfl : k = N := by omega
        go_wp2
        go_ret
        exact ⟨_, os, q, rfl, OW5.out, OK5.out, HR5.out, by omega, hfr⟩

/-- An object of a row of one's own. -/
theorem ObsOwn.atS {lo : Nat} {W : World} {b off n cap : Nat} {os : List Ob} (h : ObsOwn lo W (.slice (some ⟨b, off, none⟩) n cap) os) (i : Nat) (hi : i < os.length) :
    ∃ ua ucap, W.cell? ⟨b, off + i * 3, none⟩ = some (.int .i64 os[i].kind) ∧ W.cell? ⟨b, off + i * 3 + 1, none⟩ = some (.slice ua os[i].links.length ucap) ∧ W.cell? ⟨b, off + i * 3 + 2, none⟩ = some (.string (tx os[i].text)) ∧ IntsR (new lo) W (.slice ua os[i].links.length ucap) os[i].links := by
  obtain ⟨a2, cap2, hva2, -, hcell2⟩ := h.reads.shape
  cases hva2
  rcases hcell2 with hh | ⟨b2, off2, hae, -, hcell2⟩
  · subst hh; simp at hi
  · cases hae
    obtain ⟨u, h0, h1, h2, hu⟩ := hcell2 i hi
    obtain ⟨ua, ucap, rfl, _, _⟩ := hu.shape
    exact ⟨ua, ucap, h0, h1, h2, hu⟩

set_option maxRecDepth 20000 in
set_option maxHeartbeats 4000000 in
theorem l91Spoilt_any {B r p : Nat} {w : World} (hR : Rdr B w r p) (hp : p ≤ 999900000) :
    Calls Tryz.prog 42 #[.pointer (some ⟨r, 0, none⟩)] w fun e w' => ∃ (v : Value) (os : List Ob) (q : Nat), e = .returned v ∧ ObsOwn w.heap.size w' v os ∧ os.length ≤ 17 ∧ (∀ o ∈ os, obOk o = true) ∧ Rdr B w' r q ∧ q ≤ p + 1500 ∧ Fr B [110] w w' := by
  have hB : B ≤ w.heap.size := Nat.le_trans hR.1 (Nat.le_of_lt hR.lt)
  obtain ⟨i0, hi, hz0, hz1, hz2⟩ := info_parts infoOb
  have HR0 := hid hR
  go_enter Tryz.func42, Tryz.ntmps42
  go_upto_region 2 with (go_at_call 67; go_must (refine (l91Store_any HR0.out hp).mono ?_; rintro e w1 ⟨v1, os, q1, rfl, own1, hok, hR1, hq1, hf1⟩; have O1 := hid own1; have OK := hid hok; have R1 := hid hR1; have F1 := hid hf1; clear hok hR1 hf1))
  have AL := hid ((stOk_iff.1 OK.out).2.1)
  have hl16 := (stOk_iff.1 OK.out).1
  have hs1 := F1.out.size
  obtain ⟨va, vcap, rfl, hvc, hsh⟩ := own1.reads.shape
  clear own1
  by_cases hl0 : os.length = 0
  · have hl00 : ((os.length : Int) == 0) = true := by simp [hl0]
    clear hl0 hsh
    go_wp2
    go_ret
    exact ⟨_, os, q1, rfl, O1.out, by omega, AL.out, R1.out, by omega, F1.out⟩
  · have hl00 : ((os.length : Int) == 0) = false := beq_eq_false_iff_ne.2 (by omega)
    have hlp : 0 < os.length := by omega
    have hlpi : (0 : Int) < (os.length : Int) := by omega
    obtain ⟨b, off, rfl⟩ : ∃ b off, va = some ⟨b, off, none⟩ := by
      rcases hsh with hh | ⟨b, off, hh, _⟩
      · exact absurd (by rw [hh]; rfl) hl0
      · exact ⟨b, off, hh⟩
    clear hl0 hsh
    go_wp2_with (first
      | (go_at_call 68; (with_reducible refine (pick_at (n := 20) R1.out (by omega)).mono ?_); go_must (rintro e w2 ⟨k2, rfl, hk2, hR2, hf2⟩; have R2 := hid hR2; have F2 := hid (F1.out.trans hf2); have O2 := hid (O1.out.keep hf2 (by simp) (by simp)); clear hR2 hf2))
      | (go_at_call 68; go_must (refine (pick_at R2.out (by omega)).mono ?_; rintro e w3 ⟨k3, rfl, hk3, hR3, hf3⟩; have hlt : k3 < os.length := (by omega); have hlti : (k3 : Int) < (os.length : Int) := (by omega); have F3 := hid (F2.out.trans hf3); have O3 := hid (O2.out.keep hf3 (by simp) (by simp)); obtain ⟨ua, ucap, h0, h1, h2, hu⟩ := O3.out.atS k3 hlt; have U3 := hid hu; obtain ⟨zs, z1, z2, z3⟩ := O3.out; have Z1 := hid z1; have Z2 := hid z2; have Z3 := hid z3; have R3 := hid hR3; have hs3 := F3.out.size; clear hR3 hf3 hu z1 z2 z3))
      | (at_builtin; go_must (refine wpList_push rfl (.tmp 15) (.tmp 23) 23 rfl w.heap.size 37 i0 (.agg #[.int .i64 0, .slice none 0 0, .string ⟨#[]⟩]) 3 48 Tryz.underlying23 hi hz0 hz1 hz2 rfl (by decide) _ _ _ Z2.out rfl (oneOb3 _ _ _ _ _) (by unfold maxLen; omega) (by omega) (by omega) (by rfl) _ (by rfl) (by simp [World.setCell]) ?_; intro v7 w7 own7 fr7 _; have OWN7 := hid own7; have F7 := hid fr7; clear own7 fr7)))
    · go_ret
      exact ⟨_, os, _, rfl, O2.out, by omega, AL.out, R2.out, by omega, F2.out⟩
    · go_ret
      refine ⟨_, os ++ [os[k3]], _, rfl, ObsOwn.snoc Z1.out (fun z hz => (Z3.out z hz).keep F7.out (Safe.new (by simp))) (U3.out.keep F7.out (Safe.new (by simp))) rfl OWN7.out, by simp; omega, fun o ho => ?_, R3.out.keep (F7.out.mono hB (fun _ x => x)) (by simp), by omega, F3.out.after F7.out⟩
      rcases List.mem_append.1 ho with ho | ho
      · exact AL.out o ho
      · simp at ho; subst ho; exact AL.out _ (List.getElem_mem hlt)

end Go.Proofs.YtjgbconlpolddaaGreat
