/- DrawFetchStore. -/
import Derived.Test.YtjgbconlpolddaaQDrPack
import Derived.Test.YtjgbconlpolddaaQM3
import Derived.Test.YtjgbconlpolddaaQStCopyI
import Derived.Test.YtjgbconlpolddaaQStFind
import Derived.Test.YtjgbconlpolddaaQStValI
import Derived.Test.YtjgbconlpolddaaQStDraw
set_option linter.unusedVariables false
set_option linter.unusedSimpArgs false
namespace Go.Proofs.Ytjgbconlpolddaa
open Go.RowKit
set_option linter.unusedVariables false

set_option maxRecDepth 20000 in
set_option maxHeartbeats 1000000 in
theorem drawFetchStore_any {w : World} {a : Option Addr} {n cap : Nat} (hb : Bytes w.heap.size w a n cap) (hm : cap ≤ maxLen) :
    Calls Try.prog 17 #[.slice a n cap] w fun e w' => ∃ (v vp : Value) (os : List Ob) (es : List En), e = .returned (.tuple #[v, vp]) ∧ ObsOwn w.heap.size w' v os ∧ os.length ≤ 17 ∧ (∀ o ∈ os, obOk o = true) ∧ EnsOwn w.heap.size w' vp es ∧ EnFew es ∧ Fr w.heap.size [] w w' := by
  have HB := hid hb
  clear hb
  go_enter Try.func17, Try.ntmps17
  go_wp2_with (first
    | (go_at_call 34; go_must (refine (l6Open_any HB.out hm).mono ?_; rintro e w1 ⟨rfl, hR1, fr1⟩; have R1 := hid hR1; have F1 := hid fr1; clear hR1 fr1))
    | (go_at_call 52; go_must (refine (l91Spoilt_any R1.out (by omega)).mono ?_; rintro e w2 ⟨v2, os, q2, rfl, own2, hl2, hok2, hR2, hq2, fr2⟩; have O2 := hid own2; have OK2 := hid hok2; have R2 := hid hR2; have F2 := hid (F1.out.after fr2); have hs1 := F1.out.size; clear own2 hok2 hR2 fr2))
    | (go_at_call 53; go_must (refine (l91Pack_any R2.out (by omega)).mono ?_; rintro e w3 ⟨v3, es, q3, rfl, own3, hfew, hR3, hq3, fr3⟩; have O3 := hid (O2.out.keep fr3 (by simp) (by simp)); have E3 := hid own3; have EF := hid hfew; have F3 := hid (F2.out.after fr3); have hs2 := F2.out.size; clear own3 hfew hR3 fr3)))
  go_ret2
  exact ⟨v2, v3, os, es, rfl, O3.out.lower hs1, hl2, OK2.out, E3.out.lower hs2, EF.out, F3.out⟩

end Go.Proofs.Ytjgbconlpolddaa

/- The walk of FnFetchEmpty. -/
namespace Go.Proofs.Ytjgbconlpolddaa
open Go.RowKit
set_option linter.unusedVariables false

theorem fetch_some {os xs : List Ob} {es : List En} (h : fetch os es = some xs) : ∃ list, unpack es = some list ∧ stOk os = true ∧ putAll os list = some xs := by
  unfold fetch at h
  cases hu : unpack es with
  | none => rw [hu] at h; cases h
  | some list =>
    rw [hu] at h
    dsimp only at h
    by_cases ho : stOk os = true
    · rw [if_pos ho] at h; exact ⟨list, rfl, ho, h⟩
    · rw [if_neg ho] at h; cases h

theorem fetch_ok {os xs : List Ob} {es : List En} (h : fetch os es = some xs) : stOk xs = true := by
  obtain ⟨list, hu, ho, hp⟩ := fetch_some h
  exact (putTo_ok ho (unpack_ok hu).2.2 (Nat.le_refl _) hp).1

theorem fetch_nil {os : List Ob} (h : stOk os = true) : fetch os [] = some os := by
  have : unpack [] = some [] := rfl
  unfold fetch
  rw [this]
  simp [h, putAll, putTo]

theorem stOk_b {os : List Ob} (h : stOk os = true) : ObsB os := ⟨by have := (stOk_iff.1 h).1; omega, fun o ho => by have := (obOk_len ((stOk_iff.1 h).2.1 o ho)).1; omega⟩
theorem obs_b {os : List Ob} (hl : os.length ≤ 17) (h : ∀ o ∈ os, obOk o = true) : ObsB os := ⟨by omega, fun o ho => by have := (obOk_len (h o ho)).1; omega⟩

/-- A literal of no entries. -/
theorem ensEmpty (w : World) : EnsR (new w.heap.size) (w.alloc (.cells #[] 32)) (.slice (some ⟨w.heap.size, 0, none⟩) 0 0) [] :=
  EnsOwn.reads ⟨[], rfl, World.ownsRow_lit (e := 32) (size := 4) w #[] 0 (Nat.le_refl _) (by decide) rfl, fun z hz => by cases hz⟩

set_option maxRecDepth 20000 in
set_option maxHeartbeats 4000000 in
theorem fetchEmpty_walk {w : World} {a : Option Addr} {n cap : Nat} (hb : Bytes w.heap.size w a n cap) (hm : cap ≤ maxLen) :
    Calls Try.prog 6 #[.slice a n cap] w fun e w' => e = .returned (.bool true) ∧ Fr w.heap.size [] w w' := by
  have hnc := hb.1
  have HB := hid hb
  clear hb
  go_enter Try.func6, Try.ntmps6
  by_cases hn1 : n ≤ 1048576
  · have in1 : ¬ (1048576 : Int) < (n : Int) := by omega
    go_upto_region 4 with (go_at_call 17; go_must (refine (drawFetchStore_any HB.out hm).mono ?_; rintro e w1 ⟨v, vp, os, es, rfl, own1, hl, hok, ens1, hfew, fr1⟩; have O1 := hid own1.reads; have E1 := hid ens1.reads; have F1 := hid fr1; have OK := hid hok; have EF := hid hfew; clear own1 ens1 fr1 hok hfew))
    have OB := hid (obs_b hl OK.out)
    have EL := hid (show ∀ e ∈ es, e.links.length ≤ 1000000000 from fun e he => by have := (EF.out.2 e he).1; omega)
    have hel : es.length ≤ 1000000 := by have := EF.out.1; omega
    have OB1 := hid OB.out.1
    have OB2 := hid OB.out.2
    obtain ⟨R, hR⟩ : ∃ R, fetch os es = R := ⟨_, rfl⟩
    have HR := hid hR
    clear hR hl OK EF
    cases R with
    | none =>
      go_wp2_with (first
        | (go_at_call 18; go_must (refine (implFetch_any _ _ _ _ os es _ O1.out E1.out (Mild.new _ _) OB2.out OB1.out EL.out).mono ?_; rintro e w2 ⟨v2, rfl, own2, fr2⟩; rw [HR.out] at own2 ⊢; have R2 := hid own2.reads; have F2 := hid (F1.out.trans fr2.nil); have O2 := hid (O1.out.grow fr2); have E2 := hid (E1.out.grow fr2); clear own2 fr2))
        | (go_at_call 19; go_must (refine (specFetch_any _ _ _ _ os es _ O2.out E2.out OB2.out OB1.out hel EL.out).mono ?_; rintro e w3 ⟨v3, rfl, own3, fr3⟩; rw [HR.out] at own3 ⊢; have R3 := hid own3.reads; have R2 := hid (R2.out.grow fr3); have F3 := hid (F2.out.trans fr3.nil); clear own3 fr3))
        | (go_at_call 15; go_must (refine (sameObjects_eq _ _ _ _ [] _ R2.out R3.out ⟨Nat.zero_le _, fun o ho => (by cases ho)⟩).mono ?_; rintro e w4 ⟨rfl, fr4⟩; have F3 := hid (F3.out.trans fr4.nil); have R2 := hid (R2.out.grow fr4); have R3 := hid (R3.out.grow fr4); clear fr4)))
      go_ret
      exact ⟨rfl, F3.out⟩
    | some xs =>
      have SO := hid (fetch_some HR.out).choose_spec.2.1
      have XB := hid (stOk_b (fetch_ok HR.out))
      have FN := hid (fetch_nil SO.out)
      go_wp2_with (first
        | (go_at_call 18; (with_reducible refine (implFetch_any _ _ _ _ os es _ O1.out E1.out (Mild.new _ _) OB2.out OB1.out EL.out).mono ?_); go_must (rintro e w2 ⟨v2, rfl, own2, fr2⟩; rw [HR.out] at own2 ⊢; have own2 : ObsOwn _ _ _ xs := own2; have R2 := hid own2.reads; have F2 := hid (F1.out.trans fr2.nil); have O2 := hid (O1.out.grow fr2); have E2 := hid (E1.out.grow fr2); clear own2 fr2))
        | (go_at_call 19; go_must (refine (specFetch_any _ _ _ _ os es _ O2.out E2.out OB2.out OB1.out hel EL.out).mono ?_; rintro e w3 ⟨v3, rfl, own3, fr3⟩; rw [HR.out] at own3 ⊢; have own3 : ObsOwn _ _ _ xs := own3; have R3 := hid own3.reads; have R2 := hid (R2.out.grow fr3); have F3 := hid (F2.out.trans fr3.nil); have O3 := hid (O2.out.grow fr3); clear own3 fr3))
        | (go_at_call 15; (with_reducible refine (sameObjects_eq _ _ _ _ xs _ R2.out R3.out XB.out).mono ?_); go_must (rintro e w4 ⟨rfl, fr4⟩; have F4 := hid (F3.out.trans fr4.nil); have O4 := hid (O3.out.grow fr4); clear fr4))
        | (go_at_call 18; go_must (refine (implFetch_any _ _ _ _ os [] _ (O4.out.grow ((Fr.refl 0 [] w4).alloc _)) (ensEmpty w4) (Mild.new _ _) OB2.out OB1.out (fun e he => (by cases he))).mono ?_; rintro e w5 ⟨v5, rfl, own5, fr5⟩; rw [FN.out] at own5 ⊢; have own5 : ObsOwn _ _ _ os := own5; have R5 := hid own5.reads; have F5 := hid ((F4.out.alloc (.cells #[] 32)).trans fr5.nil); have O5 := hid (O4.out.grow (((Fr.refl 0 [] w4).alloc (.cells #[] 32)).trans fr5.nil)); clear own5 fr5))
        | (go_at_call 15; go_must (refine (sameObjects_eq _ _ _ _ os _ R5.out O5.out OB.out).mono ?_; rintro e w6 ⟨rfl, fr6⟩; have F6 := hid (F5.out.trans fr6.nil); clear fr6)))
      go_ret
      exact ⟨rfl, F6.out⟩
  · have in1 : (1048576 : Int) < (n : Int) := by omega
    go_wp2
    go_ret
    exact ⟨rfl, Fr.refl _ _ _⟩

end Go.Proofs.Ytjgbconlpolddaa

/- ObjectId of a valid object; StoreGet of an object that is there. -/
namespace Go.Proofs.Ytjgbconlpolddaa
open Go.RowKit
set_option linter.unusedVariables false

set_option maxRecDepth 20000 in
set_option maxHeartbeats 2000000 in
theorem objectId_any (K : Nat → Bool → Prop) (v : Value) (o : Ob) (w : World) (hv : IntsR K w v o.links) (hok : obOk o = true) :
    Calls Try.prog 21 #[.agg #[.int .i64 o.kind, v, .string (tx o.text)]] w fun e w' => e = .returned (.int .i64 (oid o)) ∧ Fr w.heap.size [] w w' := by
  obtain ⟨a, cap, rfl, hcap, -⟩ := hv.shape
  have F0 := hid ((Fr.refl w.heap.size [] w).alloc (.cells #[.int .i64 o.kind, .slice a o.links.length cap, .string (tx o.text)] 40))
  have B0 := hid (heap_alloc_new w (.cells #[.int .i64 o.kind, .slice a o.links.length cap, .string (tx o.text)] 40))
  have HV := hid (hv.grow F0.out)
  have OK := hid hok
  have hlen := (obOk_len hok).1
  clear hv hok
  go_enter Try.func21, Try.ntmps21
  go_wp2_with (first
    | (go_at_call 37; go_must (refine (ok_any K _ o _ HV.out (by omega)).mono ?_; rintro e w1 ⟨rfl, fr1⟩; rw [OK.out]; have B1 := hid (fr1.keep _ _ B0.out (.inr (by simp))); have F1 := hid (F0.out.trans fr1.nil); have HV1 := hid (HV.out.grow fr1); have c0 := cell_of (o := 0) B1.out rfl; have c1 := cell_of (o := 1) B1.out rfl; have c2 := cell_of (o := 2) B1.out rfl; clear fr1))
    | (go_at_call 51; go_must (refine (id_any K _ o _ HV1.out OK.out).mono ?_; rintro e w2 ⟨rfl, fr2⟩; have F2 := hid (F1.out.trans fr2.nil); clear fr2)))
  go_ret
  exact ⟨rfl, F2.out⟩

/-- One object of a list, as a list. -/
theorem ObsR.one {K : Nat → Bool → Prop} {w : World} {b off n cap : Nat} {os : List Ob} (h : ObsR K w (.slice (some ⟨b, off, none⟩) n cap) os) {k : Nat} (hk : k < os.length) : ObsR K w (.slice (some ⟨b, off + k * 3, none⟩) 1 (cap - k)) [os[k]] := by
  obtain ⟨zs, h1, h2, h3⟩ := h
  have hz : k < zs.length := by have := congrArg List.length h1; simp at this; omega
  have hzk : zs[k].1 = os[k] := by subst h1; simp
  refine ⟨[zs[k]], by simp [hzk], ?_, fun z hz' => by simp at hz'; subst hz'; exact h3 _ (List.getElem_mem hz)⟩
  obtain ⟨a, c, g1, g2, g3, g4, g5⟩ := h2
  cases g1
  obtain ⟨b', off', cur, e, fr, e1, e2, e3, e4⟩ := g5 (by omega)
  cases e1
  refine ⟨_, _, rfl, rfl, (by show 1 ≤ cap - k; omega), ⟨(fun h => by cases h), fun _ => ⟨b, off + k * 3, cur, e, fr, rfl, e2, e3, fun j u hj => ?_⟩⟩⟩
  have hj3 : j < 3 := by
    have := (List.getElem?_eq_some_iff.1 hj).1
    simpa [encOb] using this
  rw [Nat.add_assoc]
  refine e4 _ _ ?_
  rw [fmOb zs k j hj3 hz]
  simpa using hj

/-- A list of one object. -/
theorem ObsOwn.single {lo : Nat} {W : World} {v : Value} {o : Ob} (h : ObsOwn lo W v [o]) :
    ∃ g cap ua ucap, v = .slice (some ⟨g, 0, none⟩) 1 cap ∧ IntsR (new lo) W (.slice ua o.links.length ucap) o.links ∧ W.cell? ⟨g, 0, none⟩ = some (.int .i64 o.kind) ∧ W.cell? ⟨g, 1, none⟩ = some (.slice ua o.links.length ucap) ∧ W.cell? ⟨g, 2, none⟩ = some (.string (tx o.text)) ∧ lo ≤ g := by
  obtain ⟨zs, g1, g2, g3⟩ := id h
  obtain ⟨g, cap, rfl, hg, _, _⟩ := own_shape g2 (by simp)
  obtain ⟨ua, ucap, h0, h1, h2, hu⟩ := h.atS 0 (by simp)
  exact ⟨g, cap, ua, ucap, rfl, hu, by simpa using h0, by simpa using h1, by simpa using h2, hg⟩

set_option maxRecDepth 20000 in
set_option maxHeartbeats 4000000 in
theorem storeGet_found (K : Nat → Bool → Prop) (v : Value) (os : List Ob) (w : World) (hv : ObsR K w v os) (hok : stOk os = true) (k : Nat) (hk : k < os.length) (n : Int) (hn : n = oid os[k]) (hfk : findK os n = k) (hhk : hasK os n = true) :
    Calls Try.prog 20 #[v, .int .i64 n] w fun e w' => ∃ v', e = .returned (.tuple #[.agg #[.int .i64 os[k].kind, v', .string (tx os[k].text)], .bool true]) ∧ IntsR (new w.heap.size) w' v' os[k].links ∧ Fr w.heap.size [] w w' := by
  have hoi : 0 ≤ n ∧ n ≤ 990 := by rw [hn]; exact oid_in ((stOk_iff.1 hok).2.1 _ (List.getElem_mem hk))
  have hl16 := (stOk_iff.1 hok).1
  obtain ⟨a, cap, rfl, hcap, hcell⟩ := hv.shape
  obtain ⟨b, off, rfl, hbs, -⟩ : ∃ b off, a = some ⟨b, off, none⟩ ∧ b < w.heap.size ∧ True := by
    rcases hcell with hh | ⟨b, off, h1, h2, _⟩
    · rw [hh] at hk; cases hk
    · exact ⟨b, off, h1, h2, trivial⟩
  have OBL := hid (show ∀ p ∈ os, p.links.length ≤ 1000000000 from fun p hp => by have := (obOk_len ((stOk_iff.1 hok).2.1 p hp)).1; omega)
  have OBK := hid (show ∀ p ∈ [os[k]], p.links.length ≤ 1000000000 from fun p hp => by simp at hp; subst hp; exact OBL.out _ (List.getElem_mem hk))
  have F0 := hid ((Fr.refl w.heap.size [] w).alloc (.cells #[.int .i64 0, .slice none 0 0, .string ⟨#[]⟩] 40))
  have B0 := hid (heap_alloc_new w (.cells #[.int .i64 0, .slice none 0 0, .string ⟨#[]⟩] 40))
  have HV := hid (hv.grow F0.out)
  have OK := hid hok
  have FK := hid hfk
  have HK := hid hhk
  have hoi' := hoi
  obtain ⟨on0, on1⟩ := hoi
  have hk1 : (0 : Int) ≤ (k : Int) := by omega
  have hk2 : (k : Int) + 1 ≤ (cap : Int) := by omega
  have hk3 : (k : Int) < (cap : Int) := by omega
  have INR := hid (show inR n 0 990 = true by simp [inR]; exact hoi')
  clear hv hok hcell hfk hhk hn hoi'
  go_enter Try.func20, Try.ntmps20
  go_wp2_with (first
    | (go_at_call 23; go_must (refine (implStoreValid_any _ _ os _ HV.out OBL.out (by omega)).mono ?_; rintro e w1 ⟨rfl, fr1⟩; rw [OK.out]; have B1 := hid (fr1.keep _ _ B0.out (.inr (by simp))); have F1 := hid (F0.out.trans fr1.nil); have HV1 := hid (HV.out.grow fr1); clear fr1))
    | (go_at_call 58; go_must (refine (isId_any _ _).mono ?_; rintro e w' ⟨rfl, rfl⟩; rw [INR.out]))
    | (go_at_call 59; go_must (refine (findObject_any _ _ os n _ HV1.out OK.out on0 on1).mono ?_; rintro e w2 ⟨rfl, fr2⟩; rw [FK.out, HK.out]; have B2 := hid (fr2.keep _ _ B1.out (.inr (by simp))); have F2 := hid (F1.out.trans fr2.nil); have HV2 := hid ((HV1.out.grow fr2).one hk); clear fr2))
    | (go_at_call 60; go_must (refine (copyObjects_any _ _ [os[k]] _ HV2.out OBK.out (by simp)).mono ?_; rintro e w3 ⟨v3, rfl, own3, fr3⟩; obtain ⟨g, cap3, ua, ucap, rfl, hlk, hc0, hc1, hc2, hgf⟩ := own3.single; have LK := hid hlk; have B3 := hid (fr3.keep _ _ B2.out (.inr (by simp))); have F3 := hid (F2.out.trans fr3.nil); have b0 := cell_of (o := 0) B3.out rfl; have b1 := cell_of (o := 1) B3.out rfl; have b2 := cell_of (o := 2) B3.out rfl; have bf := fun o => free_of (o := o) B3.out; have hbl := lt_of_get B3.out; have hs2 := F2.out.size; have hgb : w.heap.size < g := (by have := lt_of_get B2.out; omega); clear fr3 own3 hlk)))
  have e := fill3 (x0 := .int .i64 os[k].kind) (x1 := .slice ua os[k].links.length ucap) (x2 := .string (tx os[k].text)) B3.out
  have e0 := cell_of (o := 0) e rfl
  have e1 := cell_of (o := 1) e rfl
  have e2 := cell_of (o := 2) e rfl
  have FT := (Fr.refl 0 [40] w3).fill3 (x0 := .int .i64 os[k].kind) (x1 := .slice ua os[k].links.length ucap) (x2 := .string (tx os[k].text)) B3.out (Nat.zero_le _)
  exact bodyPost_ret (v := .tuple #[.agg #[.int .i64 os[k].kind, .slice ua os[k].links.length ucap, .string (tx os[k].text)], .bool true]) (by simp [results, Try.results20, go_sem, e0, e1, e2]) rfl
    ⟨_, rfl, (LK.out.weak (fun b t _ hb => ⟨Nat.le_trans hs2 hb.1, hb.2⟩)).keep FT (Safe.new (by simp)), F3.out.new3 (by omega)⟩

/-- The place of an object in a store. -/
theorem findK_self {os : List Ob} (h : stOk os = true) {k : Nat} (hk : k < os.length) : findK os (oid os[k]) = k ∧ hasK os (oid os[k]) = true := by
  have e : findK os (oid os[k]) = k := findK_eq (by omega) (fun j hj hjk => (List.pairwise_iff_getElem.1 (stOk_iff.1 h).2.2) j k hj hk hjk) (fun _ => by omega)
  refine ⟨e, ?_⟩
  rw [hasK_lt (by rw [e]; exact hk)]
  simp [e]

end Go.Proofs.Ytjgbconlpolddaa
