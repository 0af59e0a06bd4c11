/- The program's StorePut. -/
import Derived.Test.YtjgbconlpolddaaGreatQStIns2
import Derived.Test.YtjgbconlpolddaaGreatQM5
import Derived.Test.YtjgbconlpolddaaGreatQStSame
import Derived.Test.YtjgbconlpolddaaGreatQStValI
import Derived.Test.YtjgbconlpolddaaGreatQPkObjI
import Derived.Test.YtjgbconlpolddaaGreatQM3
set_option linter.unusedVariables false
set_option linter.unusedSimpArgs false
namespace Go.Proofs.YtjgbconlpolddaaGreat
open Go.RowKit
set_option linter.unusedVariables false

theorem flat_take (zs : List (Ob × Value)) (k : Nat) : (zs.flatMap encOb).take (k * 3) = (zs.take k).flatMap encOb := by
  induction zs generalizing k with
  | nil => simp
  | cons z zs ih =>
    cases k with
    | zero => simp
    | succ k =>
      rw [show (k + 1) * 3 = k * 3 + 1 + 1 + 1 by omega]
      have := ih k
      simp [encOb] at this ⊢
      exact this

theorem flat_drop (zs : List (Ob × Value)) (k : Nat) : (zs.flatMap encOb).drop (k * 3) = (zs.drop k).flatMap encOb := by
  induction zs generalizing k with
  | nil => simp
  | cons z zs ih =>
    cases k with
    | zero => simp
    | succ k =>
      rw [show (k + 1) * 3 = k * 3 + 1 + 1 + 1 by omega]
      have := ih k
      simp [encOb] at this ⊢
      exact this

theorem ObsOwn.ins {lo : Nat} {w' : World} {v' : Value} {os : List Ob} {o : Ob} {u : Value} {zs : List (Ob × Value)} {k : Nat} (g1 : zs.map (·.1) = os) (g3 : ∀ z ∈ zs, IntsR (new lo) w' z.2 z.1.links)
    (hu : IntsR (new lo) w' u o.links) (hk : k ≤ os.length) (hown : w'.ownsRow lo 37 3 v' (os.length + 1) ((zs.flatMap encOb).take (k * 3) ++ [.int .i64 o.kind, u, .string (tx o.text)] ++ (zs.flatMap encOb).drop (k * 3))) : ObsOwn lo w' v' (os.take k ++ o :: os.drop k) := by
  subst g1
  have hl : k ≤ zs.length := by simpa using hk
  refine ⟨zs.take k ++ (o, u) :: zs.drop k, by simp, ?_, fun z hz => ?_⟩
  · have e : (List.take k (zs.map (·.1)) ++ o :: List.drop k (zs.map (·.1))).length = (zs.map (·.1)).length + 1 := by simp; omega
    rw [e]
    rw [flat_take, flat_drop] at hown
    simpa [encOb] using hown
  · rcases List.mem_append.1 hz with hz | hz
    · exact g3 z (List.mem_of_mem_take hz)
    · rcases List.mem_cons.1 hz with rfl | hz
      · exact hu
      · exact g3 z (List.mem_of_mem_drop hz)

theorem ObsOwn.notBlock {lo : Nat} {W : World} {v : Value} {os : List Ob} (h : ObsOwn lo W v os) {X : Nat} (hX : X < lo ∨ W.heap.size ≤ X) : v.ownBlock ≠ some X := by
  obtain ⟨zs, g1, g2, g3⟩ := h
  intro e
  have := g2.lt X e
  omega

theorem ObsOwn.setBox {lo : Nat} {W : World} {v : Value} {os : List Ob} (h : ObsOwn lo W v os) {X : Nat} {cs : Array Value} {f : Nat × Nat} (hb : W.heap[X]? = some (.cells cs 37 f)) (hX : X < lo) (j : Nat) (x : Value) : ObsOwn lo (W.setCell ⟨X, j, none⟩ x) v os := by
  have F : Fr 0 [37] W (W.setCell ⟨X, j, none⟩ x) := (Fr.refl 0 [37] W).setOld (p := ⟨X, j, none⟩) hb (Nat.zero_le _) (by simp [otag]) x
  have hn := h.notBlock (X := X) (.inl hX)
  obtain ⟨zs, g1, g2, g3⟩ := h
  exact ⟨zs, g1, g2.kept (grownBy_set W X j x) (.inr hn), fun z hz => (g3 z hz).keep F (Safe.new (by simp))⟩

theorem F_set {X : Nat} {W : World} {cs : Array Value} {f : Nat × Nat} (hb : W.heap[X]? = some (.cells cs 37 f)) (j : Nat) (x : Value) : Fr 0 [37] W (W.setCell ⟨X, j, none⟩ x) := (Fr.refl 0 [37] W).setOld (p := ⟨X, j, none⟩) hb (Nat.zero_le _) (by simp [otag]) x

set_option maxRecDepth 20000 in
set_option maxHeartbeats 4000000 in
theorem implPut_any (K K' : Nat → Bool → Prop) (v vo : Value) (os : List Ob) (o : Ob) (w : World) (hv : ObsR K w v os) (ho : IntsR K' w vo o.links) (hok : stOk os = true) (hoo : obOk o = true) :
    Calls Tryz.prog 66 #[v, .agg #[.int .i64 o.kind, vo, .string (tx o.text)]] w fun e w' => ∃ v', e = .returned (.tuple #[v', .bool (put os o).2]) ∧ ObsOwn w.heap.size w' v' (put os o).1 ∧ Fr w.heap.size [] w w' := by
  obtain ⟨a, cap, rfl, hcap, -⟩ := hv.shape
  obtain ⟨a', cap', rfl, hcap', -⟩ := ho.shape
  have hol := (obOk_len hoo).1
  have hl16 := (stOk_iff.1 hok).1
  have hob : ∀ p ∈ os, p.links.length ≤ 1000000000 := fun p hp => by have := (obOk_len ((stOk_iff.1 hok).2.1 p hp)).1; omega
  have HOB := hid hob
  have F0 := hid ((Fr.refl w.heap.size [] w).alloc (.cells #[.int .i64 o.kind, .slice a' o.links.length cap', .string (tx o.text)] 37))
  have B0 := hid (heap_alloc_new w (.cells #[.int .i64 o.kind, .slice a' o.links.length cap', .string (tx o.text)] 37))
  have HV := hid (hv.grow F0.out)
  have HO := hid (ho.grow F0.out)
  have OK := hid hok
  have OO := hid hoo
  have hoi := oid_in hoo
  have hkl := findK_le os (oid o)
  have PS := hid (fun h hk => put_same (os := os) (o := o) h hk)
  have PF := hid (fun h hl => put_full (os := os) (o := o) h hl)
  have PN := hid (fun h hl => put_new (os := os) (o := o) h hl)
  have HS := hid (fun h => hasK_some (os := os) (id := oid o) h)
  have FOBJ := hid (fun (K0 : Nat → Bool → Prop) (v0 : Value) (w0 : World) (h : ObsR K0 w0 v0 os) => findObject_any K0 v0 os (oid o) w0 h hok hoi.1 hoi.2)
  generalize findK os (oid o) = k at *
  clear hv ho hob hok hoo
  cases hh : hasK os (oid o)
  · have HH := hid hh
    by_cases h16 : os.length < 16
    · have i16 : ¬ (os.length : Int) = 16 := by omega
      have PN2 := hid (PN.out hh h16)
      clear hh PS PF PN HS
      generalize put os o = pp at *
      obtain ⟨pl, pb⟩ := pp
      obtain ⟨rfl, rfl⟩ : pl = os.take k ++ o :: os.drop k ∧ pb = true := by have := PN2.out; simp at this; exact this
      clear PN2
      dsimp only
      go_enter Tryz.func66, Tryz.ntmps66
      go_wp2_with (first
        | (go_at_call 25; go_must (refine (implStoreValid_any _ _ os _ HV.out HOB.out (by omega)).mono ?_; rintro e w1 ⟨rfl, fr1⟩; rw [OK.out]; have F1 := hid (F0.out.trans fr1.nil); have B1 := hid (fr1.keep _ _ B0.out (.inr (by simp))); have c0 := cell_of (o := 0) B1.out rfl; have c1 := cell_of (o := 1) B1.out rfl; have c2 := cell_of (o := 2) B1.out rfl; have FR1 := hid fr1; clear fr1))
        | (go_at_call 38; go_must (refine (ok_any _ _ o _ (HO.out.grow FR1.out) (by omega)).mono ?_; rintro e w2 ⟨rfl, fr2⟩; rw [OO.out]; have F2 := hid (F1.out.trans fr2.nil); have B2 := hid (fr2.keep _ _ B1.out (.inr (by simp))); have FR2 := hid (FR1.out.trans fr2.nil); clear fr2 c0 c1 c2))
        | (go_at_call 46; go_must (refine (copyObjects_any _ _ os _ (HV.out.grow FR2.out) HOB.out (by omega)).mono ?_; rintro e w3 ⟨v3, rfl, own3, fr3⟩; have hq3 := fr3.size; have F3 := hid (F2.out.trans fr3.nil); have B3 := hid (fr3.keep _ _ B2.out (.inr (by simp))); have FR3 := hid (FR2.out.trans fr3.nil); have OWN3 := hid own3; have hs2 := F2.out.size; have hlt2 := lt_of_get B2.out; obtain ⟨a3, cap3, rfl, _, _⟩ := own3.reads.shape; have c0 := cell_of (o := 0) B3.out rfl; have c1 := cell_of (o := 1) B3.out rfl; have c2 := cell_of (o := 2) B3.out rfl; clear fr3 own3))
        | (go_at_call 39; go_must (refine (id_any _ _ o _ (HO.out.grow FR3.out) OO.out).mono ?_; rintro e w4 ⟨rfl, fr4⟩; have hq4 := fr4.size; have F4 := hid (F3.out.trans fr4.nil); have B4 := hid (fr4.keep _ _ B3.out (.inr (by simp))); have FR4 := hid (FR3.out.trans fr4.nil); have OWN4 := hid (OWN3.out.grow fr4); clear fr4 c0 c1 c2))
        | (go_at_call 45; go_must (refine (FOBJ.out _ _ _ OWN4.out.reads).mono ?_; rintro e w5 ⟨rfl, fr5⟩; rw [HH.out]; have hq5 := fr5.size; have F5 := hid (F4.out.trans fr5.nil); have B5 := hid (fr5.keep _ _ B4.out (.inr (by simp))); have FR5 := hid (FR4.out.trans fr5.nil); have OWN5 := hid (OWN4.out.grow fr5); have c0 := cell_of (o := 0) B5.out rfl; have c1 := cell_of (o := 1) B5.out rfl; have c2 := cell_of (o := 2) B5.out rfl; clear fr5))
        | (go_at_call 36; go_must (refine (cloneI_any _ _ _ _ _ _ (HO.out.grow FR5.out) (oneI _) (by omega)).mono ?_; rintro e w6 ⟨v6, rfl, own6, fr6⟩; obtain ⟨a6, cap6, rfl⟩ := own_any own6; have hq6 := fr6.size; have F6 := hid (F5.out.trans fr6.nil); have B6 := hid (fr6.keep _ _ B5.out (.inr (by simp))); have OWN6 := hid (OWN5.out.grow fr6); have L6 := hid own6; have hs5 := F5.out.size; have hs6 := F6.out.size; have d0 := cell_of (o := 0) B6.out rfl; have d1 := cell_of (o := 1) B6.out rfl; have d2 := cell_of (o := 2) B6.out rfl; have df := fun o => free_of (o := o) B6.out; have dl := lt_of_get B6.out; clear fr6 own6 c0 c1 c2))
        | (go_at_call 86; go_must (have OWN7 := hid ((OWN6.out.setBox B6.out hlt2 1 (.slice a6 o.links.length cap6)).grow ((Fr.refl 0 [] _).alloc (.cells #[.int .i64 o.kind, .slice a6 o.links.length cap6, .string (tx o.text)] 37))); have hsz6 : (w6.setCell ⟨w.heap.size, 1, none⟩ (.slice a6 o.links.length cap6)).heap.size = w6.heap.size := (by simp [World.setCell]); have NB := hid (OWN6.out.notBlock (X := w6.heap.size) (.inr (Nat.le_refl _))); have L7 := hid (((show IntsR (new w.heap.size) w6 (.slice a6 o.links.length cap6) o.links from SlR.ofOwns (ownsRow_lo L6.out (by omega))).keep (F_set B6.out 1 (.slice a6 o.links.length cap6)) (Safe.new (by simp))).grow ((Fr.refl 0 [] _).alloc (.cells #[.int .i64 o.kind, .slice a6 o.links.length cap6, .string (tx o.text)] 37))); have F7 := hid ((F6.out.setNew (p := ⟨w.heap.size, 1, none⟩) (Nat.le_refl _) (.slice a6 o.links.length cap6)).alloc (.cells #[.int .i64 o.kind, .slice a6 o.links.length cap6, .string (tx o.text)] 37)); obtain ⟨zs, z1, z2, z3⟩ := OWN7.out; have Z1 := hid z1; have Z3 := hid z3; refine (insert_any (lo := w2.heap.size) _ os.length k w6.heap.size (zs.flatMap encOb) [.int .i64 o.kind, .slice a6 o.links.length cap6, .string (tx o.text)] _ z2 (by simp; omega) hkl (by omega) (heap_alloc_eq _ _ hsz6.symm) rfl NB.out (oneObs z3) (oneOb3 _ _ _ _ _)).mono ?_; rintro e w8 ⟨v8, rfl, own8, fr8⟩; have OWN8 := hid own8; have F8 := hid fr8; clear own8 fr8 z1 z2 z3)))
      go_ret2
      exact ⟨_, rfl, ObsOwn.ins (k := k) Z1.out (fun z hz => ((Z3.out z hz).keep F8.out (Safe.new (by simp))).weak (fun b t _ hb => ⟨by have := hb.1; omega, hb.2⟩)) (L7.out.keep F8.out (Safe.new (by simp))) hkl (ownsRow_lo OWN8.out (by omega)), F7.out.after (F8.out.mono (by omega) (fun _ h => h))⟩
    · have i16 : (os.length : Int) = 16 := by omega
      have PF2 := hid (PF.out hh h16)
      clear hh PS PF PN HS h16
      generalize put os o = pp at *
      obtain ⟨pl, pb⟩ := pp
      obtain ⟨rfl, rfl⟩ : os = pl ∧ pb = false := by have := PF2.out; simp at this; exact ⟨this.1.symm, this.2⟩
      clear PF2
      dsimp only
      go_enter Tryz.func66, Tryz.ntmps66
      go_wp2_with (first
        | (go_at_call 25; go_must (refine (implStoreValid_any _ _ os _ HV.out HOB.out (by omega)).mono ?_; rintro e w1 ⟨rfl, fr1⟩; rw [OK.out]; have F1 := hid (F0.out.trans fr1.nil); have B1 := hid (fr1.keep _ _ B0.out (.inr (by simp))); have c0 := cell_of (o := 0) B1.out rfl; have c1 := cell_of (o := 1) B1.out rfl; have c2 := cell_of (o := 2) B1.out rfl; have FR1 := hid fr1; clear fr1))
        | (go_at_call 38; go_must (refine (ok_any _ _ o _ (HO.out.grow FR1.out) (by omega)).mono ?_; rintro e w2 ⟨rfl, fr2⟩; rw [OO.out]; have F2 := hid (F1.out.trans fr2.nil); have B2 := hid (fr2.keep _ _ B1.out (.inr (by simp))); have FR2 := hid (FR1.out.trans fr2.nil); clear fr2 c0 c1 c2))
        | (go_at_call 46; go_must (refine (copyObjects_any _ _ os _ (HV.out.grow FR2.out) HOB.out (by omega)).mono ?_; rintro e w3 ⟨v3, rfl, own3, fr3⟩; have hq3 := fr3.size; have F3 := hid (F2.out.trans fr3.nil); have B3 := hid (fr3.keep _ _ B2.out (.inr (by simp))); have FR3 := hid (FR2.out.trans fr3.nil); have OWN3 := hid own3; have hs2 := F2.out.size; have hlt2 := lt_of_get B2.out; obtain ⟨a3, cap3, rfl, _, _⟩ := own3.reads.shape; have c0 := cell_of (o := 0) B3.out rfl; have c1 := cell_of (o := 1) B3.out rfl; have c2 := cell_of (o := 2) B3.out rfl; clear fr3 own3))
        | (go_at_call 39; go_must (refine (id_any _ _ o _ (HO.out.grow FR3.out) OO.out).mono ?_; rintro e w4 ⟨rfl, fr4⟩; have hq4 := fr4.size; have F4 := hid (F3.out.trans fr4.nil); have B4 := hid (fr4.keep _ _ B3.out (.inr (by simp))); have FR4 := hid (FR3.out.trans fr4.nil); have OWN4 := hid (OWN3.out.grow fr4); clear fr4 c0 c1 c2))
        | (go_at_call 45; go_must (refine (FOBJ.out _ _ _ OWN4.out.reads).mono ?_; rintro e w5 ⟨rfl, fr5⟩; rw [HH.out]; have hq5 := fr5.size; have F5 := hid (F4.out.trans fr5.nil); have B5 := hid (fr5.keep _ _ B4.out (.inr (by simp))); have FR5 := hid (FR4.out.trans fr5.nil); have OWN5 := hid (OWN4.out.grow fr5); have c0 := cell_of (o := 0) B5.out rfl; have c1 := cell_of (o := 1) B5.out rfl; have c2 := cell_of (o := 2) B5.out rfl; clear fr5)))
      go_ret2
      exact ⟨_, rfl, OWN5.out.lower (by omega), F5.out⟩
  · have HH := hid hh
    obtain ⟨hlt, heq⟩ := HS.out hh
    have PS2 := hid (PS.out hh hlt)
    have hki : (k : Int) < (os.length : Int) := by omega
    have OKk := hid (stOk_at OK.out hlt)
    have hil := (obOk_len OKk.out).1
    clear hh PS PF PN HS heq
    generalize put os o = pp at *
    obtain ⟨pl, pb⟩ := pp
    obtain ⟨rfl, hpb⟩ : os = pl ∧ pb = decide (os[k] = o) := by have := PS2.out; simp only [Prod.mk.injEq] at this; exact ⟨this.1.symm, this.2⟩
    have HPB := hid hpb
    clear PS2 hpb
    dsimp only
    go_enter Tryz.func66, Tryz.ntmps66
    go_wp2_with (first
        | (go_at_call 25; go_must (refine (implStoreValid_any _ _ os _ HV.out HOB.out (by omega)).mono ?_; rintro e w1 ⟨rfl, fr1⟩; rw [OK.out]; have F1 := hid (F0.out.trans fr1.nil); have B1 := hid (fr1.keep _ _ B0.out (.inr (by simp))); have c0 := cell_of (o := 0) B1.out rfl; have c1 := cell_of (o := 1) B1.out rfl; have c2 := cell_of (o := 2) B1.out rfl; have FR1 := hid fr1; clear fr1))
        | (go_at_call 38; go_must (refine (ok_any _ _ o _ (HO.out.grow FR1.out) (by omega)).mono ?_; rintro e w2 ⟨rfl, fr2⟩; rw [OO.out]; have F2 := hid (F1.out.trans fr2.nil); have B2 := hid (fr2.keep _ _ B1.out (.inr (by simp))); have FR2 := hid (FR1.out.trans fr2.nil); clear fr2 c0 c1 c2))
        | (go_at_call 46; go_must (refine (copyObjects_any _ _ os _ (HV.out.grow FR2.out) HOB.out (by omega)).mono ?_; rintro e w3 ⟨v3, rfl, own3, fr3⟩; have hq3 := fr3.size; have F3 := hid (F2.out.trans fr3.nil); have B3 := hid (fr3.keep _ _ B2.out (.inr (by simp))); have FR3 := hid (FR2.out.trans fr3.nil); have OWN3 := hid own3; have hs2 := F2.out.size; have hlt2 := lt_of_get B2.out; obtain ⟨a3, cap3, rfl, _, _⟩ := own3.reads.shape; have c0 := cell_of (o := 0) B3.out rfl; have c1 := cell_of (o := 1) B3.out rfl; have c2 := cell_of (o := 2) B3.out rfl; clear fr3 own3))
        | (go_at_call 39; go_must (refine (id_any _ _ o _ (HO.out.grow FR3.out) OO.out).mono ?_; rintro e w4 ⟨rfl, fr4⟩; have hq4 := fr4.size; have F4 := hid (F3.out.trans fr4.nil); have B4 := hid (fr4.keep _ _ B3.out (.inr (by simp))); have FR4 := hid (FR3.out.trans fr4.nil); have OWN4 := hid (OWN3.out.grow fr4); clear fr4 c0 c1 c2))
        | (go_at_call 45; go_must (refine (FOBJ.out _ _ _ OWN4.out.reads).mono ?_; rintro e w5 ⟨rfl, fr5⟩; rw [HH.out]; have hq5 := fr5.size; have F5 := hid (F4.out.trans fr5.nil); have B5 := hid (fr5.keep _ _ B4.out (.inr (by simp))); have FR5 := hid (FR4.out.trans fr5.nil); have OWN5 := hid (OWN4.out.grow fr5); have c0 := cell_of (o := 0) B5.out rfl; have c1 := cell_of (o := 1) B5.out rfl; have c2 := cell_of (o := 2) B5.out rfl; clear fr5)))
    obtain ⟨a5, cap5, hva5, -, hcell5⟩ := OWN5.out.reads.shape
    cases hva5
    rcases hcell5 with hh | ⟨b, off, rfl, hbs, hcell5⟩
    · rw [hh] at hlt; cases hlt
    obtain ⟨u, h0, h1, h2, hu⟩ := hcell5 k hlt
    obtain ⟨ua, ucap, rfl, _, _⟩ := hu.shape
    have HU := hid hu
    have hbx := lt_of_get B5.out
    clear hu hcell5
    generalize os[k] = p at *
    have fr1 : Fr w5.heap.size [] w5 w5.drew := (Fr.refl w5.heap.size [] w5).drew
    first
    | go_region_held3 (fun x => x.cell? ⟨b, off + k * 3, none⟩ = some (.int .i64 p.kind) ∧ x.cell? ⟨b, off + k * 3 + 1, none⟩ = some (.slice ua p.links.length ucap) ∧ x.cell? ⟨b, off + k * 3 + 2, none⟩ = some (.string (tx p.text)) ∧ x.cell? ⟨w.heap.size, 0, none⟩ = some (.int .i64 o.kind) ∧ x.cell? ⟨w.heap.size, 1, none⟩ = some (.slice a' o.links.length cap') ∧ x.cell? ⟨w.heap.size, 2, none⟩ = some (.string (tx o.text)))
      (exact ⟨fr1.cell hbs h0, fr1.cell hbs h1, fr1.cell hbs h2, fr1.cell hbx c0, fr1.cell hbx c1, fr1.cell hbx c2⟩)
      (first
        | (go_at_call 85; go_must (refine (implSame_any _ _ _ _ p o _ (HU.out.grow fr1) ((HO.out.grow FR5.out).grow fr1) (by omega) (by omega)).mono ?_; rintro e w6 ⟨rfl, fr⟩; have fr1 : Fr w5.heap.size [] w5 w6 := fr1.trans fr)))
    | fail
    go_wp2
    go_ret2
    refine ⟨.slice (some ⟨b, off, none⟩) os.length cap3, ?_, (OWN5.out.grow fr1).lower (by omega), F5.out.trans fr1.nil⟩
    have e := HPB.out
    subst e
    rfl

end Go.Proofs.YtjgbconlpolddaaGreat

/- The program's storeAll and FetchStore. -/
namespace Go.Proofs.YtjgbconlpolddaaGreat
open Go.RowKit
set_option linter.unusedVariables false

/-- What a pack stores. -/
def fetch (os : List Ob) (es : List En) : Option (List Ob) := match unpack es with | some list => if stOk os = true then putAll os list else none | none => none

theorem none_of {lo : Nat} {w' : World} {es : List En} {e : Ending} (hu : unpack es = none) (h : (unpack es = none ∧ e = .returned (.tuple #[.slice none 0 0, .bool false])) ∨ ∃ os v', unpack es = some os ∧ e = .returned (.tuple #[v', .bool true]) ∧ ObsOwn lo w' v' os) : e = .returned (.tuple #[.slice none 0 0, .bool false]) := by
  rcases h with ⟨_, h⟩ | ⟨os', v', h1, _⟩
  · exact h
  · rw [hu] at h1; cases h1

set_option maxRecDepth 20000 in
set_option maxHeartbeats 4000000 in
theorem implAll_any (K K' : Nat → Bool → Prop) (v vl : Value) (os list : List Ob) (w : World) (hv : ObsR K w v os) (hl : ObsR K' w vl list) (hok : stOk os = true) (hlo : ∀ o ∈ list, obOk o = true) (hll : list.length ≤ 1000000) :
    Calls Tryz.prog 40 #[v, vl] w fun e w' => ∃ v', e = .returned (.tuple #[v', .bool (putAll os list).isSome]) ∧ ObsOwn w.heap.size w' v' ((putAll os list).getD []) ∧ Fr w.heap.size [] w w' := by
  obtain ⟨a, cap, rfl, hcap, -⟩ := hv.shape
  obtain ⟨a', cap', rfl, hcap', hcell⟩ := hl.shape
  have hl16 := (stOk_iff.1 hok).1
  have hob : ∀ p ∈ os, p.links.length ≤ 1000000000 := fun p hp => by have := (obOk_len ((stOk_iff.1 hok).2.1 p hp)).1; omega
  have HOB := hid hob
  have HV := hid hv
  have HC := hid hcell
  have OK := hid hok
  have LO := hid hlo
  have PE := hid (show putAll os list = putTo os list list.length from rfl)
  generalize putAll os list = R at *
  clear hv hl hcell hob hok hlo
  go_enter Tryz.func40, Tryz.ntmps40
  go_wp2_with (go_at_call 46; go_must (refine (copyObjects_any _ _ os _ HV.out HOB.out (by omega)).mono ?_; rintro e w3 ⟨v3, rfl, own3, fr3⟩; have F3 := hid fr3; have OWN3 := hid own3; clear fr3 own3))
  go_loopw [6, 15] (fun vo vi wx => ∃ (k : Nat) (xs : List Ob), k ≤ list.length ∧ vi = .int .i64 k ∧ putTo os list k = some xs ∧ ObsOwn w.heap.size wx vo xs ∧ Fr w.heap.size [] w wx) (fun _ vi _ => list.length - (intOf vi).toNat)
  case atStart => exact ⟨0, os, Nat.zero_le _, rfl, rfl, OWN3.out, F3.out⟩
  case round =>
    obtain ⟨k, xs, hk, rfl, hto, hown, hfr⟩ := hrel
    have TO := hid hto
    have OWN := hid hown
    have XOK := hid (putTo_ok OK.out LO.out hk hto).1
    have hwr := hfr.size
    obtain ⟨va, vcap, rfl, _, _⟩ := hown.reads.shape
    clear hto hown
    by_cases hlt : k < list.length
    · rcases HC.out with hh | ⟨b, off, rfl, hbs, hcell⟩
      · rw [hh] at hlt; cases hlt
      · obtain ⟨u, h0, h1, h2, hu⟩ := hcell k hlt
        obtain ⟨ua, ucap, rfl, _, _⟩ := hu.shape
        have c0 := hfr.cell hbs h0
        have c1 := hfr.cell hbs h1
        have c2 := hfr.cell hbs h2
        have HU := hid (hu.grow hfr)
        have hki : (k : Int) < (list.length : Int) := by omega
        have OO := hid (LO.out _ (List.getElem_mem hlt))
        have SU := hid (putTo_succ hlt TO.out)
        have NN := hid (fun h => putTo_none (os := os) (list := list) (k := k + 1) h list.length hlt)
        clear h0 h1 h2 hu hcell
        generalize list[k] = o at *
        have FB := hid ((Fr.refl wr.heap.size [] wr).alloc (.cells #[.int .i64 o.kind, .slice ua o.links.length ucap, .string (tx o.text)] 37))
        obtain ⟨px, pb, hpp⟩ : ∃ px pb, put xs o = (px, pb) := ⟨_, _, rfl⟩
        have SU := hid (show putTo os list (k + 1) = if pb = true then some px else none by rw [SU.out, hpp])
        cases pb
        · have NO := hid (show R = none from by rw [PE.out]; exact NN.out (by rw [SU.out]; rfl))
          clear SU NN
          go_wp2_with (go_at_call 66; go_must (refine (implPut_any _ _ _ _ xs o _ (OWN.out.grow FB.out).reads (HU.out.grow FB.out) XOK.out OO.out).mono ?_; rintro e w4 ⟨v4, rfl, own4, fr4⟩; rw [hpp]; have F4 := hid (hfr.trans (FB.out.trans fr4.nil).nil); clear fr4 own4))
          go_ret2
          refine ⟨.slice none 0 0, ?_, ?_, F4.out⟩
          · rw [NO.out]; rfl
          · rw [NO.out]; exact ObsOwn.nil _ _
        · have NX := hid (show putTo os list (k + 1) = some px from by rw [SU.out]; rfl)
          clear SU NN
          go_wp2_with (go_at_call 66; go_must (refine (implPut_any _ _ _ _ xs o _ (OWN.out.grow FB.out).reads (HU.out.grow FB.out) XOK.out OO.out).mono ?_; rintro e w4 ⟨v4, rfl, own4, fr4⟩; rw [hpp] at own4; rw [hpp]; have OWN4 := hid own4; have F4 := hid (hfr.trans (FB.out.trans fr4.nil).nil); clear fr4 own4))
          go_roundw
          case rel => exact ⟨k + 1, px, by omega, by go_num, NX.out, OWN4.out.lower (by simp; omega), F4.out⟩
          case measure => simp [intOf]; omega
    · obtain rfl : k = list.length := by omega
      have RS := hid (show R = some xs from by rw [PE.out, TO.out])
      go_wp2
      go_ret2
      refine ⟨.slice va xs.length vcap, ?_, ?_, hfr⟩
      · have e := RS.out
        subst e
        rfl
      · rw [RS.out]; exact OWN.out

set_option maxRecDepth 20000 in
set_option maxHeartbeats 4000000 in
theorem implFetch_any (K K' : Nat → Bool → Prop) (v vp : Value) (os : List Ob) (es : List En) (w : World) (hv : ObsR K w v os) (hp : EnsR K' w vp es) (hm : Mild K' w.heap.size) (hob : ∀ p ∈ os, p.links.length ≤ 1000000000) (hol : os.length ≤ 1000000000) (hbl : ∀ e ∈ es, e.links.length ≤ 1000000000) :
    Calls Tryz.prog 13 #[v, vp] w fun e w' => ∃ v', e = .returned (.tuple #[v', .bool (fetch os es).isSome]) ∧ ObsOwn w.heap.size w' v' ((fetch os es).getD []) ∧ Fr w.heap.size [] w w' := by
  obtain ⟨a, cap, rfl, hcap, -⟩ := hv.shape
  obtain ⟨a', cap', rfl, hcap', -⟩ := hp.shape
  have HV := hid hv
  have HP := hid hp
  have HOB := hid hob
  have HBL := hid hbl
  have FE := hid (show fetch os es = (match unpack es with | some list => if stOk os = true then putAll os list else none | none => none) from rfl)
  generalize fetch os es = R at *
  clear hv hp hob hbl
  cases hu : unpack es with
  | none =>
    have HU := hid hu
    have NO := hid (show R = none by rw [FE.out, hu])
    clear FE hu
    go_enter Tryz.func13, Tryz.ntmps13
    go_wp2_with (go_at_call 11; go_must (refine (implPackObjects_any K' _ es _ HP.out hm HBL.out).mono ?_; rintro e w1 ⟨fr1, hres⟩; obtain rfl := none_of HU.out hres; have F1 := hid fr1; clear fr1 hres))
    go_ret2
    refine ⟨.slice none 0 0, ?_, ?_, F1.out⟩
    · rw [NO.out]; rfl
    · rw [NO.out]; exact ObsOwn.nil _ _
  | some list =>
    obtain ⟨hl, hll, hlok⟩ := unpack_ok hu
    have HU := hid hu
    have LOK := hid hlok
    have FE2 := hid (show R = if stOk os = true then putAll os list else none by rw [FE.out, hu])
    clear FE hu hlok
    cases hok : stOk os
    · have OK := hid hok
      have NO := hid (show R = none by rw [FE2.out, hok]; rfl)
      clear FE2 hok
      go_enter Tryz.func13, Tryz.ntmps13
      go_wp2_with (first
        | (go_at_call 11; go_must (refine (implPackObjects_any K' _ es _ HP.out hm HBL.out).mono ?_; rintro e w1 ⟨fr1, hres⟩; obtain ⟨v1, rfl, own1⟩ := unpacked_of HU.out hres; have F1 := hid fr1; clear fr1 hres own1))
        | (go_at_call 25; go_must (refine (implStoreValid_any _ _ os _ (HV.out.grow F1.out) HOB.out hol).mono ?_; rintro e w2 ⟨rfl, fr2⟩; rw [OK.out]; have F2 := hid (F1.out.trans fr2.nil); clear fr2)))
      go_ret2
      refine ⟨.slice none 0 0, ?_, ?_, F2.out⟩
      · rw [NO.out]; rfl
      · rw [NO.out]; exact ObsOwn.nil _ _
    · have OK := hid hok
      have RS := hid (show R = putAll os list by rw [FE2.out, hok]; rfl)
      clear FE2 hok
      go_enter Tryz.func13, Tryz.ntmps13
      go_wp2_with (first
        | (go_at_call 11; go_must (refine (implPackObjects_any K' _ es _ HP.out hm HBL.out).mono ?_; rintro e w1 ⟨fr1, hres⟩; obtain ⟨v1, rfl, own1⟩ := unpacked_of HU.out hres; have F1 := hid fr1; have OWN1 := hid own1; clear fr1 hres own1))
        | (go_at_call 25; go_must (refine (implStoreValid_any _ _ os _ (HV.out.grow F1.out) HOB.out hol).mono ?_; rintro e w2 ⟨rfl, fr2⟩; rw [OK.out]; have F2 := hid (F1.out.trans fr2.nil); have OWN2 := hid (OWN1.out.grow fr2); clear fr2))
        | (go_at_call 40; go_must (refine (implAll_any _ _ _ _ os list _ (HV.out.grow F2.out) OWN2.out.reads OK.out LOK.out (by omega)).mono ?_; rintro e w3 ⟨v3, rfl, own3, fr3⟩; have F3 := hid (F2.out.trans fr3.nil); have OWN3 := hid own3; have hs := F2.out.size; clear fr3 own3)))
      go_ret2
      refine ⟨v3, ?_, ?_, F3.out⟩
      · have e := RS.out
        subst e
        rfl
      · rw [RS.out]; exact OWN3.out.lower hs

end Go.Proofs.YtjgbconlpolddaaGreat
