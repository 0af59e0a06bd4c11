/- The reference's PackMake: the whole. -/
import Derived.Test.YtjgbconlpolddaaGreatQPkPackS
import Derived.Test.YtjgbconlpolddaaGreatQM2
set_option linter.unusedVariables false
set_option linter.unusedSimpArgs false
namespace Go.Proofs.YtjgbconlpolddaaGreat
open Go.RowKit
set_option linter.unusedVariables false

/-- Entries in a row of their own. -/
def EnsOwn (lo : Nat) (w : World) (v : Value) (es : List En) : Prop :=
  ∃ zs : List (En × (Value × Value)), zs.map (·.1) = es ∧ w.ownsRow lo 50 4 v es.length (zs.flatMap encEn) ∧ ∀ z ∈ zs, IntsR (new lo) w z.2.1 z.1.links ∧ OpsR (new lo) w z.2.2 z.1.ops

theorem EnsOwn.reads {lo : Nat} {w : World} {v : Value} {es : List En} (h : EnsOwn lo w v es) : EnsR (new lo) w v es := by
  obtain ⟨zs, h1, h2, h3⟩ := h
  exact ⟨zs, h1, SlR.ofOwns h2, h3⟩

theorem EnsOwn.keep {lo B : Nat} {T : List Nat} {w w' : World} {v : Value} {es : List En} (h : EnsOwn lo w v es) (hf : Fr B T w w') (h1 : 50 ∉ T) (h2 : 3 ∉ T) (h3 : 91 ∉ T) : EnsOwn lo w' v es := by
  obtain ⟨zs, g1, g2, g3⟩ := h
  exact ⟨zs, g1, ownsRow_keep g2 hf h1, fun z hz => ⟨(g3 z hz).1.keep hf (Safe.new h2), (g3 z hz).2.keep hf (Safe.new h3)⟩⟩

theorem EnsOwn.grow {lo B : Nat} {w w' : World} {v : Value} {es : List En} (h : EnsOwn lo w v es) (hf : Fr B [] w w') : EnsOwn lo w' v es := by
  obtain ⟨zs, g1, g2, g3⟩ := h
  exact ⟨zs, g1, ownsRow_grow g2 hf, fun z hz => ⟨(g3 z hz).1.grow hf, (g3 z hz).2.grow hf⟩⟩

theorem EnsOwn.lower {lo lo' : Nat} {w : World} {v : Value} {es : List En} (h : EnsOwn lo w v es) (hl : lo' ≤ lo) : EnsOwn lo' w v es := by
  obtain ⟨zs, g1, g2, g3⟩ := h
  exact ⟨zs, g1, ownsRow_lo g2 hl, fun z hz => ⟨(g3 z hz).1.weak (fun b t _ hb => ⟨Nat.le_trans hl hb.1, hb.2⟩), (g3 z hz).2.weak (fun b t _ hb => ⟨Nat.le_trans hl hb.1, hb.2⟩)⟩⟩

theorem EnsOwn.nil (lo : Nat) (w : World) : EnsOwn lo w (.slice none 0 0) [] := ⟨[], rfl, World.ownsRow_nil _ _ _ _, fun z hz => by cases hz⟩

theorem EnsOwn.empty {w : World} {n : Nat} (hn : n = w.heap.size) : EnsOwn n (w.alloc (.cells #[] 50)) (.slice (some ⟨n, 0, none⟩) 0 0) [] := by
  subst hn
  exact ⟨[], rfl, World.ownsRow_lit (e := 50) (size := 4) w #[] 0 (Nat.le_refl _) (by decide) rfl, fun z hz => by cases hz⟩

theorem EnsOwn.snoc {lo n : Nat} {w' : World} {v' : Value} {es : List En} {e : En} {u p : Value} {zs : List (En × (Value × Value))} (g1 : zs.map (·.1) = es) (g3 : ∀ z ∈ zs, IntsR (new lo) w' z.2.1 z.1.links ∧ OpsR (new lo) w' z.2.2 z.1.ops)
    (hu : IntsR (new lo) w' u e.links) (hp : OpsR (new lo) w' p e.ops) (hn : n = es.length) (hown : w'.ownsRow lo 50 4 v' (n + 1) (zs.flatMap encEn ++ [.int .i64 e.kind, u, .int .i64 e.base, p])) : EnsOwn lo w' v' (es ++ [e]) := by
  subst hn
  refine ⟨zs ++ [(e, (u, p))], by simp [g1], ?_, fun z hz => ?_⟩
  · rw [List.flatMap_append, List.length_append]
    simpa [encEn] using hown
  · rcases List.mem_append.1 hz with hz | hz
    · exact g3 z hz
    · simp at hz
      subst hz
      exact ⟨hu, hp⟩

theorem oneN4 (x y : Int) (a c : Option Addr) (n m p q : Nat) : ∀ u ∈ [Value.int .i64 x, .slice a n p, .int .i64 y, .slice c m q], u.oneCell' = true := by
  intro u hu
  simp at hu
  rcases hu with rfl | rfl | rfl | rfl <;> rfl

theorem EnsR.nilAt (K : Nat → Bool → Prop) (w : World) : EnsR K w (.slice none 0 0) [] := ⟨[], rfl, SlR.nil _ _ _ _, fun z hz => by cases hz⟩

theorem packOk_false {os : List Ob} {k : Nat} (hk : k < os.length) (h : obOk os[k] = false ∨ 16 < os.length) : packOk os = false := by
  unfold packOk
  rcases h with h | h
  · have : os.all obOk = false := by rw [List.all_eq_false]; exact ⟨os[k], List.getElem_mem hk, by simp [h]⟩
    rw [this]; simp
  · have : decide (os.length ≤ 16) = false := by simp; omega
    rw [this]; rfl

set_option maxRecDepth 20000 in
set_option maxHeartbeats 4000000 in
theorem specPackMake_any (K : Nat → Bool → Prop) (v : Value) (os : List Ob) (w : World) (hv : ObsR K w v os) (hb : ObsB os) :
    Calls Tryz.prog 23 #[v] w fun e w' => ∃ v', e = .returned (.tuple #[v', .bool (packOk os)]) ∧ EnsOwn w.heap.size w' v' (if packOk os then pack os else []) ∧ Fr w.heap.size [] w w' := by
  obtain ⟨a, cap, rfl, hcap, hcell⟩ := hv.shape
  have HV := hid hv
  have HB := hid hb
  have hbl := hb.1
  obtain ⟨ien, hei, hez0, hez1, hez2⟩ := info_parts infoEn
  obtain ⟨iint, hii, hiz0, hiz1, hiz2⟩ := info_parts infoI
  have E0 := hid (EnsOwn.empty (w := w) rfl)
  clear hv hb
  generalize hP : packOk os = P
  have HPK := hid hP
  clear hP
  go_enter Tryz.func23, Tryz.ntmps23
  go_wp2
  go_loopw [4, 5] (fun vo vi wx => ∃ k : Nat, k ≤ os.length ∧ vi = .int .i64 k ∧ (k = 0 ∨ os.length ≤ 16) ∧ (os.take k).all obOk = true ∧ EnsOwn w.heap.size wx vo (pk os k).1 ∧ Fr w.heap.size [] w wx) (fun _ vi _ => os.length - (intOf vi).toNat)
  case atStart => exact ⟨0, Nat.zero_le _, rfl, .inl rfl, rfl, E0.out, (Fr.refl _ _ _).alloc _⟩
  case round =>
    obtain ⟨k, hk, rfl, h16, hto, hown, hfr⟩ := hrel
    have HT := hid hto
    have OWN := hid hown
    obtain ⟨va, vcap, rfl, _, _⟩ := hown.reads.shape
    have hpl := (pk_len hk).1
    rw [hpl] at OWN ⊢
    have hls := hfr.size
    clear hto hown
    by_cases hlt : k < os.length
    · rcases hcell with hh | ⟨b, off, rfl, hbs, hcell⟩
      · rw [hh] at hlt; cases hlt
      · obtain ⟨u, h0, h1, h2, hu⟩ := hcell k hlt
        obtain ⟨ua, ucap, rfl, _, _⟩ := hu.shape
        have c0 := hfr.cell hbs h0
        have c1 := hfr.cell hbs h1
        have c2 := hfr.cell hbs h2
        have HU := hid (hu.grow hfr)
        have hki : (k : Int) < (os.length : Int) := by omega
        have hbk := HB.out.2 _ (List.getElem_mem hlt)
        have H0 := hid h0
        have H1 := hid h1
        have H2 := hid h2
        clear h0 h1 h2 hu
        cases g : obOk os[k]
        · have G := hid g
          obtain rfl : P = false := by rw [← HPK.out]; exact packOk_false hlt (.inl g)
          clear g hcell
          go_wp2_with (go_at_call 56; go_must (refine (objectValid_any K _ os[k] _ HU.out hbk).mono ?_; rintro e w1 ⟨rfl, fr1⟩; rw [G.out]; have F1 := hid (hfr.trans fr1.nil)))
          go_ret2
          exact ⟨_, rfl, (EnsOwn.empty rfl).lower F1.out.size, F1.out.alloc _⟩
        · by_cases hl16 : os.length ≤ 16
          · have G := hid g
            have i16 : ¬ (16 : Int) < (os.length : Int) := by omega
            have i17 : (os.length : Int) ≤ 16 := by omega
            have INV := hid (pk_inv (os := os) (i := k) hk)
            have LEN := hid (pk_len (os := os) (i := k) hk)
            have hps := pk_succ hlt
            have hpin := pickTo_in (os.map (·.text)) (pk os k).2 os[k].text k
            obtain ⟨B, hBq⟩ : ∃ B, (pickTo (os.map (·.text)) (pk os k).2 os[k].text k).1 = B := ⟨_, rfl⟩
            rw [hBq] at hps hpin
            have hB1 := hpin.1
            have hB2 := hpin.2.1
            have PS := hid hps
            have HBQ := hid hBq
            have HT1 := hid (show (os.take (k + 1)).all obOk = true by rw [List.take_succ_eq_append_getElem hlt, List.all_append, HT.out]; simp [g])
            have KP := hid (fun (x : World) (f : Fr w.heap.size [] w x) => (⟨f.cell hbs H0.out, f.cell hbs H1.out, f.cell hbs H2.out, f⟩ : x.cell? ⟨b, off + k * 3, none⟩ = some (.int .i64 os[k].kind) ∧ x.cell? ⟨b, off + k * 3 + 1, none⟩ = some (.slice ua os[k].links.length ucap) ∧ x.cell? ⟨b, off + k * 3 + 2, none⟩ = some (.string (tx os[k].text)) ∧ Fr w.heap.size [] w x))
            have HC := hid hcell
            clear g hps hpin hBq hcell
            rcases (show B < 0 ∨ 0 ≤ B by omega) with hneg | hpos
            · have ib : ¬ (0 : Int) ≤ B := by omega
              have hbt := hid (show baseT (os.map (·.text)) B = [] by unfold baseT; rw [if_pos hneg])
              go_wp2_with (first
                | (go_at_call 56; go_must (refine (objectValid_any K _ os[k] _ HU.out hbk).mono ?_; rintro e w1 ⟨rfl, fr1⟩; rw [G.out]; have F1 := hid (hfr.trans fr1.nil); have OWN1 := hid (OWN.out.grow fr1); have HU1 := hid (HU.out.grow fr1); have d2 := F1.out.cell hbs H2.out; clear fr1 c0 c1 c2))
                | (go_at_call 57; go_must (refine (l3Best_any (new w.heap.size) K _ _ (pk os k).1 os (pk os k).2 os[k].text _ OWN1.out.reads (HV.out.grow F1.out) (by rw [LEN.out.1]; omega) (by omega) (by rw [LEN.out.1, LEN.out.2]) INV.out.1 (fun j hj => INV.out.2 j (by rw [LEN.out.1] at hj; exact hj))).mono ?_; rintro e w2 ⟨rfl, fr2⟩; rw [LEN.out.1, HBQ.out]; have F2 := hid (F1.out.trans fr2.nil); have OWN2 := hid (OWN1.out.grow fr2); have HU2 := hid (HU1.out.grow fr2); clear fr2 OWN1)))
              obtain ⟨zs, z1, z2, z3⟩ := OWN2.out
              have Z2 := hid z2
              have Z3 := hid z3
              clear z2 z3
              have hs2 := F2.out.size
              have HUW := hid (show IntsR K w2 (.slice ua os[k].links.length ucap) os[k].links from HU2.out)
              have hll := (obOk_len G.out).1
              first
              | go_region_held3 (fun x => x.cell? ⟨b, off + k * 3, none⟩ = some (.int .i64 os[k].kind) ∧ x.cell? ⟨b, off + k * 3 + 1, none⟩ = some (.slice ua os[k].links.length ucap) ∧ x.cell? ⟨b, off + k * 3 + 2, none⟩ = some (.string (tx os[k].text)) ∧ Fr w.heap.size [] w x)
                (first
                  | exact KP.out _ F2.out.drew
                  | exact KP.out _ (F2.out.alloc _).drew
                  | exact KP.out _ F5.out
                  | exact KP.out _ (F4.out.alloc _)
                  | exact KP.out _ F4.out
                  | exact KP.out _ F3.out)
                (first
                  | (refine step_ap rfl (.tmp 48) (.tmp 53) 24 rfl w2.heap.size 3 iint (.int .i64 0) 1 8 Tryz.underlying24 hii hiz0 hiz1 hiz2 rfl (by decide) (.slice (some ⟨w2.heap.size, 0, none⟩) 0 0) 0 [] (by rfl) (ownsRow_keep (World.ownsRow_made w2 #[] 0 (Nat.le_refl _) (by decide) (by simp)) (Fr.refl 0 [] _).drew (by simp)) K 3 _ os[k].links.length (os[k].links.map (Value.int .i64)) (by rfl) ((HUW.out.grow (((Fr.refl 0 [] w2).alloc (.cells #[] 3)).drew))) (oneI _) (by unfold maxLen; omega) (by omega) (by simp) ?_; intro v3 w3 own3 fr3; rw [Nat.zero_add, List.nil_append] at own3; obtain ⟨a3, cap3, rfl⟩ := own_any own3; have W3 := hid ((((Fr.refl w2.heap.size [] w2).alloc (.cells #[] 3)).drew).after fr3); have F3 := hid (F2.out.trans W3.out.nil); have OWN3 := hid own3; clear own3 fr3)
                  | (go_at_call 58; go_must (refine (specDeltaMake_any [] os[k].text _).mono ?_; rintro e w4 ⟨v4, rfl, own4, fr4⟩; have OWN4 := hid own4; obtain ⟨a4, cap4, rfl⟩ := own_any own4; have W4 := hid (W3.out.trans fr4.nil); have F4 := hid (F3.out.trans fr4.nil); have FR4 := hid fr4; clear own4 fr4))
                  | (refine step_ap rfl (.tmp 42) (.tmp 64) 27 rfl w.heap.size 50 ien (.agg #[.int .i64 0, .slice none 0 0, .int .i64 0, .slice none 0 0]) 4 64 Tryz.underlying27 hei hez0 hez1 hez2 rfl (by decide) (.slice va k vcap) k (zs.flatMap encEn) (by rfl) (ownsRow_grow (show w2.ownsRow w.heap.size 50 4 (.slice va k vcap) k (zs.flatMap encEn) from by have := Z2.out; rwa [LEN.out.1] at this) (W4.out.alloc _)) (new w4.heap.size) 50 _ 1 [.int .i64 os[k].kind, .slice a3 os[k].links.length cap3, .int .i64 B, .slice a4 (delta [] os[k].text).length cap4] (by rfl) (SlR.lit rfl) (oneN4 _ _ _ _ _ _ _ _) (by unfold maxLen; omega) (by omega) (by have := F4.out.size; simp; omega) ?_; intro v5 w5 own5 fr5; obtain ⟨a5, cap5, rfl⟩ := own_any own5; have F5 := hid ((F4.out.alloc (.cells #[.int .i64 os[k].kind, .slice a3 os[k].links.length cap3, .int .i64 B, .slice a4 (delta [] os[k].text).length cap4] 50)).after fr5); have FR5 := hid fr5; have OWN5 := hid own5; clear own5 fr5))
              all_goals go_wp2
              have FX := W4.out.alloc (.cells #[.int .i64 os[k].kind, .slice a3 os[k].links.length cap3, .int .i64 B, .slice a4 (delta [] os[k].text).length cap4] 50)
              have s3 := W3.out.size
              have FY : Fr 0 [] w4 _ := (Fr.refl 0 [] w4).alloc (.cells #[.int .i64 os[k].kind, .slice a3 os[k].links.length cap3, .int .i64 B, .slice a4 (delta [] os[k].text).length cap4] 50)
              have hL : IntsR (new w.heap.size) w5 (.slice a3 os[k].links.length cap3) os[k].links := (((show IntsR (new w2.heap.size) w3 (.slice a3 os[k].links.length cap3) os[k].links from SlR.ofOwns OWN3.out).weak (fun b t _ hb => ⟨by have := hb.1; omega, hb.2⟩)).grow (FR4.out.trans FY.nil)).keep FR5.out (Safe.new (by simp))
              have hO : OpsR (new w.heap.size) w5 (.slice a4 (delta [] os[k].text).length cap4) (delta [] os[k].text) := ((OWN4.out.reads.weak (fun b t _ hb => ⟨by have := hb.1; omega, hb.2⟩)).grow FY).keep FR5.out (Safe.new (by simp))
              have EN := EnsOwn.snoc (lo := w.heap.size) (e := ⟨os[k].kind, os[k].links, B, delta [] os[k].text⟩) z1 (fun z hz => ⟨((Z3.out z hz).1.grow FX).keep FR5.out (Safe.new (by simp)), ((Z3.out z hz).2.grow FX).keep FR5.out (Safe.new (by simp))⟩) hL hO LEN.out.1.symm OWN5.out
              go_roundw
              case rel => exact ⟨k + 1, by omega, by go_num, .inr hl16, HT1.out, by rw [PS.out, hbt.out]; exact EN, F5.out⟩
              case measure => simp [intOf]; omega
            · obtain ⟨q, rfl⟩ := Int.eq_ofNat_of_zero_le hpos
              have hqo : q < os.length := by omega
              have iq : (q : Int) < (os.length : Int) := by omega
              have hbt := hid (show baseT (os.map (·.text)) (q : Int) = os[q].text by
                unfold baseT
                rw [if_neg (by omega), Int.toNat_natCast, List.getD_eq_getElem?_getD, List.getElem?_map, List.getElem?_eq_getElem hqo]; rfl)
              go_wp2_with (first
                | (go_at_call 56; go_must (refine (objectValid_any K _ os[k] _ HU.out hbk).mono ?_; rintro e w1 ⟨rfl, fr1⟩; rw [G.out]; have F1 := hid (hfr.trans fr1.nil); have OWN1 := hid (OWN.out.grow fr1); have HU1 := hid (HU.out.grow fr1); have d2 := F1.out.cell hbs H2.out; clear fr1 c0 c1 c2))
                | (go_at_call 57; go_must (refine (l3Best_any (new w.heap.size) K _ _ (pk os k).1 os (pk os k).2 os[k].text _ OWN1.out.reads (HV.out.grow F1.out) (by rw [LEN.out.1]; omega) (by omega) (by rw [LEN.out.1, LEN.out.2]) INV.out.1 (fun j hj => INV.out.2 j (by rw [LEN.out.1] at hj; exact hj))).mono ?_; rintro e w2 ⟨rfl, fr2⟩; rw [LEN.out.1, HBQ.out]; have F2 := hid (F1.out.trans fr2.nil); have OWN2 := hid (OWN1.out.grow fr2); have HU2 := hid (HU1.out.grow fr2); obtain ⟨_, _, _, r2, _⟩ := HC.out q hqo; have d3 := F2.out.cell hbs r2; clear fr2 OWN1 r2)))
              obtain ⟨zs, z1, z2, z3⟩ := OWN2.out
              have Z2 := hid z2
              have Z3 := hid z3
              clear z2 z3
              have hs2 := F2.out.size
              have HUW := hid (show IntsR K w2 (.slice ua os[k].links.length ucap) os[k].links from HU2.out)
              have hll := (obOk_len G.out).1
              first
              | go_region_held3 (fun x => x.cell? ⟨b, off + k * 3, none⟩ = some (.int .i64 os[k].kind) ∧ x.cell? ⟨b, off + k * 3 + 1, none⟩ = some (.slice ua os[k].links.length ucap) ∧ x.cell? ⟨b, off + k * 3 + 2, none⟩ = some (.string (tx os[k].text)) ∧ Fr w.heap.size [] w x)
                (first
                  | exact KP.out _ F2.out.drew
                  | exact KP.out _ (F2.out.alloc _).drew
                  | exact KP.out _ F5.out
                  | exact KP.out _ (F4.out.alloc _)
                  | exact KP.out _ F4.out
                  | exact KP.out _ F3.out)
                (first
                  | (refine step_ap rfl (.tmp 48) (.tmp 53) 24 rfl w2.heap.size 3 iint (.int .i64 0) 1 8 Tryz.underlying24 hii hiz0 hiz1 hiz2 rfl (by decide) (.slice (some ⟨w2.heap.size, 0, none⟩) 0 0) 0 [] (by rfl) (ownsRow_keep (World.ownsRow_made w2 #[] 0 (Nat.le_refl _) (by decide) (by simp)) (Fr.refl 0 [] _).drew (by simp)) K 3 _ os[k].links.length (os[k].links.map (Value.int .i64)) (by rfl) ((HUW.out.grow (((Fr.refl 0 [] w2).alloc (.cells #[] 3)).drew))) (oneI _) (by unfold maxLen; omega) (by omega) (by simp) ?_; intro v3 w3 own3 fr3; rw [Nat.zero_add, List.nil_append] at own3; obtain ⟨a3, cap3, rfl⟩ := own_any own3; have W3 := hid ((((Fr.refl w2.heap.size [] w2).alloc (.cells #[] 3)).drew).after fr3); have F3 := hid (F2.out.trans W3.out.nil); have OWN3 := hid own3; clear own3 fr3)
                  | (go_at_call 58; go_must (refine (specDeltaMake_any os[q].text os[k].text _).mono ?_; rintro e w4 ⟨v4, rfl, own4, fr4⟩; have OWN4 := hid own4; obtain ⟨a4, cap4, rfl⟩ := own_any own4; have W4 := hid (W3.out.trans fr4.nil); have F4 := hid (F3.out.trans fr4.nil); have FR4 := hid fr4; clear own4 fr4))
                  | (refine step_ap rfl (.tmp 42) (.tmp 64) 27 rfl w.heap.size 50 ien (.agg #[.int .i64 0, .slice none 0 0, .int .i64 0, .slice none 0 0]) 4 64 Tryz.underlying27 hei hez0 hez1 hez2 rfl (by decide) (.slice va k vcap) k (zs.flatMap encEn) (by rfl) (ownsRow_grow (show w2.ownsRow w.heap.size 50 4 (.slice va k vcap) k (zs.flatMap encEn) from by have := Z2.out; rwa [LEN.out.1] at this) (W4.out.alloc _)) (new w4.heap.size) 50 _ 1 [.int .i64 os[k].kind, .slice a3 os[k].links.length cap3, .int .i64 (q : Int), .slice a4 (delta os[q].text os[k].text).length cap4] (by rfl) (SlR.lit rfl) (oneN4 _ _ _ _ _ _ _ _) (by unfold maxLen; omega) (by omega) (by have := F4.out.size; simp; omega) ?_; intro v5 w5 own5 fr5; obtain ⟨a5, cap5, rfl⟩ := own_any own5; have F5 := hid ((F4.out.alloc (.cells #[.int .i64 os[k].kind, .slice a3 os[k].links.length cap3, .int .i64 (q : Int), .slice a4 (delta os[q].text os[k].text).length cap4] 50)).after fr5); have FR5 := hid fr5; have OWN5 := hid own5; clear own5 fr5))
              all_goals go_wp2
              have FX := W4.out.alloc (.cells #[.int .i64 os[k].kind, .slice a3 os[k].links.length cap3, .int .i64 (q : Int), .slice a4 (delta os[q].text os[k].text).length cap4] 50)
              have s3 := W3.out.size
              have FY : Fr 0 [] w4 _ := (Fr.refl 0 [] w4).alloc (.cells #[.int .i64 os[k].kind, .slice a3 os[k].links.length cap3, .int .i64 (q : Int), .slice a4 (delta os[q].text os[k].text).length cap4] 50)
              have hL : IntsR (new w.heap.size) w5 (.slice a3 os[k].links.length cap3) os[k].links := (((show IntsR (new w2.heap.size) w3 (.slice a3 os[k].links.length cap3) os[k].links from SlR.ofOwns OWN3.out).weak (fun b t _ hb => ⟨by have := hb.1; omega, hb.2⟩)).grow (FR4.out.trans FY.nil)).keep FR5.out (Safe.new (by simp))
              have hO : OpsR (new w.heap.size) w5 (.slice a4 (delta os[q].text os[k].text).length cap4) (delta os[q].text os[k].text) := ((OWN4.out.reads.weak (fun b t _ hb => ⟨by have := hb.1; omega, hb.2⟩)).grow FY).keep FR5.out (Safe.new (by simp))
              have EN := EnsOwn.snoc (lo := w.heap.size) (e := ⟨os[k].kind, os[k].links, (q : Int), delta os[q].text os[k].text⟩) z1 (fun z hz => ⟨((Z3.out z hz).1.grow FX).keep FR5.out (Safe.new (by simp)), ((Z3.out z hz).2.grow FX).keep FR5.out (Safe.new (by simp))⟩) hL hO LEN.out.1.symm OWN5.out
              go_roundw
              case rel => exact ⟨k + 1, by omega, by go_num, .inr hl16, HT1.out, by rw [PS.out, hbt.out]; exact EN, F5.out⟩
              case measure => simp [intOf]; omega
          · have G := hid g
            obtain rfl : P = false := by rw [← HPK.out]; exact packOk_false hlt (.inr (by omega))
            have i16 : (16 : Int) < (os.length : Int) := by omega
            clear g hcell
            go_wp2_with (go_at_call 56; go_must (refine (objectValid_any K _ os[k] _ HU.out hbk).mono ?_; rintro e w1 ⟨rfl, fr1⟩; rw [G.out]; have F1 := hid (hfr.trans fr1.nil)))
            go_ret2
            exact ⟨_, rfl, (EnsOwn.empty rfl).lower F1.out.size, F1.out.alloc _⟩
    · obtain rfl : k = os.length := by omega
      obtain rfl : P = true := by
        rw [← HPK.out]
        unfold packOk
        have h1 := HT.out
        rw [List.take_length] at h1
        rw [h1]
        simp; omega
      clear hcell
      go_wp2
      go_ret2
      exact ⟨_, rfl, OWN.out, hfr⟩

end Go.Proofs.YtjgbconlpolddaaGreat
