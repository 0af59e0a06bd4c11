/- Draws of fetches. -/
import Derived.Test.YtjgbconlpolddaaGreatQM6
import Derived.Test.YtjgbconlpolddaaGreatQStDraw
import Derived.Test.YtjgbconlpolddaaGreatQPkPackS2
import Derived.Test.YtjgbconlpolddaaGreatQM5
import Derived.Test.YtjgbconlpolddaaGreatQStValI
set_option linter.unusedVariables false
set_option linter.unusedSimpArgs false
namespace Go.Proofs.YtjgbconlpolddaaGreat
open Go.RowKit
set_option linter.unusedVariables false

theorem OwnI.keep {lo B : Nat} {T : List Nat} {w w' : World} {v : Value} {l : List Int} (h : OwnI lo w v l) (hf : Fr B T w w') (hT : 3 ∉ T) : OwnI lo w' v l := ownsRow_keep h hf hT

set_option maxRecDepth 20000 in
set_option maxHeartbeats 4000000 in
theorem l91Ids_any {B r p lo : Nat} {w : World} (hR : Rdr B w r p) (hp : p ≤ 999900000) (v : Value) (os : List Ob) (hv : ObsOwn lo w v os) (hl : os.length ≤ 17) (hok : ∀ o ∈ os, obOk o = true) :
    Calls Tryz.prog 43 #[.pointer (some ⟨r, 0, none⟩), v] w fun e w' => ∃ (u : Value) (ids : List Int) (q : Nat), e = .returned u ∧ OwnI w.heap.size w' u ids ∧ ids.length ≤ 1000 ∧ Rdr B w' r q ∧ q ≤ p + 100 ∧ Fr B [110] w w' := by
  have hB : B ≤ w.heap.size := Nat.le_trans hR.1 (Nat.le_of_lt hR.lt)
  obtain ⟨i0, hi, hz0, hz1, hz2⟩ := info_parts infoI
  obtain ⟨va, vcap, rfl, hvc, hsh⟩ := hv.reads.shape
  have HR0 := hid hR
  have HV := hid hv
  have OK := hid hok
  have F0 := hid ((Fr.refl B [110] w).alloc (.cells #[] 3))
  have O0 := hid (OwnI.lit (w := w))
  clear hR hv hok
  go_enter Tryz.func43, Tryz.ntmps43
  go_wp2_with (go_at_call 68; go_must (refine (pick_at (n := 4) (HR0.out.alloc _) (by omega)).mono ?_; rintro e w1 ⟨k1, rfl, hk1, hR1, hf1⟩; have R1 := hid hR1; have F1 := hid (F0.out.trans hf1); have O1 := hid (O0.out.keep hf1 (by simp)); clear hR1 hf1))
  go_loopw [5, 7] (fun vo vi wx => ∃ (k q : Nat) (ids : List Int), k ≤ 4 ∧ k ≤ k1 ∧ vi = .int .i64 k ∧ ids.length ≤ k ∧ OwnI w.heap.size wx vo ids ∧ Rdr B wx r q ∧ q ≤ p + 1 + k ∧ Fr B [110] w wx) (fun _ vi _ => 4 - (intOf vi).toNat)
  case atStart => exact ⟨0, _, [], Nat.zero_le _, Nat.zero_le _, rfl, Nat.zero_le _, O1.out, R1.out, by omega, F1.out⟩
  case round =>
    obtain ⟨k, q, ids, hk, hkk, rfl, hil, hown, hR2, hq2, hfr⟩ := hrel
    have R2 := hid hR2
    have O2 := hid hown
    have F2 := hid hfr
    have hls := hfr.size
    obtain ⟨oa, ocap, rfl⟩ := hown.any
    clear hR2 hown hfr
    by_cases hgo : k < k1 ∧ 0 < os.length
    · obtain ⟨hlt, hlp⟩ := hgo
      have hki : (k : Int) < (k1 : Int) := by omega
      have hlpi : (0 : Int) < (os.length : Int) := by omega
      obtain ⟨b, off, rfl⟩ : ∃ b off, va = some ⟨b, off, none⟩ := by
        rcases hsh with hh | ⟨b, off, hh, _⟩
        · rw [hh] at hlp; cases hlp
        · exact ⟨b, off, hh⟩
      clear hsh
      go_wp2_with (first
        | (go_at_call 68; go_must (refine (pick_at R2.out (by omega)).mono ?_; rintro e w3 ⟨k3, rfl, hk3, hR3, hf3⟩; have hlt3 : k3 < os.length := (by omega); have h30 : (0 : Int) ≤ (k3 : Int) := (by omega); have hlti : (k3 : Int) < (os.length : Int) := (by omega); have F3 := hid (F2.out.trans hf3); have V3 := hid (HV.out.keep F3.out (by decide) (by decide)); have O3 := hid (O2.out.keep hf3 (by simp)); obtain ⟨ua, ucap, h0, h1, h2, hu⟩ := V3.out.atS k3 hlt3; have U3 := hid hu; have R3 := hid hR3; have OK3 := hid (OK.out _ (List.getElem_mem hlt3)); have hs3 := F3.out.size; clear hR3 hf3 hu))
        | (go_at_call 55; go_must (refine (l1Of_any _ _ _ _ U3.out OK3.out).mono ?_; rintro e w4 ⟨rfl, fr4⟩; have F4 := hid (F3.out.trans (fr4.nil (B' := B))); have O4 := hid (O3.out.grow fr4); have R4 := hid (R3.out.keep (fr4.nil (B' := B) (T := [])) (by simp)); have hs4 := F4.out.size; clear fr4))
        | (at_builtin; go_must (refine wpList_push rfl (.tmp 21) (.tmp 30) 24 rfl w.heap.size 3 i0 (.int .i64 0) 1 8 Tryz.underlying24 hi hz0 hz1 hz2 rfl (by decide) _ _ _ O4.out rfl (oneInt _) (by unfold maxLen; omega) (by omega) (by omega) (by rfl) _ (by rfl) (by simp [World.setCell]) ?_; intro v5 w5 own5 fr5 gr5; have O5 := hid (OwnI.pushed own5); have F5 := hid (F4.out.after fr5); have R5 := hid (R4.out.keep (fr5.mono hB (fun _ x => x)) (by simp)); clear own5 fr5 gr5)))
      go_roundw
      case rel => exact ⟨k + 1, _, _, by omega, by omega, by go_num, by simp; omega, O5.out, R5.out, by omega, F5.out⟩
      case measure => simp [intOf]; omega
    · have hgo' : ¬ (k : Int) < (k1 : Int) ∨ ((k : Int) < (k1 : Int) ∧ os.length = 0) := by
        by_cases h1 : k < k1
        · exact .inr ⟨by omega, by have : ¬ 0 < os.length := fun h => hgo ⟨h1, h⟩; omega⟩
        · exact .inl (by omega)
      have hil4 : ids.length ≤ 4 := by omega
      clear hgo hsh
      rcases hgo' with hg | ⟨hg1, hg2⟩
      rotate_left
      have hg3 : ¬ (0 : Int) < (os.length : Int) := by omega
      clear hg2
      all_goals (
        go_upto_if 34 with (go_at_call 68; go_must (refine (pick_at (n := 10) R2.out (by omega)).mono ?_; rintro e w3 ⟨k3, rfl, hk3, hR3, hf3⟩; have R3 := hid hR3; have F3 := hid (F2.out.trans hf3); have O3 := hid (O2.out.keep hf3 (by simp)); have hs3 := F3.out.size; clear hR3 hf3))
        go_cut [5] (fun vo wx => ∃ (ids' : List Int) (q' : Nat), ids'.length ≤ 5 ∧ OwnI w.heap.size wx vo ids' ∧ Rdr B wx r q' ∧ q' ≤ p + 10 ∧ Fr B [110] w wx)
        case first =>
          go_wp2_with (first
            | (go_at_call 68; go_must (refine (pick_at (n := 99) R3.out (by omega)).mono ?_; rintro e w4 ⟨k4, rfl, hk4, hR4, hf4⟩; have R4 := hid hR4; have F4 := hid (F3.out.trans hf4); have O4 := hid (O3.out.keep hf4 (by simp)); have hs4 := F4.out.size; clear hR4 hf4))
            | (at_builtin; go_must (refine wpList_push rfl (.tmp 35) (.tmp 39) 24 rfl w.heap.size 3 i0 (.int .i64 0) 1 8 Tryz.underlying24 hi hz0 hz1 hz2 rfl (by decide) _ _ _ O4.out rfl (oneInt _) (by unfold maxLen; omega) (by omega) (by omega) (by rfl) _ (by rfl) (by simp [World.setCell]) ?_; intro v5 w5 own5 fr5 gr5; have O5 := hid (OwnI.pushed own5); have F5 := hid (F4.out.after fr5); have R5 := hid (R4.out.keep (fr5.mono hB (fun _ x => x)) (by simp)); clear own5 fr5 gr5)))
          all_goals go_meet
          · exact ⟨_, _, by simp; omega, O5.out, R5.out, by omega, F5.out⟩
          · exact ⟨_, _, by omega, O3.out, R3.out, by omega, F3.out⟩
        case rest =>
          obtain ⟨ids', q', hil5, hown5, hR5, hq5, hfr5⟩ := hcut
          have R5 := hid hR5
          have O5 := hid hown5
          have F5 := hid hfr5
          have hs5 := hfr5.size
          obtain ⟨pa, pcap, rfl⟩ := hown5.any
          clear hR5 hown5 hfr5
          go_wp2_with (first
            | (go_at_call 69; go_must (refine (l1Sorted_any (new w.heap.size) _ ids' _ O5.out.reads (by omega)).mono ?_; rintro e w6 ⟨v6, rfl, own6, fr6⟩; obtain ⟨L, hL⟩ : ∃ L, L = sortedTo ids' 991 := ⟨_, rfl⟩; rw [← hL] at own6; have hll : L.length ≤ 991 := (by rw [hL]; exact sortedTo_len _ _); replace own6 : OwnI _ w6 v6 L := own6; obtain ⟨sa, scap, rfl⟩ := own6.any; have O6 := hid (own6.lower hs5); have F6 := hid (F5.out.trans (fr6.nil (B' := B))); have R6 := hid (R5.out.keep (fr6.nil (B' := B) (T := [])) (by simp)); have hs6 := F6.out.size; clear own6 fr6 hL))
            | (go_at_call 68; go_must (refine (pick_at (n := 30) R6.out (by omega)).mono ?_; rintro e w7 ⟨k7, rfl, hk7, hR7, hf7⟩; have R7 := hid hR7; have F7 := hid (F6.out.trans hf7); have O7 := hid (O6.out.keep hf7 (by simp)); have hs7 := F7.out.size; clear hR7 hf7))
            | (go_at_call 70; go_must (refine (l91Id_any R7.out (by omega)).mono ?_; rintro e w8 ⟨n8, q8, rfl, hR8, hq8, hf8, hn1, hn2⟩; have R8 := hid hR8; have F8 := hid (F7.out.trans hf8); have O8 := hid (O7.out.keep hf8 (by simp)); have hs8 := F8.out.size; clear hR8 hf8))
            | (at_builtin; go_must (refine wpList_push rfl (.tmp 46) (.tmp 49) 24 rfl w.heap.size 3 i0 (.int .i64 0) 1 8 Tryz.underlying24 hi hz0 hz1 hz2 rfl (by decide) _ _ _ O8.out rfl (oneInt _) (by unfold maxLen; omega) (by omega) (by omega) (by rfl) _ (by rfl) (by simp [World.setCell]) ?_; intro v9 w9 own9 fr9 gr9; have O9 := hid (OwnI.pushed own9); have F9 := hid (F8.out.after fr9); have R9 := hid (R8.out.keep (fr9.mono hB (fun _ x => x)) (by simp)); clear own9 fr9 gr9)))
          all_goals go_ret
          · exact ⟨_, _, _, rfl, O9.out, by simp; omega, R9.out, by omega, F9.out⟩
          · exact ⟨_, _, _, rfl, O7.out, by omega, R7.out, by omega, F7.out⟩)

set_option maxRecDepth 20000 in
set_option maxHeartbeats 1000000 in
theorem drawFetchNeed_any {w : World} {a : Option Addr} {n cap : Nat} (hb : Bytes w.heap.size w a n cap) (hm : cap ≤ maxLen) :
    Calls Tryz.prog 17 #[.slice a n cap] w fun e w' => ∃ (v vw vh : Value) (os : List Ob) (ws hs : List Int), e = .returned (.tuple #[v, vw, vh]) ∧ ObsOwn w.heap.size w' v os ∧ os.length ≤ 17 ∧ (∀ o ∈ os, obOk o = true) ∧ OwnI w.heap.size w' vw ws ∧ ws.length ≤ 1000 ∧ OwnI w.heap.size w' vh hs ∧ hs.length ≤ 1000 ∧ Fr w.heap.size [] w w' := by
  have HB := hid hb
  clear hb
  go_enter Tryz.func17, Tryz.ntmps17
  go_wp2_with (first
    | (go_at_call 41; go_must (refine (l6Open_any HB.out hm).mono ?_; rintro e w1 ⟨rfl, hR1, fr1⟩; have R1 := hid hR1; have F1 := hid fr1; clear hR1 fr1))
    | (go_at_call 42; go_must (refine (l91Spoilt_any R1.out (by omega)).mono ?_; rintro e w2 ⟨v2, os, q2, rfl, own2, hl2, hok2, hR2, hq2, fr2⟩; have O2 := hid own2; have OK2 := hid hok2; have R2 := hid hR2; have F2 := hid (F1.out.after fr2); have hs1 := F1.out.size; clear own2 hok2 hR2 fr2))
    | (go_at_call 43; (with_reducible refine (l91Ids_any R2.out (by omega) v2 os O2.out hl2 OK2.out).mono ?_); go_must (rintro e w3 ⟨v3, ws, q3, rfl, own3, hl3, hR3, hq3, fr3⟩; have O3 := hid (O2.out.keep fr3 (by simp) (by simp)); have W3 := hid own3; have R3 := hid hR3; have F3 := hid (F2.out.after fr3); have hs2 := F2.out.size; clear O2 own3 hR3 fr3))
    | (go_at_call 43; go_must (refine (l91Ids_any R3.out (by omega) v2 os O3.out hl2 OK2.out).mono ?_; rintro e w4 ⟨v4, hs, q4, rfl, own4, hl4, hR4, hq4, fr4⟩; have O4 := hid (O3.out.keep fr4 (by simp) (by simp)); have W4 := hid (W3.out.keep fr4 (by simp)); have H4 := hid own4; have F4 := hid (F3.out.after fr4); have hs3 := F3.out.size; clear own4 hR4 fr4)))
  refine bodyPost_ret (v := .tuple #[v2, v3, v4]) (by simp [results, Tryz.results17, go_sem]) rfl ?_
  exact ⟨v2, v3, v4, os, ws, hs, rfl, O4.out.lower hs1, hl2, OK2.out, W4.out.lower hs2, hl3, H4.out.lower hs3, hl4, F4.out⟩

set_option maxRecDepth 20000 in
set_option maxHeartbeats 1000000 in
theorem drawFetchPack_any {w : World} {a : Option Addr} {n cap : Nat} (hb : Bytes w.heap.size w a n cap) (hm : cap ≤ maxLen) :
    Calls Tryz.prog 6 #[.slice a n cap] w fun e w' => ∃ (v vw vh : Value) (os : List Ob) (ws hs : List Int), e = .returned (.tuple #[v, vw, vh]) ∧ ObsOwn w.heap.size w' v os ∧ os.length ≤ 17 ∧ (∀ o ∈ os, obOk o = true) ∧ OwnI w.heap.size w' vw ws ∧ ws.length ≤ 1000 ∧ OwnI w.heap.size w' vh hs ∧ hs.length ≤ 1000 ∧ Fr w.heap.size [] w w' := by
  have HB := hid hb
  clear hb
  go_enter Tryz.func6, Tryz.ntmps6
  go_wp2_with (go_at_call 17; go_must (refine (drawFetchNeed_any HB.out hm).mono ?_; rintro e w1 ⟨v, vw, vh, os, ws, hs, rfl, own1, hl1, hok1, own2, hl2, own3, hl3, fr1⟩; have O1 := hid own1; have OK := hid hok1; have W1 := hid own2; have H1 := hid own3; have F1 := hid fr1; clear own1 hok1 own2 own3 fr1))
  refine bodyPost_ret (v := .tuple #[v, vw, vh]) (by simp [results, Tryz.results6, go_sem]) rfl ?_
  exact ⟨v, vw, vh, os, ws, hs, rfl, O1.out, hl1, OK.out, W1.out, hl2, H1.out, hl3, F1.out⟩

end Go.Proofs.YtjgbconlpolddaaGreat

/- The reference's FetchPack. -/
namespace Go.Proofs.YtjgbconlpolddaaGreat
open Go.RowKit
set_option linter.unusedVariables false

/-- A list of one's own, of objects whose links lay there before. -/
def ObL (K : Nat → Bool → Prop) (lo : Nat) (w wx : World) (v : Value) (os : List Ob) : Prop :=
  ∃ zs : List (Ob × Value), zs.map (·.1) = os ∧ wx.ownsRow lo 37 3 v os.length (zs.flatMap encOb) ∧ ∀ z ∈ zs, IntsR K w z.2 z.1.links

theorem ObL.grow {K : Nat → Bool → Prop} {lo B : Nat} {w wx wy : World} {v : Value} {os : List Ob} (h : ObL K lo w wx v os) (hf : Fr B [] wx wy) : ObL K lo w wy v os := by
  obtain ⟨zs, h1, h2, h3⟩ := h
  exact ⟨zs, h1, ownsRow_grow h2 hf, h3⟩

theorem ObL.empty (K : Nat → Bool → Prop) (w : World) {wx : World} {n : Nat} (hn : wx.heap.size = n) {lo : Nat} (hl : lo ≤ n) : ObL K lo w (wx.alloc (.cells #[] 37)) (.slice (some ⟨n, 0, none⟩) 0 0) [] := by
  subst hn
  exact ⟨[], rfl, World.ownsRow_lit (e := 37) (size := 3) wx #[] 0 hl (by decide) rfl, fun z hz => by cases hz⟩

theorem ObL.any {K : Nat → Bool → Prop} {lo : Nat} {w wx : World} {v : Value} {os : List Ob} (h : ObL K lo w wx v os) : ∃ a cap, v = .slice a os.length cap := by
  obtain ⟨zs, h1, h2, h3⟩ := h
  obtain ⟨a, cap, h4, _⟩ := SlR.ofOwns h2
  exact ⟨a, cap, h4⟩

theorem ObL.reads {K : Nat → Bool → Prop} {lo B : Nat} {w wx : World} {v : Value} {os : List Ob} (h : ObL K lo w wx v os) (hf : Fr B [] w wx) : ObsR (fun b t => K b t ∨ new lo b t) wx v os := by
  obtain ⟨zs, h1, h2, h3⟩ := h
  refine ⟨zs, h1, ?_, fun z hz => ((h3 z hz).grow hf).weak fun b t _ hk => Or.inl hk⟩
  exact (SlR.ofOwns h2).weak fun b t _ hk => Or.inr hk

theorem ObL.snoc {K : Nat → Bool → Prop} {lo n : Nat} {w w' : World} {v' : Value} {os : List Ob} {o : Ob} {u : Value} {zs : List (Ob × Value)} (g1 : zs.map (·.1) = os) (g3 : ∀ z ∈ zs, IntsR K w z.2 z.1.links)
    (hu : IntsR K w u o.links) (hn : n = os.length) (hown : w'.ownsRow lo 37 3 v' (n + 1) (zs.flatMap encOb ++ [.int .i64 o.kind, u, .string (tx o.text)])) : ObL K lo w w' v' (os ++ [o]) := by
  subst hn
  refine ⟨zs ++ [(o, u)], by simp [g1], ?_, fun z hz => ?_⟩
  · rw [List.flatMap_append, List.length_append]
    simpa [encOb] using hown
  · rcases List.mem_append.1 hz with hz | hz
    · exact g3 z hz
    · simp at hz
      subst hz
      exact hu

theorem Ix.found {os : List Ob} {n z : Int} (h : Ix os n z) (hh : hasId os n = true) : ∃ (m : Nat) (hm : m < os.length), z = (m : Int) ∧ oid os[m] = n := by
  rcases h with ⟨k, h1, h2, h3⟩ | ⟨_, h⟩
  · exact ⟨k, h1, h2, h3⟩
  · rw [hh] at h; cases h

theorem obs_has {os : List Ob} {n : Int} (h : hasId os n = true) : ∃ o, obId os n = some o := by
  cases hf : obId os n with
  | none => rw [obId_none.1 hf] at h; cases h
  | some o => exact ⟨o, rfl⟩

theorem obsOf_take {os : List Ob} {ns : List Int} {k : Nat} (hk : k < ns.length) {o : Ob} (h : obId os ns[k] = some o) : obsOf os (ns.take (k + 1)) = obsOf os (ns.take k) ++ [o] := by
  rw [List.take_add_one, List.getElem?_eq_getElem hk]
  exact obsOf_snoc os _ _ h

theorem obsOf_take_len {os : List Ob} {ns : List Int} (h : ∀ n ∈ ns, hasId os n = true) {k : Nat} (hk : k ≤ ns.length) : (obsOf os (ns.take k)).length = k := by
  rw [obsOf_len fun n hn => h n (List.mem_of_mem_take hn)]
  simp; omega

theorem packOk_b {os : List Ob} (h : packOk os = true) : ObsB os := by
  obtain ⟨h1, h2⟩ := packOk_all h
  exact ⟨by omega, fun o ho => by have := (obOk_len (h2 o ho)).1; omega⟩

set_option maxRecDepth 20000 in
set_option maxHeartbeats 4000000 in
theorem specFetchPack_any (K K1 K2 : Nat → Bool → Prop) (v vw vh : Value) (os : List Ob) (ws hs : List Int) (w : World) (hv : ObsR K w v os) (h1 : IntsR K1 w vw ws) (h2 : IntsR K2 w vh hs) (hb : ObsB os) (hl1 : ws.length ≤ 1000000000) (hl2 : hs.length ≤ 1000000000) :
    Calls Tryz.prog 8 #[v, vw, vh] w fun e w' => ∃ v', e = .returned (.tuple #[v', .bool (needOk os ws hs)]) ∧ EnsOwn w.heap.size w' v' (if needOk os ws hs = true then pack (obsOf os (need os ws hs)) else []) ∧ Fr w.heap.size [] w w' := by
  obtain ⟨a, cap, rfl, hcap, hcell⟩ := hv.shape
  obtain ⟨wa, wcap, rfl, _, _⟩ := h1.shape
  obtain ⟨ha, hcap', rfl, _, _⟩ := h2.shape
  obtain ⟨i0, hi, hz0, hz1, hz2⟩ := info_parts infoOb
  have HV := hid hv
  have HC := hid hcell
  have HW := hid h1
  have HH := hid h2
  have HB := hid hb
  clear hv h1 h2 hcell hb
  go_enter Tryz.func8, Tryz.ntmps8
  by_cases c : needOk os ws hs = true
  · have C := hid c
    rw [if_pos c, c]
    clear c
    obtain ⟨k1, k2, k3, k4⟩ := needOk_iff.1 C.out
    have OK := hid k1
    have NH := hid (need_has (ws := ws) (hs := hs) k1)
    have hnl := Nat.le_trans (need_len k1 ws hs) (stOk_iff.1 k1).1
    have PO := hid (need_packOk (ws := ws) (hs := hs) k1)
    clear k1 k2 k3 k4
    obtain ⟨N, hN⟩ : ∃ N, N = need os ws hs := ⟨_, rfl⟩
    have NE := hid hN
    rw [← hN] at hnl NH PO
    rw [← hN]
    clear hN
    go_wp2_with (first
      | (go_at_call 20; go_must (refine (l32Ok_any K K1 K2 _ _ _ os ws hs _ HV.out HW.out HH.out HB.out hl1 hl2).mono ?_; rintro e w1 ⟨rfl, fr1⟩; rw [C.out]; have F1 := hid fr1; clear fr1))
      | (go_at_call 21; go_must (have FA := hid (F1.out.alloc (.cells #[] 37)); refine (l32Need_any K K1 K2 _ _ _ os ws hs _ (HV.out.grow FA.out) (HW.out.grow FA.out) (HH.out.grow FA.out) C.out).mono ?_; rintro e w2 ⟨v2, rfl, own2, fr2⟩; rw [← NE.out] at own2; have F2 := hid (FA.out.trans fr2.nil); have N2 := hid (own2.lower FA.out.size); have L2 := hid ((ObL.empty K w (wx := w1) rfl F1.out.size).grow fr2); obtain ⟨na, ncap, rfl⟩ := own2.any; clear own2 fr2)))
    go_loopw [8, 10] (fun vo vi wx => ∃ k : Nat, k ≤ N.length ∧ vi = .int .i64 k ∧ ObL K w.heap.size w wx vo (obsOf os (N.take k)) ∧ OwnI w.heap.size wx (.slice na N.length ncap) N ∧ Fr w.heap.size [] w wx) (fun _ vi _ => N.length - (intOf vi).toNat)
    case atStart => exact ⟨0, Nat.zero_le _, rfl, L2.out, N2.out, F2.out⟩
    case round =>
      obtain ⟨k, hk, rfl, hown, hnr, hfr⟩ := hrel
      have NR := hid hnr
      have FR := hid hfr
      have hls := hfr.size
      by_cases hlt : k < N.length
      · obtain ⟨oa, ocap, rfl⟩ := hown.any
        have hxl := obsOf_take_len NH.out hk
        obtain ⟨zs, z1, z2, z3⟩ := hown
        obtain ⟨xs, hxs⟩ : ∃ xs, xs = obsOf os (N.take k) := ⟨_, rfl⟩
        rw [← hxs] at z1 z2 hxl
        rw [hxl] at z2
        have Z1 := hid z1
        have Z2 := hid z2
        have Z3 := hid z3
        obtain ⟨g, gcap, he, _, hgs, ck⟩ := NR.out.at hlt
        cases he
        have hki : (k : Int) < (N.length : Int) := by omega
        obtain ⟨x, hx⟩ : ∃ x, x = N[k] := ⟨_, rfl⟩
        have hhx : hasId os x = true := by rw [hx]; exact NH.out _ (List.getElem_mem hlt)
        have TK := hid (fun o (h : obId os x = some o) => obsOf_take hlt (by rw [← hx]; exact h) (os := os))
        rw [← hxs] at TK
        have XS := hid hxs
        have XL := hid hxl
        rw [← hx] at ck
        rw [← hxs]
        rw [hxl]
        have HX := hid hhx
        rcases HC.out with hh | ⟨b, off, rfl, hbs, hcell⟩
        · rw [hh] at hhx; cases hhx
        have CE := hid hcell
        clear hx hxs z1 z2 z3 hnr hfr hhx hcell
        go_wp2_with (first
          | (go_at_call 22; go_must (refine (l1Get_any K _ os x _ (HV.out.grow FR.out) OK.out).mono ?_; rintro e w4 ⟨z, rfl, hix, fr4⟩; obtain ⟨m, hm, rfl, hom⟩ := hix.found HX.out; obtain ⟨u, x0, x1, x2, hu⟩ := CE.out m hm; obtain ⟨ua, ucap, rfl, _, _⟩ := hu.shape; have F4 := hid (FR.out.trans fr4.nil); have c0 := F4.out.cell hbs x0; have c1 := F4.out.cell hbs x1; have c2 := F4.out.cell hbs x2; have HU := hid hu; have m0 : (0 : Int) ≤ (m : Int) := (by omega); have m1 : (m : Int) < (os.length : Int) := (by omega); have Z4 := hid (ownsRow_grow Z2.out fr4); have N4 := hid (NR.out.grow fr4); have OM := hid (show obId os x = some os[m] by rw [← hom]; exact obId_mem OK.out (List.getElem_mem hm)); have hls4 := F4.out.size; clear hix fr4 x0 x1 x2 hu hom ck))
          | (at_builtin; go_must (refine wpList_push rfl (.tmp 28) (.tmp 38) 23 rfl w.heap.size 37 i0 (.agg #[.int .i64 0, .slice none 0 0, .string ⟨#[]⟩]) 3 48 Tryz.underlying23 hi hz0 hz1 hz2 rfl (by decide) _ _ _ Z4.out rfl (oneOb3 _ _ _ _ _) (by unfold maxLen; omega) (by omega) (by omega) (by rfl) _ (by rfl) (by simp [World.setCell]) ?_; intro v7 w7 own7 fr7 _; have OWN7 := hid own7; have N7 := hid (ownsRow_keep N4.out fr7 (by simp)); have F7 := hid (F4.out.after fr7); clear own7 fr7)))
        go_roundw
        case rel =>
          refine ⟨k + 1, by omega, by go_num, ?_, N7.out, F7.out⟩
          rw [TK.out _ OM.out]
          exact ObL.snoc Z1.out Z3.out HU.out (XL.out.symm) OWN7.out
        case measure => simp [intOf]; omega
      · obtain rfl : k = N.length := by omega
        obtain ⟨oa, ocap, rfl⟩ := hown.any
        rw [List.take_length] at hown
        rw [List.take_length]
        have OW := hid hown
        have KB := hid (packOk_b PO.out)
        obtain ⟨P, hP⟩ : ∃ P, P = obsOf os N := ⟨_, rfl⟩
        rw [← hP] at OW KB PO
        rw [← hP]
        have PE := hid hP
        clear hown hnr hfr hP
        go_wp2_with (go_at_call 23; go_must (refine (specPackMake_any _ _ P _ (OW.out.reads FR.out) KB.out).mono ?_; rintro e w3 ⟨v3, rfl, own3, fr3⟩; rw [PO.out] at own3 ⊢; rw [if_pos rfl] at own3; have E3 := hid (own3.lower hls); have F3 := hid (FR.out.trans fr3.nil); clear own3 fr3))
        go_ret2
        refine ⟨_, rfl, ?_, F3.out⟩
        rw [← PE.out]
        exact E3.out
  · have C := hid (show needOk os ws hs = false by simpa using c)
    rw [if_neg c, C.out]
    clear c
    go_wp2_with (go_at_call 20; go_must (refine (l32Ok_any K K1 K2 _ _ _ os ws hs _ HV.out HW.out HH.out HB.out hl1 hl2).mono ?_; rintro e w1 ⟨rfl, fr1⟩; rw [C.out]; have F1 := hid fr1; clear fr1))
    go_ret2
    exact ⟨_, rfl, (EnsOwn.empty (w := w1) rfl).lower F1.out.size, F1.out.alloc _⟩

end Go.Proofs.YtjgbconlpolddaaGreat

/- ObjectId of a valid object; StoreGet of an object that is there. -/
namespace Go.Proofs.YtjgbconlpolddaaGreat
open Go.RowKit
set_option linter.unusedVariables false

set_option maxRecDepth 20000 in
set_option maxHeartbeats 2000000 in
theorem objectId_any (K : Nat → Bool → Prop) (v : Value) (o : Ob) (w : World) (hv : IntsR K w v o.links) (hok : obOk o = true) :
    Calls Tryz.prog 12 #[.agg #[.int .i64 o.kind, v, .string (tx o.text)]] w fun e w' => e = .returned (.int .i64 (oid o)) ∧ Fr w.heap.size [] w w' := by
  obtain ⟨a, cap, rfl, hcap, -⟩ := hv.shape
  have F0 := hid ((Fr.refl w.heap.size [] w).alloc (.cells #[.int .i64 o.kind, .slice a o.links.length cap, .string (tx o.text)] 37))
  have B0 := hid (heap_alloc_new w (.cells #[.int .i64 o.kind, .slice a o.links.length cap, .string (tx o.text)] 37))
  have HV := hid (hv.grow F0.out)
  have OK := hid hok
  have hlen := (obOk_len hok).1
  clear hv hok
  go_enter Tryz.func12, Tryz.ntmps12
  go_wp2_with (first
    | (go_at_call 38; go_must (refine (ok_any K _ o _ HV.out (by omega)).mono ?_; rintro e w1 ⟨rfl, fr1⟩; rw [OK.out]; have B1 := hid (fr1.keep _ _ B0.out (.inr (by simp))); have F1 := hid (F0.out.trans fr1.nil); have HV1 := hid (HV.out.grow fr1); have c0 := cell_of (o := 0) B1.out rfl; have c1 := cell_of (o := 1) B1.out rfl; have c2 := cell_of (o := 2) B1.out rfl; clear fr1))
    | (go_at_call 39; go_must (refine (id_any K _ o _ HV1.out OK.out).mono ?_; rintro e w2 ⟨rfl, fr2⟩; have F2 := hid (F1.out.trans fr2.nil); clear fr2)))
  go_ret
  exact ⟨rfl, F2.out⟩

/-- One object of a list, as a list. -/
theorem ObsR.one {K : Nat → Bool → Prop} {w : World} {b off n cap : Nat} {os : List Ob} (h : ObsR K w (.slice (some ⟨b, off, none⟩) n cap) os) {k : Nat} (hk : k < os.length) : ObsR K w (.slice (some ⟨b, off + k * 3, none⟩) 1 (cap - k)) [os[k]] := by
  obtain ⟨zs, h1, h2, h3⟩ := h
  have hz : k < zs.length := by have := congrArg List.length h1; simp at this; omega
  have hzk : zs[k].1 = os[k] := by subst h1; simp
  refine ⟨[zs[k]], by simp [hzk], ?_, fun z hz' => by simp at hz'; subst hz'; exact h3 _ (List.getElem_mem hz)⟩
  obtain ⟨a, c, g1, g2, g3, g4, g5⟩ := h2
  cases g1
  obtain ⟨b', off', cur, e, fr, e1, e2, e3, e4⟩ := g5 (by omega)
  cases e1
  refine ⟨_, _, rfl, rfl, (by show 1 ≤ cap - k; omega), ⟨(fun h => by cases h), fun _ => ⟨b, off + k * 3, cur, e, fr, rfl, e2, e3, fun j u hj => ?_⟩⟩⟩
  have hj3 : j < 3 := by
    have := (List.getElem?_eq_some_iff.1 hj).1
    simpa [encOb] using this
  rw [Nat.add_assoc]
  refine e4 _ _ ?_
  rw [fmOb zs k j hj3 hz]
  simpa using hj

/-- A list of one object. -/
theorem ObsOwn.single {lo : Nat} {W : World} {v : Value} {o : Ob} (h : ObsOwn lo W v [o]) :
    ∃ g cap ua ucap, v = .slice (some ⟨g, 0, none⟩) 1 cap ∧ IntsR (new lo) W (.slice ua o.links.length ucap) o.links ∧ W.cell? ⟨g, 0, none⟩ = some (.int .i64 o.kind) ∧ W.cell? ⟨g, 1, none⟩ = some (.slice ua o.links.length ucap) ∧ W.cell? ⟨g, 2, none⟩ = some (.string (tx o.text)) ∧ lo ≤ g := by
  obtain ⟨zs, g1, g2, g3⟩ := id h
  obtain ⟨g, cap, rfl, hg, _, _⟩ := own_shape g2 (by simp)
  obtain ⟨ua, ucap, h0, h1, h2, hu⟩ := h.atS 0 (by simp)
  exact ⟨g, cap, ua, ucap, rfl, hu, by simpa using h0, by simpa using h1, by simpa using h2, hg⟩

set_option maxRecDepth 20000 in
set_option maxHeartbeats 4000000 in
theorem storeGet_found (K : Nat → Bool → Prop) (v : Value) (os : List Ob) (w : World) (hv : ObsR K w v os) (hok : stOk os = true) (k : Nat) (hk : k < os.length) (n : Int) (hn : n = oid os[k]) (hfk : findK os n = k) (hhk : hasK os n = true) :
    Calls Tryz.prog 18 #[v, .int .i64 n] w fun e w' => ∃ v', e = .returned (.tuple #[.agg #[.int .i64 os[k].kind, v', .string (tx os[k].text)], .bool true]) ∧ IntsR (new w.heap.size) w' v' os[k].links ∧ Fr w.heap.size [] w w' := by
  have hoi : 0 ≤ n ∧ n ≤ 990 := by rw [hn]; exact oid_in ((stOk_iff.1 hok).2.1 _ (List.getElem_mem hk))
  have hl16 := (stOk_iff.1 hok).1
  obtain ⟨a, cap, rfl, hcap, hcell⟩ := hv.shape
  obtain ⟨b, off, rfl, hbs, -⟩ : ∃ b off, a = some ⟨b, off, none⟩ ∧ b < w.heap.size ∧ True := by
    rcases hcell with hh | ⟨b, off, h1, h2, _⟩
    · rw [hh] at hk; cases hk
    · exact ⟨b, off, h1, h2, trivial⟩
  have OBL := hid (show ∀ p ∈ os, p.links.length ≤ 1000000000 from fun p hp => by have := (obOk_len ((stOk_iff.1 hok).2.1 p hp)).1; omega)
  have OBK := hid (show ∀ p ∈ [os[k]], p.links.length ≤ 1000000000 from fun p hp => by simp at hp; subst hp; exact OBL.out _ (List.getElem_mem hk))
  have F0 := hid ((Fr.refl w.heap.size [] w).alloc (.cells #[.int .i64 0, .slice none 0 0, .string ⟨#[]⟩] 37))
  have B0 := hid (heap_alloc_new w (.cells #[.int .i64 0, .slice none 0 0, .string ⟨#[]⟩] 37))
  have HV := hid (hv.grow F0.out)
  have OK := hid hok
  have FK := hid hfk
  have HK := hid hhk
  have hoi' := hoi
  obtain ⟨on0, on1⟩ := hoi
  have hk1 : (0 : Int) ≤ (k : Int) := by omega
  have hk2 : (k : Int) + 1 ≤ (cap : Int) := by omega
  have hk3 : (k : Int) < (cap : Int) := by omega
  have INR := hid (show inR n 0 990 = true by simp [inR]; exact hoi')
  clear hv hok hcell hfk hhk hn hoi'
  go_enter Tryz.func18, Tryz.ntmps18
  go_wp2_with (first
    | (go_at_call 25; go_must (refine (implStoreValid_any _ _ os _ HV.out OBL.out (by omega)).mono ?_; rintro e w1 ⟨rfl, fr1⟩; rw [OK.out]; have B1 := hid (fr1.keep _ _ B0.out (.inr (by simp))); have F1 := hid (F0.out.trans fr1.nil); have HV1 := hid (HV.out.grow fr1); clear fr1))
    | (go_at_call 44; go_must (refine (isId_any _ _).mono ?_; rintro e w' ⟨rfl, rfl⟩; rw [INR.out]))
    | (go_at_call 45; go_must (refine (findObject_any _ _ os n _ HV1.out OK.out on0 on1).mono ?_; rintro e w2 ⟨rfl, fr2⟩; rw [FK.out, HK.out]; have B2 := hid (fr2.keep _ _ B1.out (.inr (by simp))); have F2 := hid (F1.out.trans fr2.nil); have HV2 := hid ((HV1.out.grow fr2).one hk); clear fr2))
    | (go_at_call 46; go_must (refine (copyObjects_any _ _ [os[k]] _ HV2.out OBK.out (by simp)).mono ?_; rintro e w3 ⟨v3, rfl, own3, fr3⟩; obtain ⟨g, cap3, ua, ucap, rfl, hlk, hc0, hc1, hc2, hgf⟩ := own3.single; have LK := hid hlk; have B3 := hid (fr3.keep _ _ B2.out (.inr (by simp))); have F3 := hid (F2.out.trans fr3.nil); have b0 := cell_of (o := 0) B3.out rfl; have b1 := cell_of (o := 1) B3.out rfl; have b2 := cell_of (o := 2) B3.out rfl; have bf := fun o => free_of (o := o) B3.out; have hbl := lt_of_get B3.out; have hs2 := F2.out.size; have hgb : w.heap.size < g := (by have := lt_of_get B2.out; omega); clear fr3 own3 hlk)))
  have e := fill3 (x0 := .int .i64 os[k].kind) (x1 := .slice ua os[k].links.length ucap) (x2 := .string (tx os[k].text)) B3.out
  have e0 := cell_of (o := 0) e rfl
  have e1 := cell_of (o := 1) e rfl
  have e2 := cell_of (o := 2) e rfl
  have FT := (Fr.refl 0 [37] w3).fill3 (x0 := .int .i64 os[k].kind) (x1 := .slice ua os[k].links.length ucap) (x2 := .string (tx os[k].text)) B3.out (Nat.zero_le _)
  exact bodyPost_ret (v := .tuple #[.agg #[.int .i64 os[k].kind, .slice ua os[k].links.length ucap, .string (tx os[k].text)], .bool true]) (by simp [results, Tryz.results18, go_sem, e0, e1, e2]) rfl
    ⟨_, rfl, (LK.out.weak (fun b t _ hb => ⟨Nat.le_trans hs2 hb.1, hb.2⟩)).keep FT (Safe.new (by simp)), F3.out.new3 (by omega)⟩

/-- The place of an object in a store. -/
theorem findK_self {os : List Ob} (h : stOk os = true) {k : Nat} (hk : k < os.length) : findK os (oid os[k]) = k ∧ hasK os (oid os[k]) = true := by
  have e : findK os (oid os[k]) = k := findK_eq (by omega) (fun j hj hjk => (List.pairwise_iff_getElem.1 (stOk_iff.1 h).2.2) j k hj hk hjk) (fun _ => by omega)
  refine ⟨e, ?_⟩
  rw [hasK_lt (by rw [e]; exact hk)]
  simp [e]

end Go.Proofs.YtjgbconlpolddaaGreat
