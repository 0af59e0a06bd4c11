/- The program's FetchPack. -/
import Derived.Test.YtjgbconlpolddaaGreatQFeNeedI
import Derived.Test.YtjgbconlpolddaaGreatQM8
import Derived.Test.YtjgbconlpolddaaGreatQPkPackI
import Derived.Test.YtjgbconlpolddaaGreatQPkObjI
import Derived.Test.YtjgbconlpolddaaGreatQM5
import Derived.Test.YtjgbconlpolddaaGreatQM7
import Derived.Test.YtjgbconlpolddaaGreatQM9
set_option linter.unusedVariables false
set_option linter.unusedSimpArgs false
namespace Go.Proofs.YtjgbconlpolddaaGreat
open Go.RowKit
set_option linter.unusedVariables false

/-- The place of an id in a store. -/
theorem obs_at {os : List Ob} (ho : stOk os = true) {n : Int} (h : hasId os n = true) : ∃ (k : Nat) (hk : k < os.length), n = oid os[k] ∧ findK os n = k ∧ hasK os n = true ∧ obId os n = some os[k] := by
  obtain ⟨o, ho1, ho2⟩ := hasId_iff.1 h
  obtain ⟨k, hk, rfl⟩ := List.getElem_of_mem ho1
  obtain ⟨h1, h2⟩ := findK_self ho hk
  rw [ho2] at h1 h2
  exact ⟨k, hk, ho2.symm, h1, h2, by rw [← ho2]; exact obId_mem ho ho1⟩

set_option maxRecDepth 20000 in
set_option maxHeartbeats 4000000 in
theorem implFetchPack_any (K K1 K2 : Nat → Bool → Prop) (v vw vh : Value) (os : List Ob) (ws hs : List Int) (w : World) (hv : ObsR K w v os) (h1 : IntsR K1 w vw ws) (h2 : IntsR K2 w vh hs) (hb : ObsB os) (hl1 : ws.length ≤ 1000000000) (hl2 : hs.length ≤ 1000000000) (hg : Glob w) :
    Calls Tryz.prog 7 #[v, vw, vh] w fun e w' => ∃ v', e = .returned (.tuple #[v', .bool (needOk os ws hs)]) ∧ EnsOwn w.heap.size w' v' (if needOk os ws hs = true then pack (obsOf os (need os ws hs)) else []) ∧ Fr w.heap.size [] w w' := by
  obtain ⟨a, cap, rfl, hcap, hcell⟩ := hv.shape
  obtain ⟨wa, wcap, rfl, _, _⟩ := h1.shape
  obtain ⟨ha, hcap', rfl, _, _⟩ := h2.shape
  obtain ⟨i0, hi, hz0, hz1, hz2⟩ := info_parts infoOb
  have HV := hid hv
  have HW := hid h1
  have HH := hid h2
  have HB := hid hb
  have HG := hid hg
  have hpos : 0 < w.heap.size := by obtain ⟨m, hm⟩ := hg; exact World.block_lt_of_cell? _ _ hm
  have hl0 := hb.1
  clear hv h1 h2 hcell hb hg
  go_enter Tryz.func7, Tryz.ntmps7
  by_cases c : needOk os ws hs = true
  · have C := hid c
    rw [if_pos c, c]
    clear c
    obtain ⟨k1, k2, k3, k4⟩ := needOk_iff.1 C.out
    have OK := hid k1
    have NH := hid (need_has (ws := ws) (hs := hs) k1)
    have hnl := Nat.le_trans (need_len k1 ws hs) (stOk_iff.1 k1).1
    have PO := hid (need_packOk (ws := ws) (hs := hs) k1)
    clear k1 k2 k3 k4
    obtain ⟨N, hN⟩ : ∃ N, N = need os ws hs := ⟨_, rfl⟩
    have NE := hid hN
    rw [← hN] at hnl NH PO
    rw [← hN]
    clear hN
    go_wp2_with (go_at_call 10; go_must (refine (implNeed_any K K1 K2 _ _ _ os ws hs _ HV.out HW.out HH.out HB.out hl0 hl1 hl2).mono ?_; rintro e w2 ⟨v2, rfl, own2, _, fr2⟩; replace own2 := own2 C.out; rw [C.out]; rw [← NE.out] at own2; have F2 := hid fr2; have N2 := hid own2; obtain ⟨na, ncap, rfl⟩ := own2.any; clear own2 fr2))
    go_loopw [10, 26] (fun vo vi wx => ∃ k : Nat, k ≤ N.length ∧ vi = .int .i64 k ∧ ObsOwn w.heap.size wx vo (obsOf os (N.take k)) ∧ OwnI w.heap.size wx (.slice na N.length ncap) N ∧ Fr w.heap.size [] w wx) (fun _ vi _ => N.length - (intOf vi).toNat)
    case atStart => exact ⟨0, Nat.zero_le _, rfl, ⟨[], rfl, World.ownsRow_nil _ _ _ _, fun z hz => by cases hz⟩, N2.out, F2.out⟩
    case round =>
      obtain ⟨k, hk, rfl, hown, hnr, hfr⟩ := hrel
      have NR := hid hnr
      have FR := hid hfr
      have hls := hfr.size
      by_cases hlt : k < N.length
      · obtain ⟨oa, ocap, hoa, _, _⟩ := hown.reads.shape
        subst hoa
        have hxl := obsOf_take_len NH.out hk
        obtain ⟨zs, z1, z2, z3⟩ := hown
        obtain ⟨xs, hxs⟩ : ∃ xs, xs = obsOf os (N.take k) := ⟨_, rfl⟩
        rw [← hxs] at z1 z2 hxl
        rw [hxl] at z2
        have Z1 := hid z1
        have Z2 := hid z2
        have Z3 := hid z3
        obtain ⟨g, gcap, he, _, hgs, ck⟩ := NR.out.at hlt
        cases he
        have hki : (k : Int) < (N.length : Int) := by omega
        obtain ⟨x, hx⟩ : ∃ x, x = N[k] := ⟨_, rfl⟩
        have hhx : hasId os x = true := by rw [hx]; exact NH.out _ (List.getElem_mem hlt)
        have TK := hid (fun o (h : obId os x = some o) => obsOf_take hlt (by rw [← hx]; exact h) (os := os))
        rw [← hxs] at TK
        have XL := hid hxl
        rw [← hx] at ck
        rw [← hxs]
        rw [hxl]
        obtain ⟨m, hm, hom, hfk, hhk, hoi⟩ := obs_at OK.out hhx
        have OM := hid hoi
        have HM := hid hom
        have FK := hid hfk
        have HK := hid hhk
        clear hx hxs z1 z2 z3 hnr hfr hhx hom hfk hhk hoi
        go_wp2_with (first
          | (go_at_call 18; go_must (refine (storeGet_found K _ os _ (HV.out.grow FR.out) OK.out m hm x HM.out FK.out HK.out).mono ?_; rintro e w4 ⟨v4, rfl, hi4, fr4⟩; obtain ⟨ua, ucap, rfl, _, _⟩ := hi4.shape; have FA := hid (fr4.nil.alloc (.cells #[.int .i64 os[m].kind, .slice ua os[m].links.length ucap, .string (tx os[m].text)] 37) (B := w.heap.size) (T := [])); have BX := hid (heap_alloc_new w4 (.cells #[.int .i64 os[m].kind, .slice ua os[m].links.length ucap, .string (tx os[m].text)] 37)); have I4 := hid ((hi4.weak (K' := new w.heap.size) (fun b t _ hb => ⟨Nat.le_trans hls hb.1, hb.2⟩)).grow ((Fr.refl 0 [] w4).alloc (.cells #[.int .i64 os[m].kind, .slice ua os[m].links.length ucap, .string (tx os[m].text)] 37))); have F4 := hid (FR.out.trans FA.out); have Z4 := hid (ownsRow_grow Z2.out FA.out); have N4 := hid (NR.out.grow FA.out); have hls4 := F4.out.size; clear hi4 fr4 ck))
          | (at_builtin; go_must (refine wpList_push rfl (.tmp 36) (.tmp 38) 23 rfl w.heap.size 37 i0 (.agg #[.int .i64 0, .slice none 0 0, .string ⟨#[]⟩]) 3 48 Tryz.underlying23 hi hz0 hz1 hz2 rfl (by decide) _ _ _ Z4.out rfl (oneOb3 _ _ _ _ _) (by unfold maxLen; omega) (by omega) (by omega) (by rfl) _ (by rfl) (by simp [World.setCell]) ?_; intro v7 w7 own7 fr7 _; have OWN7 := hid own7; have F47 := hid fr7; have N7 := hid (ownsRow_keep N4.out fr7 (by simp)); have F7 := hid (F4.out.after fr7); clear own7 fr7)))
        go_roundw
        case rel =>
          refine ⟨k + 1, by omega, by go_num, ?_, N7.out, F7.out⟩
          rw [TK.out _ OM.out]
          exact ObsOwn.snoc Z1.out (fun z hz => ((Z3.out z hz).grow FA.out).keep F47.out (Safe.new (by simp))) (I4.out.keep F47.out (Safe.new (by simp))) (XL.out.symm) OWN7.out
        case measure => simp [intOf]; omega
      · obtain rfl : k = N.length := by omega
        obtain ⟨oa, ocap, hoa, _, _⟩ := hown.reads.shape
        subst hoa
        rw [List.take_length] at hown
        rw [List.take_length]
        have OW := hid hown
        have KB := hid (packOk_b PO.out)
        obtain ⟨P, hP⟩ : ∃ P, P = obsOf os N := ⟨_, rfl⟩
        rw [← hP] at OW KB PO
        rw [← hP]
        have PE := hid hP
        clear hown hnr hfr hP
        go_wp2_with (go_at_call 19; go_must (refine (implPackMake_any _ _ P _ OW.out.reads KB.out (HG.out.keep FR.out hpos)).mono ?_; rintro e w3 ⟨v3, rfl, own3, fr3⟩; rw [PO.out] at own3 ⊢; rw [if_pos rfl] at own3; have E3 := hid (own3.lower hls); have F3 := hid (FR.out.trans fr3.nil); clear own3 fr3))
        go_ret2
        refine ⟨_, rfl, ?_, F3.out⟩
        rw [← PE.out]
        exact E3.out
  · have C := hid (show needOk os ws hs = false by simpa using c)
    rw [if_neg c, C.out]
    clear c
    go_wp2_with (go_at_call 10; go_must (refine (implNeed_any K K1 K2 _ _ _ os ws hs _ HV.out HW.out HH.out HB.out hl0 hl1 hl2).mono ?_; rintro e w2 ⟨v2, rfl, _, hno, fr2⟩; obtain rfl := hno C.out; rw [C.out]; have F2 := hid fr2; clear fr2))
    go_ret2
    exact ⟨_, rfl, EnsOwn.nil _ _, F2.out⟩

end Go.Proofs.YtjgbconlpolddaaGreat

/- Fetched packs: what the laws' walks need. -/
namespace Go.Proofs.YtjgbconlpolddaaGreat
open Go.RowKit
set_option linter.unusedVariables false

theorem few_ok {os : List Ob} (h : ∀ o ∈ os, obOk o = true) : Few os := fun o ho => by
  have h1 := obOk_len (h o ho)
  have h2 := obOk_kind (h o ho)
  omega

/-- What is known of the objects that are sent. -/
structure Sent (os : List Ob) (ws hs : List Int) (P : List Ob) (es : List En) : Prop where
  ids : need os ws hs = P.map oid
  un : unpack es = some P
  eb : EnsB es
  ok : ∀ o ∈ P, obOk o = true
  len : P.length ≤ 16

theorem sent_of {os : List Ob} {ws hs : List Int} (h : needOk os ws hs = true) : Sent os ws hs (obsOf os (need os ws hs)) (pack (obsOf os (need os ws hs))) := by
  obtain ⟨h1, h2, h3, h4⟩ := needOk_iff.1 h
  have h5 := need_packOk (ws := ws) (hs := hs) h1
  have h6 := (packOk_all h5).2
  have h7 := obsOf_len (need_has (ws := ws) (hs := hs) h1)
  have h8 := Nat.le_trans (need_len h1 ws hs) (stOk_iff.1 h1).1
  have h9 := packEn_b (few_ok h6) (by omega) true
  rw [if_pos rfl] at h9
  exact ⟨(obsOf_oid (need_has h1)).symm, unpack_pack h5, h9, h6, by omega⟩

theorem implFP_yes (K K1 K2 : Nat → Bool → Prop) (v vw vh : Value) (os : List Ob) (ws hs : List Int) (w : World) (hv : ObsR K w v os) (h1 : IntsR K1 w vw ws) (h2 : IntsR K2 w vh hs) (hb : ObsB os) (hl1 : ws.length ≤ 1000000000) (hl2 : hs.length ≤ 1000000000) (hg : Glob w) (h : needOk os ws hs = true) (es : List En) (he : es = pack (obsOf os (need os ws hs))) :
    Calls Tryz.prog 7 #[v, vw, vh] w fun e w' => ∃ a cap, e = .returned (.tuple #[.slice a es.length cap, .bool true]) ∧ EnsOwn w.heap.size w' (.slice a es.length cap) es ∧ Fr w.heap.size [] w w' :=
  (implFetchPack_any K K1 K2 v vw vh os ws hs w hv h1 h2 hb hl1 hl2 hg).mono fun e w' ⟨v', g1, g2, g3⟩ => by
    rw [if_pos h, ← he] at g2
    obtain ⟨a, cap, rfl, _, _⟩ := g2.reads.shape
    exact ⟨a, cap, by rw [g1, h], g2, g3⟩

theorem implFP_no (K K1 K2 : Nat → Bool → Prop) (v vw vh : Value) (os : List Ob) (ws hs : List Int) (w : World) (hv : ObsR K w v os) (h1 : IntsR K1 w vw ws) (h2 : IntsR K2 w vh hs) (hb : ObsB os) (hl1 : ws.length ≤ 1000000000) (hl2 : hs.length ≤ 1000000000) (hg : Glob w) (h : needOk os ws hs = false) :
    Calls Tryz.prog 7 #[v, vw, vh] w fun e w' => ∃ a cap, e = .returned (.tuple #[.slice a 0 cap, .bool false]) ∧ EnsOwn w.heap.size w' (.slice a 0 cap) [] ∧ Fr w.heap.size [] w w' :=
  (implFetchPack_any K K1 K2 v vw vh os ws hs w hv h1 h2 hb hl1 hl2 hg).mono fun e w' ⟨v', g1, g2, g3⟩ => by
    rw [if_neg (by rw [h]; simp)] at g2
    obtain ⟨a, cap, rfl, _, _⟩ := g2.reads.shape
    exact ⟨a, cap, by rw [g1, h]; rfl, g2, g3⟩

theorem specFP_yes (K K1 K2 : Nat → Bool → Prop) (v vw vh : Value) (os : List Ob) (ws hs : List Int) (w : World) (hv : ObsR K w v os) (h1 : IntsR K1 w vw ws) (h2 : IntsR K2 w vh hs) (hb : ObsB os) (hl1 : ws.length ≤ 1000000000) (hl2 : hs.length ≤ 1000000000) (h : needOk os ws hs = true) (es : List En) (he : es = pack (obsOf os (need os ws hs))) :
    Calls Tryz.prog 8 #[v, vw, vh] w fun e w' => ∃ a cap, e = .returned (.tuple #[.slice a es.length cap, .bool true]) ∧ EnsOwn w.heap.size w' (.slice a es.length cap) es ∧ Fr w.heap.size [] w w' :=
  (specFetchPack_any K K1 K2 v vw vh os ws hs w hv h1 h2 hb hl1 hl2).mono fun e w' ⟨v', g1, g2, g3⟩ => by
    rw [if_pos h, ← he] at g2
    obtain ⟨a, cap, rfl, _, _⟩ := g2.reads.shape
    exact ⟨a, cap, by rw [g1, h], g2, g3⟩

theorem specFP_no (K K1 K2 : Nat → Bool → Prop) (v vw vh : Value) (os : List Ob) (ws hs : List Int) (w : World) (hv : ObsR K w v os) (h1 : IntsR K1 w vw ws) (h2 : IntsR K2 w vh hs) (hb : ObsB os) (hl1 : ws.length ≤ 1000000000) (hl2 : hs.length ≤ 1000000000) (h : needOk os ws hs = false) :
    Calls Tryz.prog 8 #[v, vw, vh] w fun e w' => ∃ a cap, e = .returned (.tuple #[.slice a 0 cap, .bool false]) ∧ EnsOwn w.heap.size w' (.slice a 0 cap) [] ∧ Fr w.heap.size [] w w' :=
  (specFetchPack_any K K1 K2 v vw vh os ws hs w hv h1 h2 hb hl1 hl2).mono fun e w' ⟨v', g1, g2, g3⟩ => by
    rw [if_neg (by rw [h]; simp)] at g2
    obtain ⟨a, cap, rfl, _, _⟩ := g2.reads.shape
    exact ⟨a, cap, by rw [g1, h]; rfl, g2, g3⟩

theorem obs_b17 {os : List Ob} (hl : os.length ≤ 17) (h : ∀ o ∈ os, obOk o = true) : ObsB os := (few_ok h).b hl

theorem ensB_nil : EnsB [] := ⟨Nat.zero_le _, fun e he => by cases he⟩

theorem fetch_of {y P x : List Ob} {es : List En} (h : unpack es = some P) (hy : stOk y = true) (hp : putAll y P = some x) : fetch y es = some x := by
  unfold fetch
  rw [h]
  simp [hy, hp]

theorem implF_some (K K' : Nat → Bool → Prop) (v vp : Value) (os : List Ob) (es : List En) (w : World) (hv : ObsR K w v os) (hp : EnsR K' w vp es) (hm : Mild K' w.heap.size) (hob : ObsB os) (hbl : EnsB es) {x : List Ob} (hx : fetch os es = some x) :
    Calls Tryz.prog 13 #[v, vp] w fun e w' => ∃ a cap, e = .returned (.tuple #[.slice a x.length cap, .bool true]) ∧ ObsOwn w.heap.size w' (.slice a x.length cap) x ∧ Fr w.heap.size [] w w' :=
  (implFetch_any K K' v vp os es w hv hp hm hob.2 hob.1 fun e he => (hbl.2 e he).1).mono fun e w' ⟨v', g1, g2, g3⟩ => by
    rw [hx] at g1 g2
    replace g2 : ObsOwn w.heap.size w' v' x := g2
    obtain ⟨a, cap, rfl, _, _⟩ := g2.reads.shape
    exact ⟨a, cap, g1, g2, g3⟩

end Go.Proofs.YtjgbconlpolddaaGreat

/- FnFetchMore: the walk. -/
namespace Go.Proofs.YtjgbconlpolddaaGreat
open Go.RowKit
set_option linter.unusedVariables false

set_option maxRecDepth 20000 in
set_option maxHeartbeats 4000000 in
theorem fetchMore_walk {w : World} {a : Option Addr} {n cap : Nat} (hb : Bytes w.heap.size w a n cap) (hm : cap ≤ maxLen) (hg : Glob w) :
    Calls Tryz.prog 4 #[.slice a n cap] w fun e w' => e = .returned (.bool true) ∧ Fr w.heap.size [] w w' := by
  have hnc := hb.1
  have HB := hid hb
  have HG := hid hg
  have hpos : 0 < w.heap.size := by obtain ⟨m, hm⟩ := hg; exact World.block_lt_of_cell? _ _ hm
  clear hb hg
  go_enter Tryz.func4, Tryz.ntmps4
  by_cases hn1 : n ≤ 1048576
  · have in1 : ¬ (1048576 : Int) < (n : Int) := by omega
    go_upto_region 4 with (go_at_call 6; go_must (refine (drawFetchPack_any HB.out hm).mono ?_; rintro e w1 ⟨v, vw, vh, os, ws, hs, rfl, own1, hl, hok, own2, hwl, own3, hhl, fr1⟩; have O1 := hid own1.reads; have W1 := hid own2.reads; have H1 := hid own3.reads; have F1 := hid fr1; have OB := hid (obs_b17 hl hok); obtain ⟨va, vcap, rfl, _, _⟩ := own1.reads.shape; obtain ⟨wa, wcap, rfl⟩ := own2.any; obtain ⟨ha, hcap, rfl⟩ := own3.any; clear own1 own2 own3 fr1 hok))
    have hwl9 : ws.length ≤ 1000000000 := by omega
    have hhl9 : hs.length ≤ 1000000000 := by omega
    rcases hno : needOk os ws hs with _ | _
    · have C := hid hno
      clear hno
      go_wp2_with (first
        | (go_at_call 7; go_must (refine (implFP_no _ _ _ _ _ _ os ws hs _ O1.out W1.out H1.out OB.out hwl9 hhl9 (HG.out.keep F1.out hpos) C.out).mono ?_; rintro e w2 ⟨a2, c2, rfl, own2, fr2⟩; have E2 := hid own2.reads; have F2 := hid (F1.out.trans fr2.nil); have O2 := hid (O1.out.grow fr2); have W2 := hid (W1.out.grow fr2); have H2 := hid (H1.out.grow fr2); clear own2 fr2))
        | (go_at_call 8; go_must (refine (specFP_no _ _ _ _ _ _ os ws hs _ O2.out W2.out H2.out OB.out hwl9 hhl9 C.out).mono ?_; rintro e w3 ⟨a3, c3, rfl, own3, fr3⟩; have E3 := hid own3.reads; have E23 := hid (E2.out.grow fr3); have F3 := hid (F2.out.trans fr3.nil); clear own3 fr3))
        | (go_at_call 9; go_must (refine (samePack_eq _ _ _ _ [] _ E23.out E3.out ensB_nil).mono ?_; rintro e w4 ⟨rfl, fr4⟩; have F3 := hid (F3.out.trans fr4.nil); have E23 := hid (E23.out.grow fr4); have E3 := hid (E3.out.grow fr4); clear fr4)))
      go_ret
      exact ⟨rfl, F3.out⟩
    · have C := hid hno
      have SE := sent_of hno
      obtain ⟨k1, k2, k3, k4⟩ := needOk_iff.1 hno
      have OK := hid k1
      have INW := hid (asc_in (idsB_asc k2).1)
      have INH := hid (asc_in (idsB_asc k3).1)
      have IBW := hid k2
      have IBH := hid k3
      have MW := hid k4
      obtain ⟨P, hP⟩ : ∃ P, P = obsOf os (need os ws hs) := ⟨_, rfl⟩
      have PE := hid hP
      rw [← hP] at SE
      obtain ⟨es, hE⟩ : ∃ es, es = pack P := ⟨_, rfl⟩
      rw [← hE] at SE
      have EE := hid (show es = pack (obsOf os (need os ws hs)) by rw [hE, hP])
      have S := hid SE
      have hPl := SE.len
      clear hno SE k1 k2 k3 k4 hP hE
      have h0l : (([] : List Int).length) ≤ 1000000000 := Nat.zero_le _
      rcases hno : needOk os hs [] with _ | _
      · have C2 := hid hno
        clear hno
        go_wp2_with (first
          | (go_at_call 7; (with_reducible refine (implFP_yes _ _ _ _ _ _ os ws hs _ O1.out W1.out H1.out OB.out hwl9 hhl9 (HG.out.keep F1.out hpos) C.out es EE.out).mono ?_); go_must (rintro e w2 ⟨a2, c2, rfl, own2, fr2⟩; have E2 := hid (own2.lower F1.out.size); have F2 := hid (F1.out.trans fr2.nil); have O2 := hid (O1.out.grow fr2); have W2 := hid (W1.out.grow fr2); have H2 := hid (H1.out.grow fr2); clear own2 fr2))
          | (go_at_call 8; go_must (refine (specFP_yes _ _ _ _ _ _ os ws hs _ O2.out W2.out H2.out OB.out hwl9 hhl9 C.out es EE.out).mono ?_; rintro e w3 ⟨a3, c3, rfl, own3, fr3⟩; have E3 := hid own3.reads; have E23 := hid (E2.out.grow fr3); have F3 := hid (F2.out.trans fr3.nil); have O3 := hid (O2.out.grow fr3); have W3 := hid (W2.out.grow fr3); have H3 := hid (H2.out.grow fr3); clear own3 fr3))
          | (go_at_call 9; go_must (refine (samePack_eq _ _ _ _ es _ E23.out.reads E3.out S.out.eb).mono ?_; rintro e w4 ⟨rfl, fr4⟩; have F4 := hid (F3.out.trans fr4.nil); have E4 := hid (E23.out.grow fr4); have O4 := hid (O3.out.grow fr4); have W4 := hid (W3.out.grow fr4); have H4 := hid (H3.out.grow fr4); clear fr4))
          | (go_at_call 7; go_must (have FA := hid ((Fr.refl 0 [] w4).alloc (.cells #[] 3)); have F4A := hid (F4.out.alloc (.cells #[] 3)); refine (implFP_no _ _ _ _ _ _ os hs [] _ (O4.out.grow FA.out) (H4.out.grow FA.out) (OwnI.lit (w := w4)).reads OB.out hhl9 h0l (HG.out.keep F4A.out hpos) C2.out).mono ?_; rintro e w5 ⟨a5, c5, rfl, own5, fr5⟩; have E5 := hid (own5.lower F4A.out.size); have F5 := hid (F4A.out.trans fr5.nil); have O5 := hid ((O4.out.grow FA.out).grow fr5); have W5 := hid ((W4.out.grow FA.out).grow fr5); have P5 := hid ((E4.out.grow FA.out).grow fr5); clear own5 fr5))
          | (go_at_call 13; go_must (have FB := hid ((Fr.refl 0 [] w5).alloc (.cells #[] 37)); have F5B := hid (F5.out.alloc (.cells #[] 37)); refine (implFetch_any _ _ _ _ [] [] _ (ObsOwn.empty (w := w5) rfl).reads (E5.out.grow FB.out).reads (Mild.new _ _) (fun o ho => (by cases ho)) (Nat.zero_le _) (fun e he => (by cases he))).mono ?_; rintro e w6 ⟨v6, rfl, _, fr6⟩; generalize (fetch [] []).isSome = two; have F6 := hid (F5B.out.trans fr6.nil); clear fr6)))
        go_ret
        exact ⟨rfl, F6.out⟩
      · have C2 := hid hno
        have SE2 := sent_of hno
        obtain ⟨y, x, y1, y2, x1, x2, x3⟩ := more_law OK.out INW.out INH.out MW.out (needOk_iff.1 hno).2.2.2
        obtain ⟨es2, hE2⟩ : ∃ es, es = pack (obsOf os (need os hs [])) := ⟨_, rfl⟩
        have EE2 := hid hE2
        have FX := hid (show fetch [] es2 = some y from by rw [hE2]; exact fetch_of SE2.un (by rfl) y1)
        have FX2 := hid (show fetch y es = some x from fetch_of S.out.un y2 (by rw [PE.out]; exact x1))
        have EB2 := hid (show EnsB es2 by rw [hE2]; exact SE2.eb)
        have YB := hid (obs_b17 (by have := (stOk_iff.1 y2).1; omega) (stOk_iff.1 y2).2.1)
        have XOK := hid x2
        have XM := hid x3
        clear SE2 y1 y2 x1 x2 x3 hE2 hno
        go_wp2_with (first
          | (go_at_call 7; (with_reducible refine (implFP_yes _ _ _ _ _ _ os ws hs _ O1.out W1.out H1.out OB.out hwl9 hhl9 (HG.out.keep F1.out hpos) C.out es EE.out).mono ?_); go_must (rintro e w2 ⟨a2, c2, rfl, own2, fr2⟩; have E2 := hid (own2.lower F1.out.size); have F2 := hid (F1.out.trans fr2.nil); have O2 := hid (O1.out.grow fr2); have W2 := hid (W1.out.grow fr2); have H2 := hid (H1.out.grow fr2); clear own2 fr2))
          | (go_at_call 8; go_must (refine (specFP_yes _ _ _ _ _ _ os ws hs _ O2.out W2.out H2.out OB.out hwl9 hhl9 C.out es EE.out).mono ?_; rintro e w3 ⟨a3, c3, rfl, own3, fr3⟩; have E3 := hid own3.reads; have E23 := hid (E2.out.grow fr3); have F3 := hid (F2.out.trans fr3.nil); have O3 := hid (O2.out.grow fr3); have W3 := hid (W2.out.grow fr3); have H3 := hid (H2.out.grow fr3); clear own3 fr3))
          | (go_at_call 9; go_must (refine (samePack_eq _ _ _ _ es _ E23.out.reads E3.out S.out.eb).mono ?_; rintro e w4 ⟨rfl, fr4⟩; have F4 := hid (F3.out.trans fr4.nil); have E4 := hid (E23.out.grow fr4); have O4 := hid (O3.out.grow fr4); have W4 := hid (W3.out.grow fr4); have H4 := hid (H3.out.grow fr4); clear fr4))
          | (go_at_call 7; go_must (have FA := hid ((Fr.refl 0 [] w4).alloc (.cells #[] 3)); have F4A := hid (F4.out.alloc (.cells #[] 3)); refine (implFP_yes _ _ _ _ _ _ os hs [] _ (O4.out.grow FA.out) (H4.out.grow FA.out) (OwnI.lit (w := w4)).reads OB.out hhl9 h0l (HG.out.keep F4A.out hpos) C2.out es2 EE2.out).mono ?_; rintro e w5 ⟨a5, c5, rfl, own5, fr5⟩; have E5 := hid (own5.lower F4A.out.size); have F5 := hid (F4A.out.trans fr5.nil); have O5 := hid ((O4.out.grow FA.out).grow fr5); have W5 := hid ((W4.out.grow FA.out).grow fr5); have P5 := hid ((E4.out.grow FA.out).grow fr5); clear own5 fr5))
          | (go_at_call 13; (refine (implF_some _ _ _ _ y es _ X6.out P6.out.reads (Mild.new _ _) YB.out S.out.eb FX2.out).mono ?_); go_must (rintro e w7 ⟨a7, c7, rfl, own7, fr7⟩; have X7 := hid (own7.lower F6.out.size).reads; have F7 := hid (F6.out.trans fr7.nil); have W7 := hid (W6.out.grow fr7); clear own7 fr7))
          | (go_at_call 13; go_must (have FB := hid ((Fr.refl 0 [] w5).alloc (.cells #[] 37)); have F5B := hid (F5.out.alloc (.cells #[] 37)); refine (implF_some _ _ _ _ [] es2 _ (ObsOwn.empty (w := w5) rfl).reads (E5.out.grow FB.out).reads (Mild.new _ _) ⟨Nat.zero_le _, fun o ho => (by cases ho)⟩ EB2.out FX.out).mono ?_; rintro e w6 ⟨a6, c6, rfl, own6, fr6⟩; have X6 := hid (own6.lower F5B.out.size).reads; have F6 := hid (F5B.out.trans fr6.nil); have O6 := hid ((O5.out.grow FB.out).grow fr6); have W6 := hid ((W5.out.grow FB.out).grow fr6); have P6 := hid ((P5.out.grow FB.out).grow fr6); clear own6 fr6))
          | (go_at_call 14; go_must (refine (storeMissing_any _ _ _ _ x ws _ X7.out W7.out XOK.out IBW.out).mono ?_; rintro e w8 ⟨v8, rfl, own8, fr8⟩; rw [XM.out] at own8; obtain ⟨a8, c8, rfl⟩ := own8.any; have F8 := hid (F7.out.trans fr8.nil); clear own8 fr8)))
        go_ret
        exact ⟨rfl, F8.out⟩
  · have in1 : (1048576 : Int) < (n : Int) := by omega
    go_wp2
    go_ret
    exact ⟨rfl, Fr.refl _ _ _⟩

end Go.Proofs.YtjgbconlpolddaaGreat

/- FnFetchPack: the walk. -/
namespace Go.Proofs.YtjgbconlpolddaaGreat
open Go.RowKit
set_option linter.unusedVariables false

set_option maxRecDepth 20000 in
set_option maxHeartbeats 4000000 in
theorem fetchPack_walk {w : World} {a : Option Addr} {n cap : Nat} (hb : Bytes w.heap.size w a n cap) (hm : cap ≤ maxLen) (hg : Glob w) :
    Calls Tryz.prog 3 #[.slice a n cap] w fun e w' => e = .returned (.bool true) ∧ Fr w.heap.size [] w w' := by
  have hnc := hb.1
  have HB := hid hb
  have HG := hid hg
  have hpos : 0 < w.heap.size := by obtain ⟨m, hm⟩ := hg; exact World.block_lt_of_cell? _ _ hm
  clear hb hg
  go_enter Tryz.func3, Tryz.ntmps3
  by_cases hn1 : n ≤ 1048576
  · have in1 : ¬ (1048576 : Int) < (n : Int) := by omega
    go_upto_region 4 with (go_at_call 6; go_must (refine (drawFetchPack_any HB.out hm).mono ?_; rintro e w1 ⟨v, vw, vh, os, ws, hs, rfl, own1, hl, hok, own2, hwl, own3, hhl, fr1⟩; have O1 := hid own1.reads; have W1 := hid own2.reads; have H1 := hid own3.reads; have F1 := hid fr1; have OB := hid (obs_b17 hl hok); obtain ⟨va, vcap, rfl, _, _⟩ := own1.reads.shape; obtain ⟨wa, wcap, rfl⟩ := own2.any; obtain ⟨ha, hcap, rfl⟩ := own3.any; clear own1 own2 own3 fr1 hok))
    have hwl9 : ws.length ≤ 1000000000 := by omega
    have hhl9 : hs.length ≤ 1000000000 := by omega
    rcases hno : needOk os ws hs with _ | _
    · have C := hid hno
      clear hno
      go_wp2_with (first
        | (go_at_call 7; go_must (refine (implFP_no _ _ _ _ _ _ os ws hs _ O1.out W1.out H1.out OB.out hwl9 hhl9 (HG.out.keep F1.out hpos) C.out).mono ?_; rintro e w2 ⟨a2, c2, rfl, own2, fr2⟩; have E2 := hid own2.reads; have F2 := hid (F1.out.trans fr2.nil); have O2 := hid (O1.out.grow fr2); have W2 := hid (W1.out.grow fr2); have H2 := hid (H1.out.grow fr2); clear own2 fr2))
        | (go_at_call 8; go_must (refine (specFP_no _ _ _ _ _ _ os ws hs _ O2.out W2.out H2.out OB.out hwl9 hhl9 C.out).mono ?_; rintro e w3 ⟨a3, c3, rfl, own3, fr3⟩; have E3 := hid own3.reads; have E23 := hid (E2.out.grow fr3); have F3 := hid (F2.out.trans fr3.nil); clear own3 fr3))
        | (go_at_call 9; go_must (refine (samePack_eq _ _ _ _ [] _ E23.out E3.out ensB_nil).mono ?_; rintro e w4 ⟨rfl, fr4⟩; have F3 := hid (F3.out.trans fr4.nil); have E23 := hid (E23.out.grow fr4); have E3 := hid (E3.out.grow fr4); clear fr4)))
      go_ret
      exact ⟨rfl, F3.out⟩
    · have C := hid hno
      have SE := sent_of hno
      obtain ⟨k1, k2, k3, k4⟩ := needOk_iff.1 hno
      have OK := hid k1
      have INW := hid (asc_in (idsB_asc k2).1)
      have INH := hid (asc_in (idsB_asc k3).1)
      have IBW := hid k2
      have IBH := hid k3
      have MW := hid k4
      obtain ⟨P, hP⟩ : ∃ P, P = obsOf os (need os ws hs) := ⟨_, rfl⟩
      have PE := hid hP
      rw [← hP] at SE
      obtain ⟨es, hE⟩ : ∃ es, es = pack P := ⟨_, rfl⟩
      rw [← hE] at SE
      have EE := hid (show es = pack (obsOf os (need os ws hs)) by rw [hE, hP])
      have S := hid SE
      have hPl := SE.len
      clear hno SE k1 k2 k3 k4 hP hE
      go_wp2_with (first
        | (go_at_call 7; (with_reducible refine (implFP_yes _ _ _ _ _ _ os ws hs _ O1.out W1.out H1.out OB.out hwl9 hhl9 (HG.out.keep F1.out hpos) C.out es EE.out).mono ?_); go_must (rintro e w2 ⟨a2, c2, rfl, own2, fr2⟩; have E2 := hid (own2.lower F1.out.size); have F2 := hid (F1.out.trans fr2.nil); have O2 := hid (O1.out.grow fr2); have W2 := hid (W1.out.grow fr2); have H2 := hid (H1.out.grow fr2); clear own2 fr2))
        | (go_at_call 8; go_must (refine (specFP_yes _ _ _ _ _ _ os ws hs _ O2.out W2.out H2.out OB.out hwl9 hhl9 C.out es EE.out).mono ?_; rintro e w3 ⟨a3, c3, rfl, own3, fr3⟩; have E3 := hid own3.reads; have E23 := hid (E2.out.grow fr3); have F3 := hid (F2.out.trans fr3.nil); have O3 := hid (O2.out.grow fr3); have W3 := hid (W2.out.grow fr3); have H3 := hid (H2.out.grow fr3); clear own3 fr3))
        | (go_at_call 9; go_must (refine (samePack_eq _ _ _ _ es _ E23.out.reads E3.out S.out.eb).mono ?_; rintro e w4 ⟨rfl, fr4⟩; have F4 := hid (F3.out.trans fr4.nil); have E4 := hid (E23.out.grow fr4); have O4 := hid (O3.out.grow fr4); have W4 := hid (W3.out.grow fr4); have H4 := hid (H3.out.grow fr4); clear fr4))
        | (go_at_call 10; go_must (refine (implNeed_any _ _ _ _ _ _ os ws hs _ O4.out W4.out H4.out OB.out OB.out.1 hwl9 hhl9).mono ?_; rintro e w5 ⟨v5, rfl, own5, _, fr5⟩; replace own5 := own5 C.out; rw [S.out.ids] at own5; rw [C.out]; obtain ⟨na, ncap, hna⟩ := own5.any; rw [List.length_map] at hna; subst hna; have N5 := hid (own5.lower F4.out.size); have E5 := hid (E4.out.grow fr5); have F5 := hid (F4.out.trans fr5.nil); clear own5 fr5))
        | (go_at_call 11; go_must (refine (implPackObjects_any _ _ es _ E5.out.reads (Mild.new _ _) (fun e he => (S.out.eb.2 e he).1)).mono ?_; rintro e w6 ⟨fr6, hres⟩; obtain ⟨v6, rfl, own6⟩ := unpacked_of S.out.un hres; have L6 := hid own6; have N6 := hid (N5.out.grow fr6); have F6 := hid (F5.out.trans fr6.nil); obtain ⟨la, lcap, rfl, _, _⟩ := own6.reads.shape; clear fr6 hres own6)))
      obtain ⟨W6, rfl⟩ : ∃ W : World, W = w6 := ⟨_, rfl⟩
      go_loopw [14] (fun vi wx => ∃ k : Nat, k ≤ P.length ∧ vi = .int .i64 k ∧ Fr W6.heap.size [] W6 wx) (fun vi _ => P.length - (intOf vi).toNat)
      case atStart => exact ⟨0, Nat.zero_le _, rfl, Fr.refl _ _ _⟩
      case round =>
        obtain ⟨k, hk, rfl, hfr⟩ := hrel
        have FR := hid hfr
        clear hfr
        by_cases hlt : k < P.length
        · obtain ⟨b, off, rfl⟩ : ∃ b off, la = some ⟨b, off, none⟩ := by
            obtain ⟨_, _, he, _, hh⟩ := L6.out.reads.shape
            cases he
            rcases hh with hh | ⟨b, off, hh, _⟩
            · rw [hh] at hlt; cases hlt
            · exact ⟨b, off, hh⟩
          obtain ⟨ua, ucap, h0, h1, h2, hu⟩ := (L6.out.grow FR.out).atS k hlt
          have hkm : k < (P.map oid).length := by simpa using hlt
          obtain ⟨g, gcap, he, _, hgs, d0⟩ := (N6.out.grow FR.out).at hkm
          rw [List.length_map] at he
          cases he
          rw [List.getElem_map] at d0
          have OKK := hid (S.out.ok _ (List.getElem_mem hlt))
          have HU := hid hu
          have hki : (k : Int) < (P.length : Int) := by omega
          have hbr : b < wr.heap.size := World.block_lt_of_cell? _ _ h0
          clear hu
          generalize P[k] = o at *
          go_wp2
          go_region_held3 (fun x => x.cell? ⟨b, off + k * 3, none⟩ = some (.int .i64 o.kind) ∧ x.cell? ⟨b, off + k * 3 + 1, none⟩ = some (.slice ua o.links.length ucap) ∧ x.cell? ⟨b, off + k * 3 + 2, none⟩ = some (.string (tx o.text)) ∧ x.cell? ⟨g, k, none⟩ = some (.int .i64 (oid o)))
            (first | exact ⟨h0, h1, h2, d0⟩ | exact ⟨fr1.cell hbr h0, fr1.cell hbr h1, fr1.cell hbr h2, fr1.cell hgs d0⟩)
            (first
              | (go_at_call 12; go_must (refine (objectId_any _ _ o _ (HU.out.grow (Fr.refl 0 [] wr).drew) OKK.out).mono ?_; rintro e w7 ⟨rfl, fr⟩; have fr1 : Fr wr.heap.size [] wr w7 := (Fr.refl wr.heap.size [] wr).drew.trans fr)))
          go_wp2
          go_roundw
          case rel => exact ⟨k + 1, by omega, by go_num, FR.out.trans fr1.nil⟩
          case measure => simp [intOf]; omega
        · obtain rfl : k = P.length := by omega
          go_wp2
          go_ret
          exact ⟨rfl, F6.out.trans FR.out.nil⟩
  · have in1 : (1048576 : Int) < (n : Int) := by omega
    go_wp2
    go_ret
    exact ⟨rfl, Fr.refl _ _ _⟩

end Go.Proofs.YtjgbconlpolddaaGreat

/- FnFetchWhole: the walk. -/
namespace Go.Proofs.YtjgbconlpolddaaGreat
open Go.RowKit
set_option linter.unusedVariables false

set_option maxRecDepth 20000 in
set_option maxHeartbeats 4000000 in
theorem fetchWhole_walk {w : World} {a : Option Addr} {n cap : Nat} (hb : Bytes w.heap.size w a n cap) (hm : cap ≤ maxLen) (hg : Glob w) :
    Calls Tryz.prog 5 #[.slice a n cap] w fun e w' => e = .returned (.bool true) ∧ Fr w.heap.size [] w w' := by
  have hnc := hb.1
  have HB := hid hb
  have HG := hid hg
  have hpos : 0 < w.heap.size := by obtain ⟨m, hm⟩ := hg; exact World.block_lt_of_cell? _ _ hm
  clear hb hg
  go_enter Tryz.func5, Tryz.ntmps5
  by_cases hn1 : n ≤ 1048576
  · have in1 : ¬ (1048576 : Int) < (n : Int) := by omega
    go_upto_region 4 with (go_at_call 6; go_must (refine (drawFetchPack_any HB.out hm).mono ?_; rintro e w1 ⟨v, vw, vh, os, ws, hs, rfl, own1, hl, hok, own2, hwl, own3, hhl, fr1⟩; have O1 := hid own1.reads; have W1 := hid own2.reads; have H1 := hid own3.reads; have F1 := hid fr1; have OB := hid (obs_b17 hl hok); obtain ⟨va, vcap, rfl, _, _⟩ := own1.reads.shape; obtain ⟨wa, wcap, rfl⟩ := own2.any; obtain ⟨ha, hcap, rfl⟩ := own3.any; clear own1 own2 own3 fr1 hok))
    have hwl9 : ws.length ≤ 1000000000 := by omega
    have hhl9 : hs.length ≤ 1000000000 := by omega
    rcases hno : needOk os ws hs with _ | _
    · have C := hid hno
      clear hno
      go_wp2_with (first
        | (go_at_call 7; go_must (refine (implFP_no _ _ _ _ _ _ os ws hs _ O1.out W1.out H1.out OB.out hwl9 hhl9 (HG.out.keep F1.out hpos) C.out).mono ?_; rintro e w2 ⟨a2, c2, rfl, own2, fr2⟩; have E2 := hid own2.reads; have F2 := hid (F1.out.trans fr2.nil); have O2 := hid (O1.out.grow fr2); have W2 := hid (W1.out.grow fr2); have H2 := hid (H1.out.grow fr2); clear own2 fr2))
        | (go_at_call 8; go_must (refine (specFP_no _ _ _ _ _ _ os ws hs _ O2.out W2.out H2.out OB.out hwl9 hhl9 C.out).mono ?_; rintro e w3 ⟨a3, c3, rfl, own3, fr3⟩; have E3 := hid own3.reads; have E23 := hid (E2.out.grow fr3); have F3 := hid (F2.out.trans fr3.nil); clear own3 fr3))
        | (go_at_call 9; go_must (refine (samePack_eq _ _ _ _ [] _ E23.out E3.out ensB_nil).mono ?_; rintro e w4 ⟨rfl, fr4⟩; have F3 := hid (F3.out.trans fr4.nil); have E23 := hid (E23.out.grow fr4); have E3 := hid (E3.out.grow fr4); clear fr4)))
      go_ret
      exact ⟨rfl, F3.out⟩
    · have C := hid hno
      have SE := sent_of hno
      obtain ⟨k1, k2, k3, k4⟩ := needOk_iff.1 hno
      have OK := hid k1
      have INW := hid (asc_in (idsB_asc k2).1)
      have INH := hid (asc_in (idsB_asc k3).1)
      have IBW := hid k2
      have IBH := hid k3
      have MW := hid k4
      obtain ⟨P, hP⟩ : ∃ P, P = obsOf os (need os ws hs) := ⟨_, rfl⟩
      have PE := hid hP
      rw [← hP] at SE
      obtain ⟨es, hE⟩ : ∃ es, es = pack P := ⟨_, rfl⟩
      rw [← hE] at SE
      have EE := hid (show es = pack (obsOf os (need os ws hs)) by rw [hE, hP])
      have S := hid SE
      have hPl := SE.len
      clear hno SE k1 k2 k3 k4 hP hE
      have C2 := hid (needOk_iff.2 ⟨OK.out, IBW.out, (by rfl : idsB [] = true), MW.out⟩)
      have SE2 := sent_of C2.out
      obtain ⟨x, x1, x2, x3, x4⟩ := whole_law OK.out INW.out MW.out
      obtain ⟨es2, hE2⟩ : ∃ es, es = pack (obsOf os (need os ws [])) := ⟨_, rfl⟩
      have EE2 := hid hE2
      have FX := hid (show fetch [] es2 = some x from by rw [hE2]; exact fetch_of SE2.un (by rfl) x1)
      have EB2 := hid (show EnsB es2 by rw [hE2]; exact SE2.eb)
      have XOK := hid x2
      have XM := hid x3
      have XS := hid x4
      have h0l : (([] : List Int).length) ≤ 1000000000 := Nat.zero_le _
      clear SE2 x1 x2 x3 x4 hE2
      obtain ⟨R, hR⟩ : ∃ R, R = rcS os ws := ⟨_, rfl⟩
      have RE := hid hR
      have hRl : R.length ≤ 1000000000 := by rw [hR]; have := rcS_len OK.out ws; have := (stOk_iff.1 OK.out).1; omega
      clear hR
      go_wp2_with (first
        | (go_at_call 7; (with_reducible refine (implFP_yes _ _ _ _ _ _ os ws hs _ O1.out W1.out H1.out OB.out hwl9 hhl9 (HG.out.keep F1.out hpos) C.out es EE.out).mono ?_); go_must (rintro e w2 ⟨a2, c2, rfl, own2, fr2⟩; have E2 := hid (own2.lower F1.out.size); have F2 := hid (F1.out.trans fr2.nil); have O2 := hid (O1.out.grow fr2); have W2 := hid (W1.out.grow fr2); have H2 := hid (H1.out.grow fr2); clear own2 fr2))
        | (go_at_call 8; go_must (refine (specFP_yes _ _ _ _ _ _ os ws hs _ O2.out W2.out H2.out OB.out hwl9 hhl9 C.out es EE.out).mono ?_; rintro e w3 ⟨a3, c3, rfl, own3, fr3⟩; have E3 := hid own3.reads; have E23 := hid (E2.out.grow fr3); have F3 := hid (F2.out.trans fr3.nil); have O3 := hid (O2.out.grow fr3); have W3 := hid (W2.out.grow fr3); have H3 := hid (H2.out.grow fr3); clear own3 fr3))
        | (go_at_call 9; go_must (refine (samePack_eq _ _ _ _ es _ E23.out.reads E3.out S.out.eb).mono ?_; rintro e w4 ⟨rfl, fr4⟩; have F4 := hid (F3.out.trans fr4.nil); have E4 := hid (E23.out.grow fr4); have O4 := hid (O3.out.grow fr4); have W4 := hid (W3.out.grow fr4); have H4 := hid (H3.out.grow fr4); clear fr4))
        | (go_at_call 7; go_must (have FA := hid ((Fr.refl 0 [] w4).alloc (.cells #[] 3)); have F4A := hid (F4.out.alloc (.cells #[] 3)); refine (implFP_yes _ _ _ _ _ _ os ws [] _ (O4.out.grow FA.out) (W4.out.grow FA.out) (OwnI.lit (w := w4)).reads OB.out hwl9 h0l (HG.out.keep F4A.out hpos) C2.out es2 EE2.out).mono ?_; rintro e w5 ⟨a5, c5, rfl, own5, fr5⟩; have E5 := hid (own5.lower F4A.out.size); have F5 := hid (F4A.out.trans fr5.nil); have O5 := hid ((O4.out.grow FA.out).grow fr5); have W5 := hid ((W4.out.grow FA.out).grow fr5); clear own5 fr5))
        | (go_at_call 13; go_must (have FB := hid ((Fr.refl 0 [] w5).alloc (.cells #[] 37)); have F5B := hid (F5.out.alloc (.cells #[] 37)); refine (implF_some _ _ _ _ [] es2 _ (ObsOwn.empty (w := w5) rfl).reads (E5.out.grow FB.out).reads (Mild.new _ _) ⟨Nat.zero_le _, fun o ho => (by cases ho)⟩ EB2.out FX.out).mono ?_; rintro e w6 ⟨a6, c6, rfl, own6, fr6⟩; have X6 := hid (own6.lower F5B.out.size).reads; have F6 := hid (F5B.out.trans fr6.nil); have O6 := hid ((O5.out.grow FB.out).grow fr6); have W6 := hid ((W5.out.grow FB.out).grow fr6); clear own6 fr6))
        | (go_at_call 14; go_must (refine (storeMissing_any _ _ _ _ x ws _ X6.out W6.out XOK.out IBW.out).mono ?_; rintro e w7 ⟨v7, rfl, own7, fr7⟩; rw [XM.out] at own7; obtain ⟨a7, c7, rfl⟩ := own7.any; have F7 := hid (F6.out.trans fr7.nil); have X7 := hid (X6.out.grow fr7); have O7 := hid (O6.out.grow fr7); have W7 := hid (W6.out.grow fr7); clear own7 fr7))
        | (go_at_call 16; (with_reducible refine (storeReach_any _ _ _ _ x ws _ X7.out W7.out XOK.out IBW.out).mono ?_); go_must (rintro e w8 ⟨v8, rfl, own8, fr8⟩; rw [XS.out, ← RE.out] at own8; replace own8 : OwnI _ w8 v8 R := own8; obtain ⟨a8, c8, rfl⟩ := own8.any; have R8 := hid own8.reads; have F8 := hid (F7.out.trans fr8.nil); have O8 := hid (O7.out.grow fr8); have W8 := hid (W7.out.grow fr8); clear own8 fr8))
        | (go_at_call 16; go_must (refine (storeReach_any _ _ _ _ os ws _ O8.out W8.out OK.out IBW.out).mono ?_; rintro e w9 ⟨v9, rfl, own9, fr9⟩; rw [← RE.out] at own9; replace own9 : OwnI _ w9 v9 R := own9; obtain ⟨a9, c9, rfl⟩ := own9.any; have Q9 := hid own9.reads; have R9 := hid (R8.out.grow fr9); have F9 := hid (F8.out.trans fr9.nil); clear own9 fr9))
        | (go_at_call 15; go_must (refine (sameInts_eq _ _ _ _ R _ R9.out Q9.out hRl).mono ?_; rintro e w10 ⟨rfl, fr10⟩; have F10 := hid (F9.out.trans fr10.nil); clear fr10)))
      go_ret
      exact ⟨rfl, F10.out⟩
  · have in1 : (1048576 : Int) < (n : Int) := by omega
    go_wp2
    go_ret
    exact ⟨rfl, Fr.refl _ _ _⟩

end Go.Proofs.YtjgbconlpolddaaGreat
