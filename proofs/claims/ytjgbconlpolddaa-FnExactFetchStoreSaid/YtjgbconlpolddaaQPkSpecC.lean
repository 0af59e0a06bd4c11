/- The reference's l3Objects and PackObjects. -/
import Derived.Test.YtjgbconlpolddaaQM5
import Derived.Test.YtjgbconlpolddaaQM6
set_option linter.unusedVariables false
set_option linter.unusedSimpArgs false
namespace Go.Proofs.Ytjgbconlpolddaa
open Go.RowKit
set_option linter.unusedVariables false

theorem objsTo_len {es : List En} : ∀ {k : Nat} {os : List Ob}, k ≤ es.length → objsTo es k = some os → os.length = k := by
  intro k
  induction k with
  | zero => intro os _ h; simp [objsTo] at h; subst h; rfl
  | succ k ih =>
    intro os hk h
    cases hp : objsTo es k with
    | none => rw [objsTo_none hp (k + 1) (by omega)] at h; cases h
    | some xs =>
      have hk' : k < es.length := by omega
      rw [objsTo_succ hk' hp] at h
      have hx := ih (by omega) hp
      split at h
      · split at h
        · simp at h; subst h; simp [hx]
        · cases h
      · cases h

theorem objsTo_fail {es : List En} {k : Nat} {os : List Ob} {tb : Tx} (hk : k < es.length) (h : objsTo es k = some os) (ht : baseT (os.map (·.text)) es[k].base = tb)
    (hn : dapp tb es[k].ops = none ∨ ∃ t, dapp tb es[k].ops = some t ∧ obOk ⟨es[k].kind, es[k].links, t⟩ = false) : objsTo es es.length = none := by
  subst ht
  refine objsTo_none (k := k + 1) ?_ _ hk
  rw [objsTo_succ hk h]
  rcases hn with hn | ⟨t, hn, hb⟩
  · rw [hn]
  · rw [hn]
    dsimp only
    rw [if_neg (fun h => by rw [hb] at h; exact absurd h (by decide))]

theorem objsTo_go {es : List En} {k : Nat} {os : List Ob} {tb t : Tx} (hk : k < es.length) (h : objsTo es k = some os) (ht : baseT (os.map (·.text)) es[k].base = tb)
    (hn : dapp tb es[k].ops = some t) (ho : obOk ⟨es[k].kind, es[k].links, t⟩ = true) : objsTo es (k + 1) = some (os ++ [⟨es[k].kind, es[k].links, t⟩]) := by
  subst ht
  rw [objsTo_succ hk h, hn]
  dsimp only
  rw [if_pos ho]

set_option maxRecDepth 20000 in
set_option maxHeartbeats 4000000 in
theorem l3Objects_any (K : Nat → Bool → Prop) (v : Value) (es : List En) (w : World) (hv : EnsR K w v es) (hl : es.length ≤ 2000000) (hlk : linkOk es = true) (hbl : ∀ e ∈ es, e.links.length ≤ 1000000000) :
    Calls Try.prog 87 #[v] w fun e w' => ∃ v', e = .returned (.tuple #[v', .bool (objsTo es es.length).isSome]) ∧ ObsOwn w.heap.size w' v' ((objsTo es es.length).getD []) ∧ Fr w.heap.size [] w w' := by
  obtain ⟨a, cap, rfl, hcap, hcell⟩ := hv.shape
  obtain ⟨i0, hi, hz0, hz1, hz2⟩ := info_parts infoI
  obtain ⟨iob, hoi, hoz0, hoz1, hoz2⟩ := info_parts infoOb
  have HC := hid hcell
  have LK := hid hlk
  have HBL := hid hbl
  have OE := hid (ObsOwn.empty (w := w) rfl)
  obtain ⟨R, hR⟩ : ∃ R, objsTo es es.length = R := ⟨_, rfl⟩
  rw [hR]
  have DONE := hid hR
  have FAIL := hid (fun k os tb hk h ht hn => show R = none from by rw [← hR]; exact objsTo_fail (es := es) (k := k) (os := os) (tb := tb) hk h ht hn)
  clear hv hcell hlk hbl hR
  go_enter Try.func87, Try.ntmps87
  go_wp2
  go_loopw [4, 5] (fun vo vi wx => ∃ (k : Nat) (os : List Ob), k ≤ es.length ∧ vi = .int .i64 k ∧ objsTo es k = some os ∧ ObsOwn w.heap.size wx vo os ∧ Fr w.heap.size [] w wx) (fun _ vi _ => es.length - (intOf vi).toNat)
  case atStart => exact ⟨0, [], Nat.zero_le _, rfl, rfl, OE.out, (Fr.refl _ _ _).alloc _⟩
  case round =>
    obtain ⟨k, os, hk, rfl, hto, hown, hfr⟩ := hrel
    have TO := hid hto
    have OL := hid (objsTo_len hk hto)
    have OWN := hid hown
    have hwr := hfr.size
    obtain ⟨oa, ocap, rfl, hoc, hoc2⟩ := hown.reads.shape
    have HOC := hid hoc2
    clear hto hown hoc2
    have hol : os.length = k := OL.out
    have OLH := hid hol
    by_cases hlt : k < es.length
    · rcases HC.out with hh | ⟨b, off, rfl, hbs, hcell⟩
      · rw [hh] at hlt; cases hlt
      obtain ⟨u, p, h0, h1, h2, h3, hu, hp⟩ := hcell k hlt
      obtain ⟨ua, ucap, rfl, _, _⟩ := hu.shape
      obtain ⟨pa, pcap, rfl, _, _⟩ := hp.shape
      have c0 := hfr.cell hbs h0
      have c1 := hfr.cell hbs h1
      have c2 := hfr.cell hbs h2
      have c3 := hfr.cell hbs h3
      have HU := hid (hu.grow hfr)
      have HP := hid (hp.grow hfr)
      have hki : (k : Int) < (es.length : Int) := by omega
      have hbk := HBL.out _ (List.getElem_mem hlt)
      have hbr := Nat.lt_of_lt_of_le hbs hfr.size
      have LB := hid (linkTo_at (show linkTo es es.length = true from LK.out) k hlt hlt)
      have hlb := LB.out
      have KP := hid (fun (x : World) (f : Fr w.heap.size [] w x) => (⟨f.cell hbs h0, f.cell hbs h1⟩ : x.cell? ⟨b, off + k * 4, none⟩ = some (.int .i64 es[k].kind) ∧ x.cell? ⟨b, off + k * 4 + 1, none⟩ = some (.slice ua es[k].links.length ucap)))
      clear h0 h1 h2 h3 hu hp hcell hol
      have OWNK := hid OWN.out
      have hosl : os.length ≤ 2000000 := by have := OLH.out; omega
      clear OWN
      rcases (show es[k].base < 0 ∨ 0 ≤ es[k].base by omega) with hneg | hpos
      · have ib : ¬ (0 : Int) ≤ es[k].base := by omega
        have TB := hid (show baseT (os.map (·.text)) es[k].base = [] by unfold baseT; rw [if_pos hneg])
        have FAIL := hid (fun h => FAIL.out k os _ hlt TO.out TB.out h)
        have GO := hid (fun t h h2 => objsTo_go (t := t) hlt TO.out TB.out h h2)
        obtain ⟨st, hst⟩ : ∃ st, (dapp [] es[k].ops).getD [] = st := ⟨_, rfl⟩
        obtain ⟨ok, hok⟩ : ∃ ok, (dapp [] es[k].ops).isSome = ok := ⟨_, rfl⟩
        have DST := hid hst
        have DOK := hid hok
        clear hst hok
        have DA := hid (show ok = true → dapp [] es[k].ops = some st from by
          intro h
          have h1 := DST.out
          have h2 := DOK.out
          rw [h] at h2
          revert h1 h2
          cases dapp [] es[k].ops with
          | none => intro _ h; cases h
          | some x => intro h _; rw [← h]; rfl)
        have DN := hid (show ok = false → dapp [] es[k].ops = none from by
          intro h
          have h2 := DOK.out
          rw [h] at h2
          simpa using h2)
        go_wp2_with (go_at_call 108; go_must (refine (specDeltaApply_any _ [] _ es[k].ops _ HP.out).mono ?_; rintro e w2 ⟨rfl, fr2⟩; rw [DST.out, DOK.out]; have FR2 := hid fr2; have F2 := hid (hfr.trans fr2.nil); clear fr2))
        have hs2 := F2.out.size
        have HU2 := hid (HU.out.grow FR2.out)
        have OWN2 := hid (OWNK.out.grow FR2.out)
        have FA := hid (F2.out.drew)
        have FB := hid ((F2.out.alloc (.cells #[] 3)).drew)
        have FC := hid ((F2.out.alloc (.cells #[.int .i64 0, .slice none 0 0, .string ⟨#[]⟩] 40)).drew)
        have FD := hid (((F2.out.alloc (.cells #[] 3)).alloc (.cells #[.int .i64 0, .slice none 0 0, .string ⟨#[]⟩] 40)).drew)
        have FE := hid (((F2.out.alloc (.cells #[.int .i64 0, .slice none 0 0, .string ⟨#[]⟩] 40)).alloc (.cells #[] 3)).drew)
        have GB := hid (((Fr.refl w2.heap.size [] w2).alloc (.cells #[] 3)).drew)
        have GD := hid ((((Fr.refl w2.heap.size [] w2).alloc (.cells #[] 3)).alloc (.cells #[.int .i64 0, .slice none 0 0, .string ⟨#[]⟩] 40)).drew)
        have GE := hid ((((Fr.refl w2.heap.size [] w2).alloc (.cells #[.int .i64 0, .slice none 0 0, .string ⟨#[]⟩] 40)).alloc (.cells #[] 3)).drew)
        have RB := hid (show (w2.alloc (.cells #[] 3)).drew.ownsRow w2.heap.size 3 1 (.slice (some ⟨w2.heap.size, 0, none⟩) 0 0) 0 [] from ownsRow_keep (World.ownsRow_made w2 #[] 0 (Nat.le_refl _) (by decide) (by simp)) (Fr.refl 0 [] _).drew (by simp))
        have RD := hid (show ((w2.alloc (.cells #[] 3)).alloc (.cells #[.int .i64 0, .slice none 0 0, .string ⟨#[]⟩] 40)).drew.ownsRow w2.heap.size 3 1 (.slice (some ⟨w2.heap.size, 0, none⟩) 0 0) 0 [] from ownsRow_keep (World.ownsRow_made w2 #[] 0 (Nat.le_refl _) (by decide) (by simp)) ((Fr.refl 0 [] _).alloc (.cells #[.int .i64 0, .slice none 0 0, .string ⟨#[]⟩] 40)).drew (by simp))
        have RE := hid (show ((w2.alloc (.cells #[.int .i64 0, .slice none 0 0, .string ⟨#[]⟩] 40)).alloc (.cells #[] 3)).drew.ownsRow w2.heap.size 3 1 (.slice (some ⟨w2.heap.size + 1, 0, none⟩) 0 0) 0 [] from ownsRow_keep (ownsRow_lo (by have := World.ownsRow_made (base := (w2.alloc (.cells #[.int .i64 0, .slice none 0 0, .string ⟨#[]⟩] 40)).heap.size) (e := 3) (size := 1) (w2.alloc (.cells #[.int .i64 0, .slice none 0 0, .string ⟨#[]⟩] 40)) #[] 0 (Nat.le_refl _) (by decide) (by simp); simpa using this) (Nat.le_succ _)) (Fr.refl 0 [] _).drew (by simp))
        have ED := hid (show ((w2.alloc (.cells #[] 3)).alloc (.cells #[.int .i64 0, .slice none 0 0, .string ⟨#[]⟩] 40)).drew.heap[w2.heap.size + 1]? = some (.cells #[.int .i64 0, .slice none 0 0, .string ⟨#[]⟩] 40 (0, 0)) from heap_alloc_eq (w2.alloc (.cells #[] 3)) _ (by simp))
        have EE := hid (show ((w2.alloc (.cells #[.int .i64 0, .slice none 0 0, .string ⟨#[]⟩] 40)).alloc (.cells #[] 3)).drew.heap[w2.heap.size]? = some (.cells #[.int .i64 0, .slice none 0 0, .string ⟨#[]⟩] 40 (0, 0)) from heap_up (heap_alloc_new w2 _) _)
        have SB := hid (show SlR K 3 1 (w2.alloc (.cells #[] 3)).drew (.slice ua es[k].links.length ucap) es[k].links.length (es[k].links.map (Value.int .i64)) from HU2.out.grow GB.out)
        have SD := hid (show SlR K 3 1 ((w2.alloc (.cells #[] 3)).alloc (.cells #[.int .i64 0, .slice none 0 0, .string ⟨#[]⟩] 40)).drew (.slice ua es[k].links.length ucap) es[k].links.length (es[k].links.map (Value.int .i64)) from HU2.out.grow GD.out)
        have SE := hid (show SlR K 3 1 ((w2.alloc (.cells #[.int .i64 0, .slice none 0 0, .string ⟨#[]⟩] 40)).alloc (.cells #[] 3)).drew (.slice ua es[k].links.length ucap) es[k].links.length (es[k].links.map (Value.int .i64)) from HU2.out.grow GE.out)
        have hbw2 : b < w2.heap.size := Nat.lt_of_lt_of_le hbs hs2
        go_cut [9] (fun v9 wx => ∃ (E : Nat) (a3 : Option Addr) (cap3 : Nat), v9 = .pointer (some ⟨E, 0, none⟩) ∧ w2.heap.size ≤ E ∧ wx.heap[E]? = some (.cells #[.int .i64 es[k].kind, .slice a3 es[k].links.length cap3, .string (tx st)] 40 (0, 0)) ∧ IntsR (new w.heap.size) wx (.slice a3 es[k].links.length cap3) es[k].links ∧ Fr w2.heap.size [] w2 wx)
        case first =>
          first
          | go_region_held3 (fun x => x.cell? ⟨b, off + k * 4, none⟩ = some (.int .i64 es[k].kind) ∧ x.cell? ⟨b, off + k * 4 + 1, none⟩ = some (.slice ua es[k].links.length ucap))
            (first
              | with_reducible exact KP.out _ FA.out
              | with_reducible exact KP.out _ FB.out
              | with_reducible exact KP.out _ FC.out
              | with_reducible exact KP.out _ FD.out
              | with_reducible exact KP.out _ FE.out
              | with_reducible exact KP.out _ F3.out
              | with_reducible exact KP.out _ (F3.out.alloc _)
              | exact KP.out _ (F3.out.new3 (by omega)))
            (first
              | (refine step_ap rfl (.tmp 47) (.tmp 52) 29 rfl w2.heap.size 3 i0 (.int .i64 0) 1 8 Try.underlying29 hi hz0 hz1 hz2 rfl (by decide) (.slice (some ⟨w2.heap.size, 0, none⟩) 0 0) 0 [] (by rfl) (by first | with_reducible exact RB.out | with_reducible exact RD.out) K 3 (.slice ua es[k].links.length ucap) es[k].links.length (es[k].links.map (Value.int .i64)) (by rfl) (by first | with_reducible exact SB.out | with_reducible exact SD.out | with_reducible exact SE.out) (oneI _) (by unfold maxLen; omega) (by omega) (by simp; try omega) ?_; intro v3 w3 own3 fr3; rw [Nat.zero_add, List.nil_append] at own3; obtain ⟨a3, cap3, rfl⟩ := own_any own3; have G3 := hid (by first | with_reducible exact GB.out.after fr3 | with_reducible exact GD.out.after fr3 | with_reducible exact GE.out.after fr3); have F3 := hid (F2.out.trans G3.out.nil); have OWN3 := hid own3; (try (have EB3 := hid (fr3.keep _ _ ED.out (.inr (by simp [otag]))); have e0 := cell_of (o := 0) EB3.out rfl; have e1 := cell_of (o := 1) EB3.out rfl; have e2 := cell_of (o := 2) EB3.out rfl; have g0 := fun o => free_of (o := o) EB3.out)); (try (have EB3 := hid (fr3.keep _ _ EE.out (.inr (by simp [otag]))); have e0 := cell_of (o := 0) EB3.out rfl; have e1 := cell_of (o := 1) EB3.out rfl; have e2 := cell_of (o := 2) EB3.out rfl; have g0 := fun o => free_of (o := o) EB3.out)); clear own3 fr3)
              | (refine step_ap rfl (.tmp 47) (.tmp 52) 29 rfl w2.heap.size 3 i0 (.int .i64 0) 1 8 Try.underlying29 hi hz0 hz1 hz2 rfl (by decide) (.slice (some ⟨w2.heap.size + 1, 0, none⟩) 0 0) 0 [] (by rfl) RE.out K 3 (.slice ua es[k].links.length ucap) es[k].links.length (es[k].links.map (Value.int .i64)) (by rfl) (by first | with_reducible exact SB.out | with_reducible exact SD.out | with_reducible exact SE.out) (oneI _) (by unfold maxLen; omega) (by omega) (by simp; try omega) ?_; intro v3 w3 own3 fr3; rw [Nat.zero_add, List.nil_append] at own3; obtain ⟨a3, cap3, rfl⟩ := own_any own3; have G3 := hid (by first | with_reducible exact GB.out.after fr3 | with_reducible exact GD.out.after fr3 | with_reducible exact GE.out.after fr3); have F3 := hid (F2.out.trans G3.out.nil); have OWN3 := hid own3; (try (have EB3 := hid (fr3.keep _ _ ED.out (.inr (by simp [otag]))); have e0 := cell_of (o := 0) EB3.out rfl; have e1 := cell_of (o := 1) EB3.out rfl; have e2 := cell_of (o := 2) EB3.out rfl; have g0 := fun o => free_of (o := o) EB3.out)); (try (have EB3 := hid (fr3.keep _ _ EE.out (.inr (by simp [otag]))); have e0 := cell_of (o := 0) EB3.out rfl; have e1 := cell_of (o := 1) EB3.out rfl; have e2 := cell_of (o := 2) EB3.out rfl; have g0 := fun o => free_of (o := o) EB3.out)); clear own3 fr3))
          | fail
          all_goals go_wp2_with fail
          all_goals go_meet
          all_goals have hI3 := (show IntsR (new w2.heap.size) w3 (.slice a3 es[k].links.length cap3) es[k].links from SlR.ofOwns OWN3.out).weak (K' := new w.heap.size) (fun b t _ hb => ⟨Nat.le_trans hs2 hb.1, hb.2⟩)
          all_goals first
            | exact ⟨w3.heap.size, a3, cap3, rfl, G3.out.size, heap_alloc_new w3 _, hI3.grow ((Fr.refl 0 [] w3).alloc _), G3.out.alloc _⟩
            | exact ⟨w2.heap.size + 1, a3, cap3, rfl, Nat.le_succ _, fill3 EB3.out, hI3.keep ((Fr.refl 0 [40] w3).fill3 EB3.out (Nat.zero_le _)) (Safe.new (by simp)), G3.out.new3 (Nat.le_succ _)⟩
            | exact ⟨w2.heap.size, a3, cap3, rfl, Nat.le_refl _, fill3 EB3.out, hI3.keep ((Fr.refl 0 [40] w3).fill3 EB3.out (Nat.zero_le _)) (Safe.new (by simp)), G3.out.new3 (Nat.le_refl _)⟩
        case rest =>
          obtain ⟨E, a3, cap3, rfl, hE, hEB, hI3, hfc⟩ := hcut
          obtain ⟨W2, rfl⟩ : ∃ W : World, W = wc := ⟨_, rfl⟩
          have HI3 := hid hI3
          have EB2 := hid hEB
          have OWN5 := hid (OWN2.out.grow hfc)
          have F5 := hid (F2.out.trans hfc.nil)
          have e0 := cell_of (o := 0) hEB rfl
          have e1 := cell_of (o := 1) hEB rfl
          have e2 := cell_of (o := 2) hEB rfl
          have hEl := lt_of_get hEB
          have hs5 := F5.out.size
          clear hI3 hEB hfc FA FB FC FD FE GB GD GE RB RD RE ED EE SB SD SE
          cases ok
          · have NO := hid (FAIL.out (.inl (DN.out rfl)))
            go_wp2
            go_ret2
            refine ⟨.slice (some ⟨W2.heap.size, 0, none⟩) 0 0, ?_, ?_, F5.out.alloc _⟩
            · rw [NO.out]; rfl
            · rw [NO.out]; exact (ObsOwn.empty rfl).lower hs5
          · have DAS := hid (DA.out rfl)
            cases hoo : obOk ⟨es[k].kind, es[k].links, st⟩
            · have OO := hid hoo
              have NO := hid (FAIL.out (.inr ⟨st, DAS.out, hoo⟩))
              clear hoo
              go_wp2_with (go_at_call 42; go_must (refine (objectValid_any _ _ ⟨es[k].kind, es[k].links, st⟩ _ HI3.out hbk).mono ?_; rintro e w7 ⟨rfl, fr7⟩; rw [OO.out]; have F7 := hid (F5.out.trans fr7.nil); have hs7 := F7.out.size; clear fr7))
              go_ret2
              refine ⟨.slice (some ⟨w7.heap.size, 0, none⟩) 0 0, ?_, ?_, F7.out.alloc _⟩
              · rw [NO.out]; rfl
              · rw [NO.out]; exact (ObsOwn.empty rfl).lower hs7
            · have OO := hid hoo
              have PS := hid (GO.out st DAS.out hoo)
              clear hoo
              obtain ⟨zs, z1, z2, z3⟩ := OWN5.out
              have Z1 := hid z1
              have Z3 := hid z3
              have Z2 := hid z2
              clear z1 z2 z3
              go_wp2_with (first
                | (go_at_call 42; go_must (refine (objectValid_any _ _ ⟨es[k].kind, es[k].links, st⟩ _ HI3.out hbk).mono ?_; rintro e w7 ⟨rfl, fr7⟩; rw [OO.out]; have F7 := hid (F5.out.trans fr7.nil); have FR7 := hid fr7; have hs7 := F7.out.size; have EB7 := hid (fr7.keep _ _ EB2.out (.inr (by simp))); have r0 := cell_of (o := 0) EB7.out rfl; have r1 := cell_of (o := 1) EB7.out rfl; have r2 := cell_of (o := 2) EB7.out rfl; clear fr7 e0 e1 e2))
                | (at_builtin; go_must (refine wpList_push rfl (.tmp 64) (.tmp 66) 23 rfl w.heap.size 40 iob (.agg #[.int .i64 0, .slice none 0 0, .string ⟨#[]⟩]) 3 48 Try.underlying23 hoi hoz0 hoz1 hoz2 rfl (by decide) _ _ _ (ownsRow_grow Z2.out FR7.out) rfl (oneOb3 _ _ _ _ _) (by unfold maxLen; omega) (by omega) (by omega) (by rfl) _ (by rfl) (by simp [World.setCell]) ?_; intro v8 w8 own8 fr8 _; have OWN8 := hid own8; have F8 := hid fr8; clear own8 fr8)))
              go_roundw
              case rel => exact ⟨k + 1, _, by omega, by go_num, PS.out, ObsOwn.snoc Z1.out (fun z hz => ((Z3.out z hz).grow FR7.out).keep F8.out (Safe.new (by simp))) ((HI3.out.grow FR7.out).keep F8.out (Safe.new (by simp))) rfl OWN8.out, F7.out.after F8.out⟩
              case measure => simp [intOf]; omega
      · obtain ⟨q, hq⟩ := Int.eq_ofNat_of_zero_le hpos
        have hqo : q < os.length := by rw [OLH.out]; omega
        have iq : (q : Int) < (os.length : Int) := by omega
        have TB := hid (show baseT (os.map (·.text)) es[k].base = os[q].text by
          unfold baseT
          rw [hq, if_neg (by omega), Int.toNat_natCast, List.getD_eq_getElem?_getD, List.getElem?_map, List.getElem?_eq_getElem hqo]; rfl)
        have FAIL := hid (fun h => FAIL.out k os _ hlt TO.out TB.out h)
        have GO := hid (fun t h h2 => objsTo_go (t := t) hlt TO.out TB.out h h2)
        rcases HOC.out with hh | ⟨ob, ooff, rfl, hobs, hocell⟩
        · rw [hh] at hqo; cases hqo
        obtain ⟨_, _, _, q2, _⟩ := hocell q hqo
        rw [hq] at c2
        clear hocell TB
        generalize os[q].text = tb at *
        obtain ⟨st, hst⟩ : ∃ st, (dapp tb es[k].ops).getD [] = st := ⟨_, rfl⟩
        obtain ⟨ok, hok⟩ : ∃ ok, (dapp tb es[k].ops).isSome = ok := ⟨_, rfl⟩
        have DST := hid hst
        have DOK := hid hok
        clear hst hok
        have DA := hid (show ok = true → dapp tb es[k].ops = some st from by
          intro h
          have h1 := DST.out
          have h2 := DOK.out
          rw [h] at h2
          revert h1 h2
          cases dapp tb es[k].ops with
          | none => intro _ h; cases h
          | some x => intro h _; rw [← h]; rfl)
        have DN := hid (show ok = false → dapp tb es[k].ops = none from by
          intro h
          have h2 := DOK.out
          rw [h] at h2
          simpa using h2)
        go_wp2_with (go_at_call 108; go_must (refine (specDeltaApply_any _ tb _ es[k].ops _ HP.out).mono ?_; rintro e w2 ⟨rfl, fr2⟩; rw [DST.out, DOK.out]; have FR2 := hid fr2; have F2 := hid (hfr.trans fr2.nil); clear fr2))
        have hs2 := F2.out.size
        have HU2 := hid (HU.out.grow FR2.out)
        have OWN2 := hid (OWNK.out.grow FR2.out)
        have FA := hid (F2.out.drew)
        have FB := hid ((F2.out.alloc (.cells #[] 3)).drew)
        have FC := hid ((F2.out.alloc (.cells #[.int .i64 0, .slice none 0 0, .string ⟨#[]⟩] 40)).drew)
        have FD := hid (((F2.out.alloc (.cells #[] 3)).alloc (.cells #[.int .i64 0, .slice none 0 0, .string ⟨#[]⟩] 40)).drew)
        have FE := hid (((F2.out.alloc (.cells #[.int .i64 0, .slice none 0 0, .string ⟨#[]⟩] 40)).alloc (.cells #[] 3)).drew)
        have GB := hid (((Fr.refl w2.heap.size [] w2).alloc (.cells #[] 3)).drew)
        have GD := hid ((((Fr.refl w2.heap.size [] w2).alloc (.cells #[] 3)).alloc (.cells #[.int .i64 0, .slice none 0 0, .string ⟨#[]⟩] 40)).drew)
        have GE := hid ((((Fr.refl w2.heap.size [] w2).alloc (.cells #[.int .i64 0, .slice none 0 0, .string ⟨#[]⟩] 40)).alloc (.cells #[] 3)).drew)
        have RB := hid (show (w2.alloc (.cells #[] 3)).drew.ownsRow w2.heap.size 3 1 (.slice (some ⟨w2.heap.size, 0, none⟩) 0 0) 0 [] from ownsRow_keep (World.ownsRow_made w2 #[] 0 (Nat.le_refl _) (by decide) (by simp)) (Fr.refl 0 [] _).drew (by simp))
        have RD := hid (show ((w2.alloc (.cells #[] 3)).alloc (.cells #[.int .i64 0, .slice none 0 0, .string ⟨#[]⟩] 40)).drew.ownsRow w2.heap.size 3 1 (.slice (some ⟨w2.heap.size, 0, none⟩) 0 0) 0 [] from ownsRow_keep (World.ownsRow_made w2 #[] 0 (Nat.le_refl _) (by decide) (by simp)) ((Fr.refl 0 [] _).alloc (.cells #[.int .i64 0, .slice none 0 0, .string ⟨#[]⟩] 40)).drew (by simp))
        have RE := hid (show ((w2.alloc (.cells #[.int .i64 0, .slice none 0 0, .string ⟨#[]⟩] 40)).alloc (.cells #[] 3)).drew.ownsRow w2.heap.size 3 1 (.slice (some ⟨w2.heap.size + 1, 0, none⟩) 0 0) 0 [] from ownsRow_keep (ownsRow_lo (by have := World.ownsRow_made (base := (w2.alloc (.cells #[.int .i64 0, .slice none 0 0, .string ⟨#[]⟩] 40)).heap.size) (e := 3) (size := 1) (w2.alloc (.cells #[.int .i64 0, .slice none 0 0, .string ⟨#[]⟩] 40)) #[] 0 (Nat.le_refl _) (by decide) (by simp); simpa using this) (Nat.le_succ _)) (Fr.refl 0 [] _).drew (by simp))
        have ED := hid (show ((w2.alloc (.cells #[] 3)).alloc (.cells #[.int .i64 0, .slice none 0 0, .string ⟨#[]⟩] 40)).drew.heap[w2.heap.size + 1]? = some (.cells #[.int .i64 0, .slice none 0 0, .string ⟨#[]⟩] 40 (0, 0)) from heap_alloc_eq (w2.alloc (.cells #[] 3)) _ (by simp))
        have EE := hid (show ((w2.alloc (.cells #[.int .i64 0, .slice none 0 0, .string ⟨#[]⟩] 40)).alloc (.cells #[] 3)).drew.heap[w2.heap.size]? = some (.cells #[.int .i64 0, .slice none 0 0, .string ⟨#[]⟩] 40 (0, 0)) from heap_up (heap_alloc_new w2 _) _)
        have SB := hid (show SlR K 3 1 (w2.alloc (.cells #[] 3)).drew (.slice ua es[k].links.length ucap) es[k].links.length (es[k].links.map (Value.int .i64)) from HU2.out.grow GB.out)
        have SD := hid (show SlR K 3 1 ((w2.alloc (.cells #[] 3)).alloc (.cells #[.int .i64 0, .slice none 0 0, .string ⟨#[]⟩] 40)).drew (.slice ua es[k].links.length ucap) es[k].links.length (es[k].links.map (Value.int .i64)) from HU2.out.grow GD.out)
        have SE := hid (show SlR K 3 1 ((w2.alloc (.cells #[.int .i64 0, .slice none 0 0, .string ⟨#[]⟩] 40)).alloc (.cells #[] 3)).drew (.slice ua es[k].links.length ucap) es[k].links.length (es[k].links.map (Value.int .i64)) from HU2.out.grow GE.out)
        have hbw2 : b < w2.heap.size := Nat.lt_of_lt_of_le hbs hs2
        go_cut [9] (fun v9 wx => ∃ (E : Nat) (a3 : Option Addr) (cap3 : Nat), v9 = .pointer (some ⟨E, 0, none⟩) ∧ w2.heap.size ≤ E ∧ wx.heap[E]? = some (.cells #[.int .i64 es[k].kind, .slice a3 es[k].links.length cap3, .string (tx st)] 40 (0, 0)) ∧ IntsR (new w.heap.size) wx (.slice a3 es[k].links.length cap3) es[k].links ∧ Fr w2.heap.size [] w2 wx)
        case first =>
          first
          | go_region_held3 (fun x => x.cell? ⟨b, off + k * 4, none⟩ = some (.int .i64 es[k].kind) ∧ x.cell? ⟨b, off + k * 4 + 1, none⟩ = some (.slice ua es[k].links.length ucap))
            (first
              | with_reducible exact KP.out _ FA.out
              | with_reducible exact KP.out _ FB.out
              | with_reducible exact KP.out _ FC.out
              | with_reducible exact KP.out _ FD.out
              | with_reducible exact KP.out _ FE.out
              | with_reducible exact KP.out _ F3.out
              | with_reducible exact KP.out _ (F3.out.alloc _)
              | exact KP.out _ (F3.out.new3 (by omega)))
            (first
              | (refine step_ap rfl (.tmp 47) (.tmp 52) 29 rfl w2.heap.size 3 i0 (.int .i64 0) 1 8 Try.underlying29 hi hz0 hz1 hz2 rfl (by decide) (.slice (some ⟨w2.heap.size, 0, none⟩) 0 0) 0 [] (by rfl) (by first | with_reducible exact RB.out | with_reducible exact RD.out) K 3 (.slice ua es[k].links.length ucap) es[k].links.length (es[k].links.map (Value.int .i64)) (by rfl) (by first | with_reducible exact SB.out | with_reducible exact SD.out | with_reducible exact SE.out) (oneI _) (by unfold maxLen; omega) (by omega) (by simp; try omega) ?_; intro v3 w3 own3 fr3; rw [Nat.zero_add, List.nil_append] at own3; obtain ⟨a3, cap3, rfl⟩ := own_any own3; have G3 := hid (by first | with_reducible exact GB.out.after fr3 | with_reducible exact GD.out.after fr3 | with_reducible exact GE.out.after fr3); have F3 := hid (F2.out.trans G3.out.nil); have OWN3 := hid own3; (try (have EB3 := hid (fr3.keep _ _ ED.out (.inr (by simp [otag]))); have e0 := cell_of (o := 0) EB3.out rfl; have e1 := cell_of (o := 1) EB3.out rfl; have e2 := cell_of (o := 2) EB3.out rfl; have g0 := fun o => free_of (o := o) EB3.out)); (try (have EB3 := hid (fr3.keep _ _ EE.out (.inr (by simp [otag]))); have e0 := cell_of (o := 0) EB3.out rfl; have e1 := cell_of (o := 1) EB3.out rfl; have e2 := cell_of (o := 2) EB3.out rfl; have g0 := fun o => free_of (o := o) EB3.out)); clear own3 fr3)
              | (refine step_ap rfl (.tmp 47) (.tmp 52) 29 rfl w2.heap.size 3 i0 (.int .i64 0) 1 8 Try.underlying29 hi hz0 hz1 hz2 rfl (by decide) (.slice (some ⟨w2.heap.size + 1, 0, none⟩) 0 0) 0 [] (by rfl) RE.out K 3 (.slice ua es[k].links.length ucap) es[k].links.length (es[k].links.map (Value.int .i64)) (by rfl) (by first | with_reducible exact SB.out | with_reducible exact SD.out | with_reducible exact SE.out) (oneI _) (by unfold maxLen; omega) (by omega) (by simp; try omega) ?_; intro v3 w3 own3 fr3; rw [Nat.zero_add, List.nil_append] at own3; obtain ⟨a3, cap3, rfl⟩ := own_any own3; have G3 := hid (by first | with_reducible exact GB.out.after fr3 | with_reducible exact GD.out.after fr3 | with_reducible exact GE.out.after fr3); have F3 := hid (F2.out.trans G3.out.nil); have OWN3 := hid own3; (try (have EB3 := hid (fr3.keep _ _ ED.out (.inr (by simp [otag]))); have e0 := cell_of (o := 0) EB3.out rfl; have e1 := cell_of (o := 1) EB3.out rfl; have e2 := cell_of (o := 2) EB3.out rfl; have g0 := fun o => free_of (o := o) EB3.out)); (try (have EB3 := hid (fr3.keep _ _ EE.out (.inr (by simp [otag]))); have e0 := cell_of (o := 0) EB3.out rfl; have e1 := cell_of (o := 1) EB3.out rfl; have e2 := cell_of (o := 2) EB3.out rfl; have g0 := fun o => free_of (o := o) EB3.out)); clear own3 fr3))
          | fail
          all_goals go_wp2_with fail
          all_goals go_meet
          all_goals have hI3 := (show IntsR (new w2.heap.size) w3 (.slice a3 es[k].links.length cap3) es[k].links from SlR.ofOwns OWN3.out).weak (K' := new w.heap.size) (fun b t _ hb => ⟨Nat.le_trans hs2 hb.1, hb.2⟩)
          all_goals first
            | exact ⟨w3.heap.size, a3, cap3, rfl, G3.out.size, heap_alloc_new w3 _, hI3.grow ((Fr.refl 0 [] w3).alloc _), G3.out.alloc _⟩
            | exact ⟨w2.heap.size + 1, a3, cap3, rfl, Nat.le_succ _, fill3 EB3.out, hI3.keep ((Fr.refl 0 [40] w3).fill3 EB3.out (Nat.zero_le _)) (Safe.new (by simp)), G3.out.new3 (Nat.le_succ _)⟩
            | exact ⟨w2.heap.size, a3, cap3, rfl, Nat.le_refl _, fill3 EB3.out, hI3.keep ((Fr.refl 0 [40] w3).fill3 EB3.out (Nat.zero_le _)) (Safe.new (by simp)), G3.out.new3 (Nat.le_refl _)⟩
        case rest =>
          obtain ⟨E, a3, cap3, rfl, hE, hEB, hI3, hfc⟩ := hcut
          obtain ⟨W2, rfl⟩ : ∃ W : World, W = wc := ⟨_, rfl⟩
          have HI3 := hid hI3
          have EB2 := hid hEB
          have OWN5 := hid (OWN2.out.grow hfc)
          have F5 := hid (F2.out.trans hfc.nil)
          have e0 := cell_of (o := 0) hEB rfl
          have e1 := cell_of (o := 1) hEB rfl
          have e2 := cell_of (o := 2) hEB rfl
          have hEl := lt_of_get hEB
          have hs5 := F5.out.size
          clear hI3 hEB hfc FA FB FC FD FE GB GD GE RB RD RE ED EE SB SD SE
          cases ok
          · have NO := hid (FAIL.out (.inl (DN.out rfl)))
            go_wp2
            go_ret2
            refine ⟨.slice (some ⟨W2.heap.size, 0, none⟩) 0 0, ?_, ?_, F5.out.alloc _⟩
            · rw [NO.out]; rfl
            · rw [NO.out]; exact (ObsOwn.empty rfl).lower hs5
          · have DAS := hid (DA.out rfl)
            cases hoo : obOk ⟨es[k].kind, es[k].links, st⟩
            · have OO := hid hoo
              have NO := hid (FAIL.out (.inr ⟨st, DAS.out, hoo⟩))
              clear hoo
              go_wp2_with (go_at_call 42; go_must (refine (objectValid_any _ _ ⟨es[k].kind, es[k].links, st⟩ _ HI3.out hbk).mono ?_; rintro e w7 ⟨rfl, fr7⟩; rw [OO.out]; have F7 := hid (F5.out.trans fr7.nil); have hs7 := F7.out.size; clear fr7))
              go_ret2
              refine ⟨.slice (some ⟨w7.heap.size, 0, none⟩) 0 0, ?_, ?_, F7.out.alloc _⟩
              · rw [NO.out]; rfl
              · rw [NO.out]; exact (ObsOwn.empty rfl).lower hs7
            · have OO := hid hoo
              have PS := hid (GO.out st DAS.out hoo)
              clear hoo
              obtain ⟨zs, z1, z2, z3⟩ := OWN5.out
              have Z1 := hid z1
              have Z3 := hid z3
              have Z2 := hid z2
              clear z1 z2 z3
              go_wp2_with (first
                | (go_at_call 42; go_must (refine (objectValid_any _ _ ⟨es[k].kind, es[k].links, st⟩ _ HI3.out hbk).mono ?_; rintro e w7 ⟨rfl, fr7⟩; rw [OO.out]; have F7 := hid (F5.out.trans fr7.nil); have FR7 := hid fr7; have hs7 := F7.out.size; have EB7 := hid (fr7.keep _ _ EB2.out (.inr (by simp))); have r0 := cell_of (o := 0) EB7.out rfl; have r1 := cell_of (o := 1) EB7.out rfl; have r2 := cell_of (o := 2) EB7.out rfl; clear fr7 e0 e1 e2))
                | (at_builtin; go_must (refine wpList_push rfl (.tmp 64) (.tmp 66) 23 rfl w.heap.size 40 iob (.agg #[.int .i64 0, .slice none 0 0, .string ⟨#[]⟩]) 3 48 Try.underlying23 hoi hoz0 hoz1 hoz2 rfl (by decide) _ _ _ (ownsRow_grow Z2.out FR7.out) rfl (oneOb3 _ _ _ _ _) (by unfold maxLen; omega) (by omega) (by omega) (by rfl) _ (by rfl) (by simp [World.setCell]) ?_; intro v8 w8 own8 fr8 _; have OWN8 := hid own8; have F8 := hid fr8; clear own8 fr8)))
              go_roundw
              case rel => exact ⟨k + 1, _, by omega, by go_num, PS.out, ObsOwn.snoc Z1.out (fun z hz => ((Z3.out z hz).grow FR7.out).keep F8.out (Safe.new (by simp))) ((HI3.out.grow FR7.out).keep F8.out (Safe.new (by simp))) rfl OWN8.out, F7.out.after F8.out⟩
              case measure => simp [intOf]; omega
    · obtain rfl : k = es.length := by omega
      have RS := hid (show R = some os from by rw [← DONE.out, TO.out])
      go_wp2
      go_ret2
      refine ⟨.slice oa os.length ocap, ?_, ?_, hfr⟩
      · have e := RS.out
        subst e
        rfl
      · rw [RS.out]; exact OWN.out

set_option maxRecDepth 20000 in
set_option maxHeartbeats 4000000 in
theorem specPackObjects_any (K : Nat → Bool → Prop) (v : Value) (es : List En) (w : World) (hv : EnsR K w v es) (hl : es.length ≤ 2000000) (hbl : ∀ e ∈ es, e.links.length ≤ 1000000000) :
    Calls Try.prog 55 #[v] w fun e w' => ∃ v', e = .returned (.tuple #[v', .bool (unpack es).isSome]) ∧ ObsOwn w.heap.size w' v' ((unpack es).getD []) ∧ Fr w.heap.size [] w w' := by
  obtain ⟨a, cap, rfl, hcap, -⟩ := hv.shape
  have HV := hid hv
  have HBL := hid hbl
  have UE := hid (unpack_eq es)
  generalize unpack es = U at *
  clear hv hbl
  by_cases hb : bsTo es es.length = true ∧ es.length ≤ 16
  · have UE2 := hid (show U = objsTo es es.length by rw [UE.out, if_pos hb])
    have BT := hid (show (bsTo es es.length && decide (es.length ≤ 16)) = true by simp [hb.1, hb.2])
    have LK := hid (show linkOk es = true from bsTo_link (Nat.le_refl _) hb.1)
    clear UE hb
    go_enter Try.func55, Try.ntmps55
    go_wp2_with (first
      | (go_at_call 86; go_must (refine (l3Bases_any _ _ es _ HV.out (by omega)).mono ?_; rintro e w1 ⟨rfl, fr1⟩; rw [BT.out]; have F1 := hid fr1; have hs1 := fr1.size; clear fr1))
      | (go_at_call 87; go_must (refine (l3Objects_any _ _ es _ (HV.out.grow F1.out) hl LK.out HBL.out).mono ?_; rintro e w2 ⟨v2, rfl, own2, fr2⟩; have F2 := hid (F1.out.trans fr2.nil); have OWN2 := hid own2; clear own2 fr2)))
    go_ret2
    refine ⟨v2, ?_, ?_, F2.out⟩
    · rw [UE2.out]; rfl
    · rw [UE2.out]; exact OWN2.out.lower hs1
  · have UE2 := hid (show U = none by rw [UE.out, if_neg hb])
    have BT := hid (show (bsTo es es.length && decide (es.length ≤ 16)) = false by
      rw [Bool.eq_false_iff]; intro h; simp at h; exact hb h)
    clear UE hb
    go_enter Try.func55, Try.ntmps55
    go_wp2_with (go_at_call 86; go_must (refine (l3Bases_any _ _ es _ HV.out (by omega)).mono ?_; rintro e w1 ⟨rfl, fr1⟩; rw [BT.out]; have F1 := hid fr1; have hs1 := fr1.size; clear fr1))
    go_ret2
    refine ⟨.slice (some ⟨w1.heap.size, 0, none⟩) 0 0, ?_, ?_, F1.out.alloc _⟩
    · rw [UE2.out]; rfl
    · rw [UE2.out]; exact (ObsOwn.empty rfl).lower hs1

end Go.Proofs.Ytjgbconlpolddaa
