/- Draw of a list of objects. -/
import Derived.Test.YtjgbconlpolddaaQM4
set_option linter.unusedVariables false
set_option linter.unusedSimpArgs false
namespace Go.Proofs.Ytjgbconlpolddaa
open Go.RowKit
set_option linter.unusedVariables false

set_option maxRecDepth 20000 in
set_option maxHeartbeats 4000000 in
theorem l91ListR_any {B r p : Nat} {w : World} (hR : Rdr B w r p) (hp : p ≤ 999900000) :
    Calls Try.prog 33 #[.pointer (some ⟨r, 0, none⟩)] w fun e w' => ∃ v os q, e = .returned v ∧ ObsOwn w.heap.size w' v os ∧ os.length ≤ 17 ∧ Few os ∧ Rdr B w' r q ∧ q ≤ p + 3 + 70 * 17 ∧ Fr B [102] w w' := by
  have hB : B ≤ w.heap.size := Nat.le_trans hR.1 (Nat.le_of_lt hR.lt)
  have HR0 := hid hR
  obtain ⟨i0, hi, hz0, hz1, hz2⟩ := info_parts infoOb
  go_enter Try.func33, Try.ntmps33
  have OW0 := hid (ObsOwn.empty (w := w) rfl)
  have F0 := hid ((Fr.refl B [102] w).alloc (.cells #[] 40))
  go_upto_if 12 with (first
    | (go_at_call 71; (with_reducible refine (pick_at (n := 6) (HR0.out.alloc _) (by omega)).mono ?_); go_must (rintro e w1 ⟨k1, rfl, hk1, hR1, hf1⟩; have HR1 := hid hR1; have F1 := hid (F0.out.trans hf1); have OW1 := hid (OW0.out.keep hf1 (by simp) (by simp)); clear hR1 hf1))
    | (go_at_call 71; (with_reducible refine (pick_at (n := 20) HR1.out (by omega)).mono ?_); go_must (rintro e w2 ⟨k2, rfl, hk2, hR2, hf2⟩; have HR2 := hid hR2; have F2 := hid (F1.out.trans hf2); have OW2 := hid (OW1.out.keep hf2 (by simp) (by simp)); clear hR2 hf2)))
  clear HR0 F0 OW0 OW1 F1 HR1
  go_cut [4] (fun vn wx => ∃ (N q : Nat), vn = .int .i64 N ∧ N ≤ 17 ∧ ObsOwn w.heap.size wx (.slice (some ⟨w.heap.size, 0, none⟩) 0 0) [] ∧ Rdr B wx r q ∧ q ≤ p + 3 ∧ Fr B [102] w wx)
  case first =>
    go_wp2_with (go_at_call 71; (with_reducible refine (pick_at (n := 2) HR2.out (by omega)).mono ?_); go_must (rintro e w3 ⟨k3, rfl, hk3, hR3, hf3⟩; have HR3 := hid hR3; have F3 := hid (F2.out.trans hf3); have OW3 := hid (OW2.out.keep hf3 (by simp) (by simp)); clear hR3 hf3))
    · go_meet
      exact ⟨16 + k3, _, by go_num, by omega, OW3.out, HR3.out, by omega, F3.out⟩
    · go_meet
      exact ⟨k1, _, rfl, by omega, OW2.out, HR2.out, by omega, F2.out⟩
  case rest =>
    obtain ⟨N, q0, rfl, hN, hO, hR4, hq4, hf4⟩ := hcut
    obtain ⟨W0, rfl⟩ : ∃ W : World, W = wc := ⟨_, rfl⟩
    have HR4 := hid hR4
    have OW4 := hid hO
    clear OW2 F2 HR2 hR4 hO hR
    go_wp2
    go_loopw [3, 5] (fun vo vi wx => ∃ (k q : Nat) (os : List Ob), k ≤ N ∧ vi = .int .i64 k ∧ os.length = k ∧ ObsOwn w.heap.size wx vo os ∧ Few os ∧ Rdr B wx r q ∧ q ≤ p + 3 + 70 * k ∧ Fr B [102] w wx) (fun _ vi _ => N - (intOf vi).toNat)
    case atStart => exact ⟨0, q0, [], Nat.zero_le _, rfl, rfl, OW4.out, (show Few [] from fun o ho => by cases ho), HR4.out, by omega, hf4⟩
    case round =>
      obtain ⟨k, q, os, hk, rfl, rfl, hown, hfew, hR5, hq5, hfr⟩ := hrel
      have HR5 := hid hR5
      have FEW := hid hfew
      have OW5 := hid hown
      obtain ⟨va, vcap, rfl, hvc, hsh⟩ := hown.reads.shape
      have hls := hfr.size
      clear hR5 hfew hown OW4 HR4
      by_cases hlt : os.length < N
      · have hki : (os.length : Int) < (N : Int) := by omega
        have IDS := hid (show IntsR (new wr.heap.size) (wr.alloc (.cells #[.int .i64 5, .int .i64 60, .int .i64 700] 3)) (.slice (some ⟨wr.heap.size, 0, none⟩) 3 3) [5, 60, 700] from SlR.ofOwns (World.ownsRow_lit (e := 3) (size := 1) wr #[.int .i64 5, .int .i64 60, .int .i64 700] 3 (Nat.le_refl _) (by decide) rfl))
        have LIM := hid (show ∀ (i : Nat) (h : i < [(5 : Int), 60, 700].length), -1000 ≤ [(5 : Int), 60, 700][i] ∧ [(5 : Int), 60, 700][i] ≤ 1000 from by
          intro i h
          simp at h
          rcases i with _ | _ | _ | i
          · simp
          · simp
          · simp
          · omega)
        have hvX := hid (show ∀ k, (Value.slice va os.length vcap).ownBlock = some k → k < wr.heap.size from fun k hk => by
          obtain ⟨zs, -, g2, -⟩ := OW5.out
          exact (g2.lt k hk).2)
        go_upto_region 9 with (first
          | (go_at_call 72; go_must (refine (l91Object_any (new wr.heap.size) (HR5.out.alloc _) (by omega) _ [5, 60, 700] IDS.out (by simp) (Safe.new (by simp)) LIM.out).mono ?_; rintro e w1 ⟨o, u1, q1, rfl, own1, ol1, ol2, ol3, ol4, hR1, hq1, hf1⟩; obtain ⟨ua, ucap, rfl⟩ := own_any own1; have FX := hid ((((Fr.refl B [102] wr).alloc (.cells #[.int .i64 5, .int .i64 60, .int .i64 700] 3)).trans hf1).alloc (.cells #[.int .i64 o.kind, .slice ua o.links.length ucap, .string (tx o.text)] 40)); have LX1 := hid (show Lx B r q1 w (w1.alloc (.cells #[.int .i64 o.kind, .slice ua o.links.length ucap, .string (tx o.text)] 40)) w1.heap.size (.slice va os.length vcap) os o (.slice ua o.links.length ucap) from ⟨heap_alloc_new w1 _, (SlR.ofOwns (ownsRow_lo own1 (by simp; omega))).grow ((Fr.refl 0 [] w1).alloc _), OW5.out.keep FX.out (by simp) (by simp), fun h => by have := hvX.out _ h; have := hf1.size; simp at this; omega, hR1.alloc _, hfr.trans FX.out, by have := hf1.size; simp at this; omega, hB⟩); have x10 := cell_of (o := 0) LX1.out.box rfl; have x11 := cell_of (o := 1) LX1.out.box rfl; have x12 := cell_of (o := 2) LX1.out.box rfl; have x1f := fun o => free_of (o := o) LX1.out.box; clear own1 hR1 hf1))
          | (go_at_call 71; trace_state; fail))
        have hos : os.length ≤ 17 := by omega
        go_cut [30] (fun vb wx => ∃ (b : Bool) (q : Nat), vb = .bool b ∧ (b = true → 0 < os.length) ∧ Lx B r q w wx w1.heap.size (.slice va os.length vcap) os o (.slice ua o.links.length ucap) ∧ q ≤ q1 + 1)
        case first =>
          by_cases hk0 : os.length = 0
          · have hgt : ¬ (0 : Int) < (os.length : Int) := by omega
            clear hk0
            go_wp2
            go_meet
            exact ⟨false, _, rfl, by simp, LX1.out, by omega⟩
          · have hgt : (0 : Int) < (os.length : Int) := by omega
            clear hk0
            go_wp2_with (go_at_call 71; go_must (refine (pick_at (n := 2) LX1.out.rd (by omega)).mono ?_; rintro e w3 ⟨k3, rfl, hk3, hR3, hf3⟩; have LX3 := hid (LX1.out.pick hR3 hf3); clear x10 x11 x12 x1f hR3 hf3))
            go_meet
            exact ⟨_, _, rfl, fun _ => by omega, LX3.out, by omega⟩
        case rest =>
          obtain ⟨bb, qb, rfl, hbb, hlx, hqb⟩ := hcut
          obtain ⟨W3, rfl⟩ : ∃ W : World, W = wc := ⟨_, rfl⟩
          have LX3 := hid hlx
          clear LX1 x10 x11 x12 x1f hlx IDS LIM OW5 HR5 FX
          go_upto_if 30 with fail
          go_cut [31] (fun _ wx => ∃ (o : Ob) (a : Option Addr) (n c : Nat) (q : Nat), Lx B r q w wx w1.heap.size (.slice va os.length vcap) os o (.slice a n c) ∧ o.links.length ≤ 1000 ∧ o.text.length ≤ 9 ∧ -1000 ≤ o.kind ∧ o.kind ≤ 1000 ∧ q ≤ p + 3 + 70 * os.length + 65)
          case first =>
            cases bb
            · go_wp2
              go_meet
              exact ⟨o, _, _, _, qb, LX3.out, ol1, ol2, ol3, ol4, by omega⟩
            · have hgt : 0 < os.length := hbb rfl
              have hg0 : (0 : Int) ≤ (os.length : Int) - 1 := by omega
              have hg1 : (os.length : Int) - 1 < (os.length : Int) := by omega
              have hgn : ((os.length : Int) - 1).toNat = os.length - 1 := by omega
              rcases hsh with hh | ⟨b, off, rfl, hbs, hsh⟩
              · rw [hh] at hgt; exact absurd hgt (Nat.lt_irrefl _)
              · clear hsh
                have hm : os.length - 1 < os.length := by omega
                have LT := hid (show os[os.length - 1].text.length ≤ 9 from (FEW.out _ (List.getElem_mem hm)).2.1)
                have d0 := LX3.out.own.textAt (os.length - 1) hm
                have d1 := cell_alloc (o := .cells #[] 3) d0
                generalize os[os.length - 1].text = tm at *
                have x30 := cell_of (o := 0) LX3.out.box rfl
                have x31 := cell_of (o := 1) LX3.out.box rfl
                have x32 := cell_of (o := 2) LX3.out.box rfl
                have x3f := fun o => free_of (o := o) LX3.out.box
                have x3l := lt_of_get LX3.out.box
                have hst := tx_size tm
                have hst1 := tx_size [99]
                have hap := tx_append tm [99]
                have RP := hid (LX3.out.repl 1 tm)
                go_upto_region 11 with fail
                revert RP
                generalize ((((W3.setCell ⟨w1.heap.size, 0, none⟩ (.int .i64 1)).setCell ⟨w1.heap.size, 1, none⟩ (.slice (some ⟨W3.heap.size, 0, none⟩) 0 0)).setCell ⟨w1.heap.size, 2, none⟩ (.string (tx tm))).alloc (.cells #[] 3)) = W4
                intro RP
                clear x30 x31 x32 x3f d0 d1
                have x40 := cell_of (o := 0) RP.out.box rfl
                have x41 := cell_of (o := 1) RP.out.box rfl
                have x42 := cell_of (o := 2) RP.out.box rfl
                have x4f := fun o => free_of (o := o) RP.out.box
                have x4l := lt_of_get RP.out.box
                by_cases h8 : tm.length < 8
                · have h8i : (tm.length : Int) < 8 := by omega
                  have hsum : tm.length + 1 ≤ 9223372036854775807 := by omega
                  go_wp2
                  go_meet
                  exact ⟨⟨1, [], tm ++ [99]⟩, _, _, _, qb, RP.out.text _, by simp, by simp; omega, by simp, by simp, by omega⟩
                · have h8i : ¬ (tm.length : Int) < 8 := by omega
                  go_wp2
                  go_meet
                  exact ⟨⟨1, [], tm⟩, _, _, _, qb, RP.out, by simp, LT.out, by simp, by simp, by omega⟩
          case rest =>
            obtain ⟨o', ua', un, uc, q6, hlx6, om1, om2, om3, om4, hq6⟩ := hcut
            obtain ⟨W6, rfl⟩ : ∃ W : World, W = wc := ⟨_, rfl⟩
            have LX6 := hid hlx6
            clear hlx6 LX3
            have x60 := cell_of (o := 0) LX6.out.box rfl
            have x61 := cell_of (o := 1) LX6.out.box rfl
            have x62 := cell_of (o := 2) LX6.out.box rfl
            obtain ⟨zs, z1, z2, z3⟩ := LX6.out.own
            have Z2 := hid z2
            have Z3 := hid z3
            have hs6 := LX6.out.fr.size
            clear z2 z3
            go_wp2_with (at_builtin; go_must (refine wpList_push rfl (.tmp 47) (.tmp 49) 23 rfl w.heap.size 40 i0 (.agg #[.int .i64 0, .slice none 0 0, .string ⟨#[]⟩]) 3 48 Try.underlying23 hi hz0 hz1 hz2 rfl (by decide) _ _ _ Z2.out rfl (oneOb3 _ _ _ _ _) (by unfold maxLen; omega) (by omega) (by omega) (by rfl) _ (by rfl) (by simp [World.setCell]) ?_; intro v7 w7 own7 fr7 _; have OWN7 := hid own7; have F7 := hid fr7; clear own7 fr7))
            go_roundw
            case rel =>
              exact ⟨os.length + 1, _, os ++ [o'], by omega, by go_num, by simp, ObsOwn.snoc z1 (fun z hz => (Z3.out z hz).keep F7.out (Safe.new (by simp))) (LX6.out.lk.keep F7.out (Safe.new (by simp))) rfl OWN7.out, FEW.out.snoc om1 om2 om3 om4, LX6.out.rd.keep (F7.out.mono hB (fun _ x => x)) (by simp), by omega, LX6.out.fr.after F7.out⟩
            case measure => simp [intOf]; omega
      · obtain rfl : os.length = N := by omega
        go_wp2
        go_ret
        exact ⟨_, os, q, rfl, OW5.out, by omega, FEW.out, HR5.out, by omega, hfr⟩

theorem l91List_any {B r p : Nat} {w : World} (hR : Rdr B w r p) (hp : p ≤ 999900000) :
    Calls Try.prog 33 #[.pointer (some ⟨r, 0, none⟩)] w fun e w' => ∃ v os, e = .returned v ∧ ObsOwn w.heap.size w' v os ∧ os.length ≤ 17 ∧ Few os ∧ Fr B [102] w w' := by
  refine (l91ListR_any hR hp).mono ?_
  rintro e w' ⟨v, os, q, h1, h2, h3, h4, _, _, h7⟩
  exact ⟨v, os, h1, h2, h3, h4, h7⟩

end Go.Proofs.Ytjgbconlpolddaa
