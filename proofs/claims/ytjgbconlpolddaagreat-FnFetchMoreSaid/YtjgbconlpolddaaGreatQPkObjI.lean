/- The program's PackObjects. -/
import Derived.Test.YtjgbconlpolddaaGreatQM5
set_option linter.unusedVariables false
set_option linter.unusedSimpArgs false
namespace Go.Proofs.YtjgbconlpolddaaGreat
open Go.RowKit
set_option linter.unusedVariables false

set_option maxRecDepth 20000 in
set_option maxHeartbeats 4000000 in
theorem implPackObjects_any (K : Nat → Bool → Prop) (v : Value) (es : List En) (w : World) (hv : EnsR K w v es) (hm : Mild K w.heap.size) (hbl : ∀ e ∈ es, e.links.length ≤ 1000000000) :
    Calls Tryz.prog 11 #[v] w fun e w' => Fr w.heap.size [] w w' ∧ ((unpack es = none ∧ e = .returned (.tuple #[.slice none 0 0, .bool false])) ∨ ∃ os v', unpack es = some os ∧ e = .returned (.tuple #[v', .bool true]) ∧ ObsOwn w.heap.size w' v' os) := by
  obtain ⟨a, cap, rfl, hcap, -⟩ := hv.shape
  have HV := hid hv
  obtain ⟨iob, hoi, hoz0, hoz1, hoz2⟩ := info_parts infoOb
  clear hv
  by_cases hl : es.length ≤ 16
  · have i16 : ¬ (16 : Int) < (es.length : Int) := by omega
    by_cases hlk : linkOk es = true
    · have UN := hid (show unpack es = (poTo es es.length).map (·.1) by unfold unpack; rw [if_pos ⟨hl, hlk⟩])
      have LKO := hid hlk
      clear hlk
      go_enter Tryz.func11, Tryz.ntmps11
      go_wp2_with (go_at_call 33; go_must (refine (linkPack_any K _ es _ HV.out (by omega) (hm.safe (by simp)) (hm.safe (by simp))).mono ?_; rintro e w1 ⟨fr1, hres⟩; obtain ⟨v1, bs, rfl, lk1⟩ := linked_of LKO.out hres; obtain ⟨la, lcap, rfl⟩ := own_any lk1.row; have LK := hid lk1; have F1 := hid fr1; clear fr1 hres lk1))
      go_loopw [6, 24] (fun vo vi wx => ∃ (k : Nat) (os : List Ob) (ds : List Nat), k ≤ es.length ∧ vi = .int .i64 k ∧ poTo es k = some (os, ds) ∧ UL K w.heap.size wx bs es os ds k ∧ ObsOwn w.heap.size wx vo os ∧ Fr w.heap.size [72, 37] w1 wx) (fun _ vi _ => es.length - (intOf vi).toNat)
      case atStart => exact ⟨0, [], [], Nat.zero_le _, rfl, rfl, UL.start LK.out LKO.out, ObsOwn.nil _ _, Fr.refl _ _ _⟩
      case round =>
        obtain ⟨k, os, ds, hk, rfl, hpo, hul, hown, hfr⟩ := hrel
        obtain ⟨oa, ocap, rfl, -, -⟩ := hown.reads.shape
        have PO := hid hpo
        have U0 := hid hul
        have OWN := hid hown
        have hol := hul.lo'
        have FW := hid (F1.out.after hfr)
        have ROW := hid (ownsRow_keep LK.out.row hfr (by simp))
        have hls : w.heap.size ≤ wr.heap.size := Nat.le_trans F1.out.size hfr.size
        clear hpo hul hown
        by_cases hlt : k < es.length
        · obtain ⟨u, p, n1, n2, n3⟩ := U0.out.nodes k hlt (Nat.le_refl _)
          obtain ⟨ua, ucap, rfl, _, _⟩ := n2.shape
          obtain ⟨pa, pcap, rfl, _, _⟩ := n3.shape
          obtain ⟨pp, hpp, htx⟩ := U0.out.text hlt
          rw [hpp] at n1
          have HPP := hid hpp
          obtain ⟨nb, hnb⟩ : ∃ nb, bs.getD k 0 = nb := ⟨_, rfl⟩
          obtain ⟨tb, htb⟩ : ∃ tb, baseT (os.map (·.text)) es[k].base = tb := ⟨_, rfl⟩
          rw [hnb] at n1
          rw [htb] at htx
          have NB := hid n1
          have HNB := hid hnb
          have HTB := hid htb
          have HU := hid n2
          have HP := hid n3
          have TX := hid htx
          obtain ⟨g, gcap, hng, hg1, hg2, _⟩ := own_shape ROW.out (by omega)
          cases hng
          have hcn := ROW.out.cellAt k (by omega)
          have hbj : bs[k]? = some nb := by
            rw [← hnb, List.getD_eq_getElem?_getD, List.getElem?_eq_getElem (by rw [LK.out.len]; exact hlt)]; rfl
          rw [List.getElem?_map, hbj] at hcn
          simp only [Option.map_some] at hcn
          have hki : (k : Int) < (es.length : Int) := by omega
          have hnl := lt_of_get n1
          have hbk := hbl _ (List.getElem_mem hlt)
          obtain ⟨st, hst⟩ : ∃ st, (dapp tb es[k].ops).getD [] = st := ⟨_, rfl⟩
          obtain ⟨ok, hok⟩ : ∃ ok, (dapp tb es[k].ops).isSome = ok := ⟨_, rfl⟩
          have DST := hid hst
          have DOK := hid hok
          clear hst hok
          clear n1 n2 n3 htx hpp hnb htb hbj
          have SW := hid (show wr.drew.cell? ⟨nb, 3, none⟩ = some (.slice pa es[k].ops.length pcap) ∧ wr.drew.cell? ⟨nb, 4, none⟩ = some (.pointer pp) from ⟨cell_of (o := 3) NB.out rfl, cell_of (o := 4) NB.out rfl⟩)
          go_wp2
          go_region_held3 (fun x => x.cell? ⟨nb, 3, none⟩ = some (.slice pa es[k].ops.length pcap) ∧ x.cell? ⟨nb, 4, none⟩ = some (.pointer pp))
            (first | with_reducible exact SW.out | with_reducible exact S6.out)
            (first
              | (go_at_call 35; go_must (refine (baseText_any SW.out.2 (btext TX.out)).mono ?_; rintro e w5 ⟨rfl, rfl⟩))
              | (go_at_call 34; go_must (refine (implDeltaApply_any K tb _ es[k].ops _ (HP.out.grow ((Fr.refl 0 [] wr).drew))).mono ?_; rintro e w6 ⟨rfl, fr6⟩; rw [DST.out, DOK.out]; have F6 := hid ((Fr.refl wr.heap.size [] wr).drew.trans fr6); have NB6 := hid (F6.out.keep _ _ NB.out (.inr (by simp))); have S6 := hid (show w6.cell? ⟨nb, 3, none⟩ = some (.slice pa es[k].ops.length pcap) ∧ w6.cell? ⟨nb, 4, none⟩ = some (.pointer pp) from ⟨cell_of (o := 3) NB6.out rfl, cell_of (o := 4) NB6.out rfl⟩); clear fr6)))
          have HU6 := hid (HU.out.grow F6.out)
          have SK : ∀ x : World, x.heap[nb]? = some (.cells #[.int .i64 es[k].kind, .slice ua es[k].links.length ucap, .int .i64 es[k].base, .slice pa es[k].ops.length pcap, .pointer pp, .string (tx [])] 72 (0, 0)) → x.cell? ⟨nb, 0, none⟩ = some (.int .i64 es[k].kind) ∧ x.cell? ⟨nb, 1, none⟩ = some (.slice ua es[k].links.length ucap) ∧ nb < x.heap.size := fun x h => ⟨cell_of h rfl, cell_of h rfl, lt_of_get h⟩
          have SKH := hid SK
          have FA := hid ((Fr.refl w6.heap.size [] w6).drew)
          have OA := hid (blk_drew NB6.out)
          have FB := hid (((Fr.refl w6.heap.size [] w6).alloc (.cells #[.int .i64 0, .slice none 0 0, .string ⟨#[]⟩] 37)).drew)
          have OB := hid (heap_up NB6.out (.cells #[.int .i64 0, .slice none 0 0, .string ⟨#[]⟩] 37))
          have EB := hid (heap_alloc_eq w6 (.cells #[.int .i64 0, .slice none 0 0, .string ⟨#[]⟩] 37) (n := w6.heap.size) rfl)
          have SA := hid (SK w6.drew OA.out)
          have SB := hid (SK (w6.alloc (.cells #[.int .i64 0, .slice none 0 0, .string ⟨#[]⟩] 37)).drew OB.out)
          clear SK
          go_upto_region 11 with fail
          go_cut [11] (fun v11 wx => ∃ (E : Nat) (a3 : Option Addr) (cap3 : Nat), v11 = .pointer (some ⟨E, 0, none⟩) ∧ w6.heap.size ≤ E ∧ wx.heap[E]? = some (.cells #[.int .i64 es[k].kind, .slice a3 es[k].links.length cap3, .string (tx st)] 37 (0, 0)) ∧
            IntsR (new w.heap.size) wx (.slice a3 es[k].links.length cap3) es[k].links ∧ Fr w6.heap.size [] w6 wx)
          case first =>
            go_region_held3 (fun x => x.cell? ⟨nb, 0, none⟩ = some (.int .i64 es[k].kind) ∧ x.cell? ⟨nb, 1, none⟩ = some (.slice ua es[k].links.length ucap) ∧ nb < x.heap.size)
              (first
                | with_reducible exact SA.out
                | with_reducible exact SB.out
                | with_reducible exact S3.out
                | with_reducible exact S3a.out
                | with_reducible exact S3f.out
                | with_reducible exact S3s.out)
              (first
                | (go_at_call 36; go_must (refine (cloneI_any K 3 _ es[k].links.length (es[k].links.map (Value.int .i64)) _ (by first | exact HU6.out.grow FA.out | exact HU6.out.grow FB.out) (oneI _) (by omega)).mono ?_; rintro e w3 ⟨v3, rfl, own3, fr3⟩; obtain ⟨a3, cap3, rfl⟩ := own_any own3; have OX3 := hid (by first | exact fr3.keep _ _ OA.out (.inr (by simp)) | exact fr3.keep _ _ OB.out (.inr (by simp))); have F3 := hid (by first | exact FA.out.trans fr3.nil | exact FB.out.trans fr3.nil); have OWN3 := hid (ownsRow_lo own3 (lo' := w6.heap.size) (by first | exact FA.out.size | exact FB.out.size)); have S3 := hid (SKH.out w3 OX3.out); have S3a := hid (SKH.out (w3.alloc (.cells #[.int .i64 0, .slice none 0 0, .string ⟨#[]⟩] 37)) (heap_up OX3.out _)); have S3f := hid (SKH.out (w3.alloc (.cells #[.int .i64 es[k].kind, .slice a3 es[k].links.length cap3, .string (tx st)] 37)) (heap_up OX3.out _)); (try (have EB3 := hid (fr3.keep _ _ EB.out (.inr (by simp))); have e0 := cell_of (o := 0) EB3.out rfl; have e1 := cell_of (o := 1) EB3.out rfl; have e2 := cell_of (o := 2) EB3.out rfl; have g0 := fun o => free_of (o := o) EB3.out; have hle3 := lt_of_get EB3.out; have S3s := hid (SKH.out (((w3.setCell ⟨w6.heap.size, 0, none⟩ (.int .i64 es[k].kind)).setCell ⟨w6.heap.size, 1, none⟩ (.slice a3 es[k].links.length cap3)).setCell ⟨w6.heap.size, 2, none⟩ (.string (tx st))) (other3 OX3.out (by have := lt_of_get NB6.out; omega))))); clear own3)))
            all_goals go_wp2_with fail
            all_goals go_meet
            all_goals have hI3 := (show IntsR (new w6.heap.size) w3 (.slice a3 es[k].links.length cap3) es[k].links from SlR.ofOwns OWN3.out).weak (K' := new w.heap.size) (fun b t _ hb => ⟨Nat.le_trans (Nat.le_trans hls F6.out.size) hb.1, hb.2⟩)
            · exact ⟨w3.heap.size, a3, cap3, rfl, F3.out.size, heap_alloc_new w3 _, hI3.grow ((Fr.refl 0 [] w3).alloc _), F3.out.alloc _⟩
            · exact ⟨w6.heap.size, a3, cap3, rfl, Nat.le_refl _, fill3 EB3.out, hI3.keep ((Fr.refl 0 [37] w3).fill3 EB3.out (Nat.zero_le _)) (Safe.new (by simp)), F3.out.new3 (Nat.le_refl _)⟩
          case rest =>
            obtain ⟨E, a3, cap3, rfl, hE, hEB, hI3, hfc⟩ := hcut
            obtain ⟨W2, rfl⟩ : ∃ W : World, W = wc := ⟨_, rfl⟩
            have HI3 := hid hI3
            have NB2 := hid (hfc.keep _ _ NB6.out (.inr (by simp)))
            have U2 := hid ((U0.out.grow F6.out).grow hfc)
            have OWN2 := hid ((OWN.out.grow F6.out).grow hfc)
            have FW2 := hid ((FW.out.trans F6.out.nil).trans hfc.nil)
            have F12 := hid ((hfr.trans F6.out.nil).trans (hfc.nil (B' := w.heap.size) (T := [72, 37])))
            have ND2 := hid (show NodeD w.heap.size (nb + 1) W2 (baseD ds es[k].base) nb [] from by
              have := U2.out.deep (w' := W2) (t := []) hlt (by rw [HNB.out, HPP.out]; exact NB2.out) (fun hi d b t _ hn => hn)
              rwa [HNB.out] at this)
            have hEl := lt_of_get hEB
            have EB2 := hid hEB
            have e0 := cell_of (o := 0) hEB rfl
            have e1 := cell_of (o := 1) hEB rfl
            have e2 := cell_of (o := 2) hEB rfl
            have hnl2 := lt_of_get NB2.out
            have hnl6 := lt_of_get NB6.out
            have hls2 := FW2.out.size
            have hdl := U2.out.dlt es[k].base
            obtain ⟨d, hdd⟩ : ∃ d, baseD ds es[k].base = d := ⟨_, rfl⟩
            rw [hdd] at hdl
            have HDD := hid hdd
            have ND := hid (show NodeD w.heap.size (nb + 1) W2 d nb [] from by have := ND2.out; rwa [hdd] at this)
            clear hI3 hEB hfc hdd ND2 SA SB FA FB OA OB EB SKH S6 SW
            by_cases hd : d ≤ 2
            · have id2 : ¬ (2 : Int) < (d : Int) := by omega
              cases ok
              · have NO := hid (show unpack es = none from by
                  rw [UN.out, poTo_fail hlt PO.out HTB.out (.inl (by have := DOK.out; simpa using this))]; rfl)
                go_wp2_with (first
                  | (go_at_call 37; go_must (refine (depth_any ND.out (by omega)).mono ?_; rintro e w5 ⟨rfl, rfl⟩)))
                go_ret2
                exact ⟨FW2.out, .inl ⟨NO.out, rfl⟩⟩
              · have hDA : dapp tb es[k].ops = some st := by
                  have h1 := DST.out
                  have h2 := DOK.out
                  revert h1 h2
                  cases dapp tb es[k].ops with
                  | none => intro _ h; cases h
                  | some x => intro h _; rw [← h]; rfl
                have DA := hid hDA
                clear hDA DST DOK
                cases hoo : obOk ⟨es[k].kind, es[k].links, st⟩
                · have OO := hid hoo
                  have NO := hid (show unpack es = none from by
                    rw [UN.out, poTo_fail hlt PO.out HTB.out (.inr (.inr ⟨st, DA.out, hoo⟩))]; rfl)
                  clear hoo
                  go_wp2_with (first
                    | (go_at_call 37; go_must (refine (depth_any ND.out (by omega)).mono ?_; rintro e w5 ⟨rfl, rfl⟩))
                    | (go_at_call 38; go_must (refine (ok_any (new w.heap.size) _ ⟨es[k].kind, es[k].links, st⟩ _ HI3.out hbk).mono ?_; rintro e w7 ⟨rfl, fr7⟩; rw [OO.out]; have F7 := hid (FW2.out.trans fr7.nil); clear fr7)))
                  go_ret2
                  exact ⟨F7.out, .inl ⟨NO.out, rfl⟩⟩
                · have OO := hid hoo
                  have PS := hid (poTo_go hlt PO.out HTB.out DA.out (by rw [HDD.out]; exact hd) hoo)
                  clear hoo
                  go_upto_region 14 with (first
                    | (go_at_call 37; go_must (refine (depth_any ND.out (by omega)).mono ?_; rintro e w5 ⟨rfl, rfl⟩))
                    | (go_at_call 38; go_must (refine (ok_any (new w.heap.size) _ ⟨es[k].kind, es[k].links, st⟩ _ HI3.out hbk).mono ?_; rintro e w7 ⟨rfl, fr7⟩; rw [OO.out]; have FR7 := hid fr7; clear fr7)))
                  have hlo := U2.out.low k hlt
                  rw [HNB.out] at hlo
                  have NB7 := hid (FR7.out.keep _ _ NB2.out (.inr (by simp)))
                  have EB7 := hid (FR7.out.keep _ _ EB2.out (.inr (by simp)))
                  have U7 := hid (U2.out.grow FR7.out)
                  have n5 := cell_of (o := 5) NB7.out rfl
                  have nf := free_of (o := 5) NB7.out
                  have nl7 := lt_of_get NB7.out
                  have r0 := cell_of (o := 0) EB7.out rfl
                  have r1 := cell_of (o := 1) EB7.out rfl
                  have r2 := cell_of (o := 2) EB7.out rfl
                  have rl7 := lt_of_get EB7.out
                  have hne : E ≠ nb := by omega
                  have hne' : nb ≠ E := by omega
                  have FS := hid ((Fr.refl w.heap.size [72] w7).setOld (p := ⟨nb, 5, none⟩) NB7.out hlo (by simp [otag]) (.string (tx st)))
                  obtain ⟨zs, z1, z2, z3⟩ := OWN2.out.grow FR7.out
                  have Z1 := hid z1
                  have Z3 := hid z3
                  have Z2 := hid (show (w7.setCell ⟨nb, 5, none⟩ (.string (tx st))).ownsRow w.heap.size 37 3 (.slice oa k ocap) k (zs.flatMap encOb) from by
                    have := ownsRow_keep z2 FS.out (by simp)
                    rwa [hol] at this)
                  have hw7 : w.heap.size ≤ w7.heap.size := Nat.le_trans hls2 FR7.out.size
                  clear z1 z2 z3
                  go_wp2_with (at_builtin; go_must (refine wpList_push rfl (.tmp 68) (.tmp 70) 23 rfl w.heap.size 37 iob (.agg #[.int .i64 0, .slice none 0 0, .string ⟨#[]⟩]) 3 48 Tryz.underlying23 hoi hoz0 hoz1 hoz2 rfl (by decide) _ _ _ Z2.out rfl (oneOb3 _ _ _ _ _) (by unfold maxLen; omega) (by omega) (by simp [World.setCell]; omega) (by rfl) _ (by rfl) (by simp [World.setCell]) ?_; intro v8 w8 own8 fr8 _; have OWN8 := hid own8; have F8 := hid fr8; clear own8 fr8))
                  go_roundw
                  case rel =>
                    have UN7 := U7.out.next hlt hm st (by rw [HDD.out]; exact hd)
                    rw [HNB.out] at UN7
                    exact ⟨k + 1, _, _, by omega, by go_num, PS.out, UN7.keep F8.out (by simp) (hm.safe (by simp)) (hm.safe (by simp)), ObsOwn.snoc Z1.out (fun z hz => ((Z3.out z hz).keep FS.out (Safe.new (by simp))).keep F8.out (Safe.new (by simp))) (((HI3.out.grow FR7.out).keep FS.out (Safe.new (by simp))).keep F8.out (Safe.new (by simp))) hol.symm OWN8.out, ((F12.out.trans FR7.out.nil).trans (FS.out.mono (Nat.le_refl _) (by simp))).trans (F8.out.mono (Nat.le_refl _) (by simp))⟩
                  case measure => simp [intOf]; omega
            · have id2 : (2 : Int) < (d : Int) := by omega
              have NO := hid (show unpack es = none from by
                rw [UN.out, poTo_fail hlt PO.out HTB.out (.inr (.inl (by rw [HDD.out]; exact hd)))]; rfl)
              go_wp2_with (first
                | (go_at_call 37; go_must (refine (depth_any ND.out (by omega)).mono ?_; rintro e w5 ⟨rfl, rfl⟩)))
              go_ret2
              exact ⟨FW2.out, .inl ⟨NO.out, rfl⟩⟩
        · obtain rfl : k = es.length := by omega
          have US := hid (show unpack es = some os from by rw [UN.out, PO.out]; rfl)
          go_wp2
          go_ret2
          exact ⟨FW.out, .inr ⟨os, _, US.out, rfl, OWN.out⟩⟩
    · have LKO := hid (show linkOk es = false by simpa using hlk)
      have NO := hid (show unpack es = none by unfold unpack; rw [if_neg (fun h => hlk h.2)])
      clear hlk
      go_enter Tryz.func11, Tryz.ntmps11
      go_wp2_with (go_at_call 33; go_must (refine (linkPack_no K _ es _ HV.out (by omega) (hm.safe (by simp)) (hm.safe (by simp)) LKO.out).mono ?_; rintro e w1 ⟨fr1, rfl⟩))
      go_ret2
      exact ⟨fr1, .inl ⟨NO.out, rfl⟩⟩
  · have i16 : (16 : Int) < (es.length : Int) := by omega
    have NO := hid (show unpack es = none by unfold unpack; rw [if_neg (fun h => hl h.1)])
    go_enter Tryz.func11, Tryz.ntmps11
    go_wp2
    go_ret2
    exact ⟨Fr.refl _ _ _, .inl ⟨NO.out, rfl⟩⟩

theorem unpacked_of {lo : Nat} {w' : World} {es : List En} {os : List Ob} {e : Ending} (hu : unpack es = some os) (h : (unpack es = none ∧ e = .returned (.tuple #[.slice none 0 0, .bool false])) ∨ ∃ os v', unpack es = some os ∧ e = .returned (.tuple #[v', .bool true]) ∧ ObsOwn lo w' v' os) : ∃ v', e = .returned (.tuple #[v', .bool true]) ∧ ObsOwn lo w' v' os := by
  rcases h with ⟨h, _⟩ | ⟨os', v', h1, h2, h3⟩
  · rw [hu] at h; cases h
  · rw [hu] at h1; cases h1
    exact ⟨v', h2, h3⟩

end Go.Proofs.YtjgbconlpolddaaGreat
