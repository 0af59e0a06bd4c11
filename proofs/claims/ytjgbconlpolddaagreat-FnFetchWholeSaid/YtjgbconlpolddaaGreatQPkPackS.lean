/- The reference's PackMake. -/
import Derived.Test.YtjgbconlpolddaaGreatQPkDeltaI
import Derived.Test.YtjgbconlpolddaaGreatQM1
set_option linter.unusedVariables false
set_option linter.unusedSimpArgs false
namespace Go.Proofs.YtjgbconlpolddaaGreat
open Go.RowKit
set_option linter.unusedVariables false

theorem DRel.last {b t : Tx} : ∀ (n : Nat) (l : Tx) (ops : List Opn), l.length ≤ n → DRel b t ops l → DRel b t (delta b t) [] := by
  intro n
  induction n with
  | zero =>
    intro l ops h hr
    have : l = [] := List.length_eq_zero_iff.1 (by omega)
    subst this
    rw [← hr.done]; exact hr
  | succ n ih =>
    intro l ops h hr
    by_cases hl : l = []
    · subst hl; rw [← hr.done]; exact hr
    · have hp : 0 < l.length := List.length_pos_iff.2 hl
      by_cases h2 : 2 ≤ (best b l).2
      · exact ih _ _ (by rw [List.length_drop]; omega) (hr.one hl h2)
      · rcases List.eq_nil_or_concat ops with rfl | ⟨init, o, rfl⟩
        · exact ih _ _ (by rw [List.length_drop]; omega) (hr.three hl h2 (fun init o e => by simp at e))
        · rw [List.concat_eq_append] at hr
          by_cases h0 : o.size = 0
          · exact ih _ _ (by rw [List.length_drop]; omega) (hr.two hl h2 h0)
          · exact ih _ _ (by rw [List.length_drop]; omega) (hr.three hl h2 (fun i x e => by
              have := List.append_inj' e rfl
              simp at this
              rw [← this.2]; exact h0))

theorem delta_le (b t : Tx) : (delta b t).length ≤ 8 ∧ ∀ o ∈ delta b t, o.text.length ≤ 8 := by
  by_cases h : b.length ≤ 8 ∧ t.length ≤ 8
  · have := DRel.last t.length t [] (Nat.le_refl _) (DRel.start h.1 h.2)
    have h1 := this.2.1
    exact ⟨by simp at h1; omega, fun o ho => by have := this.2.2 o ho; simp at this; omega⟩
  · have : delta b t = [] := by unfold delta; rw [if_neg h]
    rw [this]
    exact ⟨by simp, fun o ho => by cases ho⟩

theorem dsize_le (b t : Tx) : dsize (delta b t) ≤ 8008 := by
  have h := delta_le b t
  have := dsizeTo_le (ops := delta b t) (fun o ho => by have := h.2 o ho; omega) (delta b t).length
  unfold dsize
  omega

set_option maxRecDepth 20000 in
set_option maxHeartbeats 2000000 in
theorem l3Depth_any (K : Nat → Bool → Prop) (v : Value) (es : List En) (i d : Nat) (w : World) (hv : EnsR K w v es) (hl : es.length ≤ 1000000000) (hd : DepE (es.map (·.base)) d i) (hb : d ≤ 1000000000) :
    Calls Tryz.prog 80 #[v, .int .i64 i] w fun e w' => e = .returned (.int .i64 d) ∧ Fr w.heap.size [] w w' := by
  obtain ⟨a, cap, rfl, hcap, hcell⟩ := hv.shape
  have HD := hid hd
  clear hv hd
  go_enter Tryz.func80, Tryz.ntmps80
  go_wp2
  go_loopw [1, 5] (fun vi vn wx => ∃ (j m k : Nat), vi = .int .i64 m ∧ vn = .int .i64 j ∧ j + k = d ∧ DepE (es.map (·.base)) k m ∧ Fr w.heap.size [] w wx) (fun _ vn _ => d - (intOf vn).toNat)
  case atStart => exact ⟨0, i, d, rfl, rfl, by omega, HD.out, Fr.refl _ _ _⟩
  case round =>
    obtain ⟨j, m, k, rfl, rfl, hjk, hdep, hfr⟩ := hrel
    have hdep' : ∃ b, (es.map (·.base))[m]? = some b ∧ (b < 0 ∧ k = 0 ∨ 0 ≤ b ∧ ∃ k', k = k' + 1 ∧ DepE (es.map (·.base)) k' b.toNat) := by
      cases k with
      | zero => obtain ⟨b, h1, h2⟩ := hdep; exact ⟨b, h1, .inl ⟨h2, rfl⟩⟩
      | succ k => obtain ⟨b, h1, h2, h3⟩ := hdep; exact ⟨b, h1, .inr ⟨h2, k, rfl, h3⟩⟩
    obtain ⟨b, hb1, hb2⟩ := hdep'
    have hm : m < es.length := by
      have := (List.getElem?_eq_some_iff.1 hb1).1
      simpa using this
    have hbe : es[m].base = b := by
      rw [List.getElem?_map, List.getElem?_eq_getElem hm] at hb1
      simpa using hb1
    rcases hcell with hh | ⟨blk, off, rfl, hbs, hcell⟩
    · rw [hh] at hm; cases hm
    · obtain ⟨u, p, h0, h1, h2, h3, _, _⟩ := hcell m hm
      rw [hbe] at h2
      have c2 := hfr.cell hbs h2
      have hmi : (m : Int) < (es.length : Int) := by omega
      clear hcell h0 h1 h2 h3 hb1 hdep
      rcases hb2 with ⟨hneg, rfl⟩ | ⟨hpos, k', rfl, hd'⟩
      · have hneg' : ¬ (0 : Int) ≤ b := by omega
        go_wp2
        go_ret
        exact ⟨ret_int (by omega), hfr⟩
      · obtain ⟨q, rfl⟩ := Int.eq_ofNat_of_zero_le hpos
        have HDK := hid hd'
        clear hd'
        go_wp2
        go_roundw
        case rel => exact ⟨j + 1, q, k', rfl, by go_num, by omega, HDK.out, hfr⟩
        case measure => simp [intOf]; omega

set_option maxRecDepth 20000 in
set_option maxHeartbeats 2000000 in
theorem l3Best_any (K K' : Nat → Bool → Prop) (v vo : Value) (es : List En) (os : List Ob) (ds : List Nat) (t : Tx) (w : World) (hv : EnsR K w v es) (ho : ObsR K' w vo os) (hle : es.length ≤ os.length) (hl : os.length ≤ 1000000000)
    (hds : ds.length = es.length) (hd2 : ∀ d ∈ ds, d ≤ 2) (hdep : ∀ j, j < es.length → DepE (es.map (·.base)) (ds.getD j 2) j) :
    Calls Tryz.prog 57 #[v, vo, .string (tx t)] w fun e w' => e = .returned (.int .i64 (pickTo (os.map (·.text)) ds t es.length).1) ∧ Fr w.heap.size [] w w' := by
  obtain ⟨a, cap, rfl, hcap, hcell⟩ := hv.shape
  obtain ⟨a', cap', rfl, hcap', hcell'⟩ := ho.shape
  have HV := hid hv
  have HO := hid ho
  clear hv ho
  have E0 : (⟨#[]⟩ : ByteArray) = tx [] := rfl
  have DL := hid (fun b => delta_le b t)
  go_enter Tryz.func57, Tryz.ntmps57
  go_wp2_with (first
    | (go_at_call 58; go_must (refine (specDeltaMake_any [] t _).mono ?_; rintro e w1 ⟨v1, rfl, own1, fr1⟩; have OWN1 := hid own1; obtain ⟨oa, ocap, rfl⟩ := own_any own1; clear own1))
    | (go_at_call 79; go_must (refine (specDeltaSize_any _ _ (delta [] t) _ OWN1.out.reads (Nat.le_trans (DL.out []).1 (by decide)) (fun o ho => Nat.le_trans ((DL.out []).2 o ho) (by decide))).mono ?_; rintro e w2 ⟨rfl, fr2⟩; have F2 := hid (fr1.trans fr2.nil); clear OWN1 fr1 fr2)))
  go_loopw [7, 8, 9] (fun vb vs vi wx => ∃ k : Nat, k ≤ es.length ∧ vi = .int .i64 k ∧ vb = .int .i64 (pickTo (os.map (·.text)) ds t k).1 ∧ vs = .int .i64 ((pickTo (os.map (·.text)) ds t k).2 : Nat) ∧ Fr w.heap.size [] w wx) (fun _ _ vi _ => es.length - (intOf vi).toNat)
  case atStart => exact ⟨0, Nat.zero_le _, rfl, rfl, rfl, F2.out⟩
  case round =>
    obtain ⟨k, hk, rfl, rfl, rfl, hfr⟩ := hrel
    by_cases hlt : k < es.length
    · have hko : k < os.length := by omega
      rcases hcell' with hh | ⟨b, off, rfl, hbs, hcell'⟩
      · rw [hh] at hko; cases hko
      · obtain ⟨u, h0, h1, h2, hu⟩ := hcell' k hko
        have c2 := hfr.cell hbs h2
        have hki : (k : Int) < (os.length : Int) := by omega
        have hke : (k : Int) < (es.length : Int) := by omega
        have HDEP := hid (hdep k hlt)
        have hD2 : ds.getD k 2 ≤ 2 := by
          rw [List.getD_eq_getElem?_getD, List.getElem?_eq_getElem (by omega)]
          exact hd2 _ (List.getElem_mem _)
        have htk : (os.map (·.text)).getD k [] = os[k].text := by
          rw [List.getD_eq_getElem?_getD, List.getElem?_map, List.getElem?_eq_getElem hko]; rfl
        have hsz := dsize_le os[k].text t
        have hP : pickTo (os.map (·.text)) ds t (k + 1) = if ds.getD k 2 < 2 ∧ dsize (delta os[k].text t) < (pickTo (os.map (·.text)) ds t k).2 then ((k : Int), dsize (delta os[k].text t)) else pickTo (os.map (·.text)) ds t k := by
          show (if _ then _ else _) = _
          rw [htk]
        clear hcell' h0 h1 h2 hu htk hdep
        generalize ds.getD k 2 = D at HDEP hD2 hP
        by_cases hn : dsize (delta os[k].text t) < (pickTo (os.map (·.text)) ds t k).2
        · have in1 : (dsize (delta os[k].text t) : Int) < ((pickTo (os.map (·.text)) ds t k).2 : Int) := by omega
          by_cases hd : D < 2
          · have id1 : (D : Int) < 2 := by omega
            have HP := hid (show pickTo (os.map (·.text)) ds t (k + 1) = ((k : Int), dsize (delta os[k].text t)) by rw [hP, if_pos ⟨hd, hn⟩])
            clear hP
            go_wp2_with (first
        | (go_at_call 58; go_must (refine (specDeltaMake_any os[k].text t _).mono ?_; rintro e w3 ⟨v3, rfl, own3, fr3⟩; have OWN3 := hid own3; have F3 := hid (hfr.trans fr3.nil); obtain ⟨oa3, ocap3, rfl⟩ := own_any own3; clear own3))
        | (go_at_call 79; go_must (refine (specDeltaSize_any _ _ (delta os[k].text t) _ OWN3.out.reads (Nat.le_trans (DL.out _).1 (by decide)) (fun o ho => Nat.le_trans ((DL.out _).2 o ho) (by decide))).mono ?_; rintro e w4 ⟨rfl, fr4⟩; have F4 := hid (F3.out.trans fr4.nil); clear OWN3 fr3 fr4))
        | (go_at_call 80; go_must (refine (l3Depth_any K _ es k D _ (HV.out.grow F4.out) (by omega) HDEP.out (by omega)).mono ?_; rintro e w5 ⟨rfl, fr5⟩; have F5 := hid (F4.out.trans fr5.nil); clear fr5)))
            go_roundw
            case rel => exact ⟨k + 1, by omega, by go_num, by rw [HP.out], by rw [HP.out], F5.out⟩
            case measure => simp [intOf]; omega
          · have id1 : ¬ (D : Int) < 2 := by omega
            have HP := hid (show pickTo (os.map (·.text)) ds t (k + 1) = pickTo (os.map (·.text)) ds t k by rw [hP, if_neg (fun h => hd h.1)])
            clear hP
            go_wp2_with (first
        | (go_at_call 58; go_must (refine (specDeltaMake_any os[k].text t _).mono ?_; rintro e w3 ⟨v3, rfl, own3, fr3⟩; have OWN3 := hid own3; have F3 := hid (hfr.trans fr3.nil); obtain ⟨oa3, ocap3, rfl⟩ := own_any own3; clear own3))
        | (go_at_call 79; go_must (refine (specDeltaSize_any _ _ (delta os[k].text t) _ OWN3.out.reads (Nat.le_trans (DL.out _).1 (by decide)) (fun o ho => Nat.le_trans ((DL.out _).2 o ho) (by decide))).mono ?_; rintro e w4 ⟨rfl, fr4⟩; have F4 := hid (F3.out.trans fr4.nil); clear OWN3 fr3 fr4))
        | (go_at_call 80; go_must (refine (l3Depth_any K _ es k D _ (HV.out.grow F4.out) (by omega) HDEP.out (by omega)).mono ?_; rintro e w5 ⟨rfl, fr5⟩; have F5 := hid (F4.out.trans fr5.nil); clear fr5)))
            go_roundw
            case rel => exact ⟨k + 1, by omega, by go_num, by rw [HP.out], by rw [HP.out], F5.out⟩
            case measure => simp [intOf]; omega
        · have in1 : ¬ (dsize (delta os[k].text t) : Int) < ((pickTo (os.map (·.text)) ds t k).2 : Int) := by omega
          have HP := hid (show pickTo (os.map (·.text)) ds t (k + 1) = pickTo (os.map (·.text)) ds t k by rw [hP, if_neg (fun h => hn h.2)])
          clear hP
          go_wp2_with (first
        | (go_at_call 58; go_must (refine (specDeltaMake_any os[k].text t _).mono ?_; rintro e w3 ⟨v3, rfl, own3, fr3⟩; have OWN3 := hid own3; have F3 := hid (hfr.trans fr3.nil); obtain ⟨oa3, ocap3, rfl⟩ := own_any own3; clear own3))
        | (go_at_call 79; go_must (refine (specDeltaSize_any _ _ (delta os[k].text t) _ OWN3.out.reads (Nat.le_trans (DL.out _).1 (by decide)) (fun o ho => Nat.le_trans ((DL.out _).2 o ho) (by decide))).mono ?_; rintro e w4 ⟨rfl, fr4⟩; have F4 := hid (F3.out.trans fr4.nil); clear OWN3 fr3 fr4))
        | (go_at_call 80; go_must (refine (l3Depth_any K _ es k D _ (HV.out.grow F4.out) (by omega) HDEP.out (by omega)).mono ?_; rintro e w5 ⟨rfl, fr5⟩; have F5 := hid (F4.out.trans fr5.nil); clear fr5)))
          go_roundw
          case rel => exact ⟨k + 1, by omega, by go_num, by rw [HP.out], by rw [HP.out], F4.out⟩
          case measure => simp [intOf]; omega
    · obtain rfl : k = es.length := by omega
      clear hcell'
      go_wp2
      go_ret
      exact ⟨rfl, hfr⟩

end Go.Proofs.YtjgbconlpolddaaGreat
