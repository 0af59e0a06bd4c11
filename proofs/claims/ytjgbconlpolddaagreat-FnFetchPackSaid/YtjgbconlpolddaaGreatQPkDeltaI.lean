/- The program's DeltaMake: the linked operations. -/
import Derived.Test.YtjgbconlpolddaaGreatQM4
set_option linter.unusedVariables false
set_option linter.unusedSimpArgs false
namespace Go.Proofs.YtjgbconlpolddaaGreat
open Go.RowKit
set_option linter.unusedVariables false

/-- The nodes of operations, the last one first, in blocks from lo on and below hi. -/
def Chain (lo : Nat) (w : World) : Nat → List Opn → Value → Prop
  | _, [], v => v = .pointer none
  | hi, o :: r, v => ∃ b pv, v = .pointer (some ⟨b, 0, none⟩) ∧ lo ≤ b ∧ b < hi ∧ w.heap[b]? = some (.cells #[.int .i64 o.pos, .int .i64 o.size, .string (tx o.text), pv] 120 (0, 0)) ∧ Chain lo w b r pv

theorem Chain.keep {lo B : Nat} {T : List Nat} {w w' : World} (hf : Fr B T w w') (hT : 120 ∉ T) : ∀ {hi : Nat} {r : List Opn} {v : Value}, Chain lo w hi r v → Chain lo w' hi r v := by
  intro hi r
  induction r generalizing hi with
  | nil => intro v h; exact h
  | cons o r ih =>
    rintro v ⟨b, pv, h1, h2, h3, h4, h5⟩
    exact ⟨b, pv, h1, h2, h3, hf.keep _ _ h4 (.inr (by simpa [otag] using hT)), ih h5⟩

theorem Chain.set {lo : Nat} {w : World} {p : Addr} {u : Value} : ∀ {hi : Nat} {r : List Opn} {v : Value}, Chain lo w hi r v → hi ≤ p.block → Chain lo (w.setCell p u) hi r v := by
  intro hi r
  induction r generalizing hi with
  | nil => intro v h _; exact h
  | cons o r ih =>
    rintro v ⟨b, pv, h1, h2, h3, h4, h5⟩ hp
    exact ⟨b, pv, h1, h2, h3, block_setne h4 (by omega), ih h5 (by omega)⟩

theorem Chain.up {lo hi hi' : Nat} {w : World} {r : List Opn} {v : Value} (h : Chain lo w hi r v) (hh : hi ≤ hi') : Chain lo w hi' r v := by
  cases r with
  | nil => exact h
  | cons o r =>
    obtain ⟨b, pv, h1, h2, h3, h4, h5⟩ := h
    exact ⟨b, pv, h1, h2, by omega, h4, h5⟩

theorem Chain.one {lo hi : Nat} {w : World} {r : List Opn} {v : Value} (h : Chain lo w hi r v) : v.oneCell' = true := by
  cases r with
  | nil => cases h; rfl
  | cons o r => obtain ⟨b, pv, rfl, _⟩ := h; rfl

set_option maxRecDepth 20000 in
set_option maxHeartbeats 2000000 in
theorem ops_any {lo hi : Nat} {w : World} {r : List Opn} {v : Value} (h : Chain lo w hi r v) (hr : r.length ≤ 1000) :
    Calls Tryz.prog 76 #[v] w fun e w' => ∃ v', e = .returned v' ∧ OpsOwn w.heap.size w' v' r.reverse ∧ Fr w.heap.size [] w w' := by
  have H := hid h
  obtain ⟨iop, hpi, hpz0, hpz1, hpz2⟩ := info_parts infoOp
  have hv : ∃ a, v = .pointer a := by
    cases r with
    | nil => exact ⟨none, h⟩
    | cons o r => obtain ⟨b, pv, rfl, _⟩ := h; exact ⟨_, rfl⟩
  obtain ⟨a, rfl⟩ := hv
  clear h
  go_enter Tryz.func76, Tryz.ntmps76
  go_wp2
  go_loopw [0, 3] (fun vn vo wx => ∃ (done rest : List Opn) (hi' : Nat) (a' : Option Addr), vn = .pointer a' ∧ r = done ++ rest ∧ Chain lo wx hi' rest (.pointer a') ∧ OpsOwn w.heap.size wx vo done ∧ Fr w.heap.size [] w wx ∧ rest.length ≤ r.length) (fun vn vo _ => r.length - (match vo with | .slice _ n _ => n | _ => 0))
  case atStart => exact ⟨[], r, hi, a, rfl, rfl, H.out, World.ownsRow_nil _ _ _ _, Fr.refl _ _ _, Nat.le_refl _⟩
  case round =>
    obtain ⟨done, rest, hi', a', rfl, hdr, hch, hown, hfr, hle⟩ := hrel
    have OWN := hid hown
    obtain ⟨oa, ocap, rfl⟩ := own_any hown
    have hs := hfr.size
    have hdl : done.length + rest.length = r.length := by rw [hdr]; simp
    clear hown
    cases rest with
    | nil =>
      have ha : a' = none := by simpa [Chain] using hch
      subst ha
      have HD := hid (show r = done by simpa using hdr)
      clear hch
      go_wp2_with (go_at_call 90; go_must (refine (revOp_any OWN.out (by omega)).mono ?_; rintro e w1 ⟨rfl, own1, fr1⟩; have OWN1 := hid own1; have F1 := hid (hfr.after fr1)))
      go_ret
      exact ⟨_, rfl, by rw [HD.out]; exact OWN1.out, F1.out⟩
    | cons o rest =>
      obtain ⟨b, pv, hpe, h2, h3, h4, h5⟩ := hch
      cases hpe
      obtain ⟨pa, rfl⟩ : ∃ pa, pv = .pointer pa := by
        cases rest with
        | nil => exact ⟨none, h5⟩
        | cons o' r' => obtain ⟨b', pv', rfl, _⟩ := h5; exact ⟨_, rfl⟩
      have CH := hid h5
      have B4 := hid h4
      have c0 := cell_of (o := 0) h4 rfl
      have c1 := cell_of (o := 1) h4 rfl
      have c2 := cell_of (o := 2) h4 rfl
      have c3 := cell_of (o := 3) h4 rfl
      have hb := lt_of_get h4
      have hdl' : done.length + (rest.length + 1) = r.length := by simpa using hdl
      clear h5 h4
      go_wp2_with ((at_builtin; go_must (refine wpList_push rfl (.tmp 10) (.tmp 15) 48 rfl w.heap.size 91 iop (.agg #[.int .i64 0, .int .i64 0, .string ⟨#[]⟩]) 3 32 Tryz.underlying48 hpi hpz0 hpz1 hpz2 rfl (by decide) _ _ _ (show wr.ownsRow w.heap.size 91 3 (.slice oa done.length ocap) done.length (done.flatMap encOp) from OWN.out) rfl (oneN3 _ _ _) (by unfold maxLen; omega) (by omega) (by omega) (by rfl) _ (by rfl) (by simp [World.setCell]) ?_; intro v4 w4 own4 fr4 _)); go_must (have OWN4 := hid (OpsOwn.snoc (o := o) own4 rfl rfl); have F4 := hid (hfr.after fr4); have CH4 := hid (CH.out.keep fr4 (by simp)); have d3 := cell_of (o := 3) (fr4.keep _ _ B4.out (.inr (by simp [otag]))) rfl; obtain ⟨oa4, ocap4, rfl⟩ := own_any own4; clear own4 fr4 c0 c1 c2 c3))
      go_roundw
      case rel => exact ⟨done ++ [o], rest, b, pa, rfl, by rw [hdr]; simp, CH4.out, OWN4.out, F4.out, by omega⟩
      case measure => simp; omega

set_option maxRecDepth 20000 in
set_option maxHeartbeats 4000000 in
theorem implDeltaMake_any (b t : Tx) (w : World) (hg : Glob w) :
    Calls Tryz.prog 49 #[.string (tx b), .string (tx t)] w fun e w' => ∃ v, e = .returned v ∧ OpsOwn w.heap.size w' v (delta b t) ∧ Fr w.heap.size [] w w' := by
  have hsb := tx_size b
  have hst := tx_size t
  have HG := hid hg
  have hpos : 0 < w.heap.size := by obtain ⟨m, hm⟩ := hg; exact World.block_lt_of_cell? _ _ hm
  clear hg
  by_cases hb : b.length ≤ 8
  · by_cases ht : t.length ≤ 8
    · have ib : (b.length : Int) ≤ 8 := by omega
      have it : (t.length : Int) ≤ 8 := by omega
      go_enter Tryz.func49, Tryz.ntmps49
      go_wp2
      go_loopw [1, 5] (fun vt vl wx => ∃ (l : Tx) (ops : List Opn) (hi : Nat) (a : Option Addr), vt = .string (tx l) ∧ vl = .pointer a ∧ DRel b t ops l ∧ Chain w.heap.size wx hi ops.reverse (.pointer a) ∧ hi ≤ wx.heap.size ∧ Fr w.heap.size [] w wx) (fun vt _ _ => match vt with | .string s => s.size | _ => 0)
      case atStart => exact ⟨t, [], 0, none, rfl, rfl, DRel.start hb ht, rfl, Nat.zero_le _, Fr.refl _ _ _⟩
      case round =>
        obtain ⟨l, ops, hi, a, rfl, rfl, hrel, hch, hhi, hfr⟩ := hrel
        have hsl := tx_size l
        have REL := hid hrel
        have CH := hid hch
        have hl2 := hrel.2.1
        have hls := hfr.size
        have HG1 := hid (HG.out.keep hfr hpos)
        clear hrel hch
        by_cases hl : l = []
        · subst hl
          have HD := hid REL.out.done
          go_wp2_with (go_at_call 76; go_must (refine (ops_any CH.out (by rw [List.length_reverse]; omega)).mono ?_; rintro e w1 ⟨v1, rfl, own1, fr1⟩; rw [List.reverse_reverse] at own1; obtain ⟨oa, ocap, rfl⟩ := own_any own1; have OWN1 := hid own1; clear own1))
          go_ret
          refine ⟨_, rfl, ?_, hfr.trans fr1.nil⟩
          rw [← HD.out]
          exact ownsRow_lo OWN1.out hls
        · have hlp : 0 < l.length := List.length_pos_iff.2 hl
          have ilp : (0 : Int) < (l.length : Int) := by omega
          have hbl := best_le b l
          by_cases h2 : 2 ≤ (best b l).2
          · have i2 : (2 : Int) ≤ ((best b l).2 : Int) := by omega
            have i3 : ((best b l).2 : Int) ≤ (l.length : Int) := by omega
            have hex : (tx l).extract (best b l).2 l.length = tx (l.drop (best b l).2) := by
              rw [tx_extract, List.take_of_length_le (by simp)]
            have N1 := hid (REL.out.one hl h2)
            go_wp2_with (go_at_call 75; go_must (refine (longest_any b l _ HG1.out hb (by omega)).mono ?_; rintro e w1 ⟨rfl, rfl⟩))
            go_roundw
            case rel => exact ⟨_, _, w1.heap.size + 1, _, rfl, rfl, N1.out, by
              rw [List.reverse_append]
              exact ⟨w1.heap.size, .pointer a, rfl, hls, by omega, heap_alloc_new w1 _, (CH.out.up hhi).keep ((Fr.refl 0 [] w1).alloc _) (by simp)⟩, by simp, hfr.alloc _⟩
            case measure => simp [tx_size]; omega
          · have i2 : ¬ (2 : Int) ≤ ((best b l).2 : Int) := by omega
            have hex : (tx l).extract 1 l.length = tx (l.drop 1) := by rw [tx_extract, List.take_of_length_le (by simp)]
            have hex1 : (tx l).extract 0 1 = tx (l.take 1) := by rw [tx_extract]; simp
            have hdt : l.drop 1 = l.tail := List.drop_one
            have i3 : (1 : Int) ≤ (l.length : Int) := by omega
            rcases List.eq_nil_or_concat ops with rfl | ⟨init, o, rfl⟩
            · have N1 := hid (REL.out.three hl h2 (fun init o e => by simp at e))
              have ha : a = none := by simpa [Chain] using CH.out
              subst ha
              go_wp2_with (go_at_call 75; go_must (refine (longest_any b l _ HG1.out hb (by omega)).mono ?_; rintro e w1 ⟨rfl, rfl⟩))
              go_roundw
              case rel => exact ⟨_, _, w1.heap.size + 1, _, rfl, rfl, (by rw [← hdt]; exact N1.out), by
                rw [List.reverse_append]
                exact ⟨w1.heap.size, .pointer none, rfl, hls, by omega, heap_alloc_new w1 _, rfl⟩, by simp, hfr.alloc _⟩
              case measure => simp [tx_size]; omega
            · rw [List.concat_eq_append] at *
              have hlen : (init ++ [o]).length = init.length + 1 := by simp
              have hch := CH.out
              rw [List.reverse_append] at hch
              obtain ⟨nb, pv, hpe, k2, k3, k4, k5⟩ := hch
              cases hpe
              have B4 := hid k4
              have CT := hid k5
              have c0 := cell_of (o := 0) k4 rfl
              have c1 := cell_of (o := 1) k4 rfl
              have c2 := cell_of (o := 2) k4 rfl
              have c3 := free_of (o := 2) k4
              have c4 := lt_of_get k4
              clear k4 k5
              by_cases h0 : o.size = 0
              · have N1 := hid (REL.out.two hl h2 h0)
                have h0' : (o.size == 0) = true := by simp [h0]
                have happ : tx o.text ++ tx (l.take 1) = tx (o.text ++ l.take 1) := tx_append _ _
                have hto := REL.out.2.2 o (by simp)
                have hso := tx_size o.text
                have hs1t : (tx (l.take 1)).size = 1 := by rw [tx_size, List.length_take]; omega
                have hsum : o.text.length + 1 ≤ 9223372036854775807 := by omega
                go_wp2_with (go_at_call 75; go_must (refine (longest_any b l _ HG1.out hb (by omega)).mono ?_; rintro e w1 ⟨rfl, rfl⟩))
                first | go_region
                all_goals go_wp2
                all_goals
                  go_roundw
                  case rel => exact ⟨_, _, hi, _, rfl, rfl, (by rw [← hdt]; exact N1.out), by
                    rw [List.reverse_append]
                    refine ⟨nb, pv, rfl, k2, k3, ?_, (CT.out.set (p := ⟨nb, 2, none⟩) (Nat.le_refl _)).keep (Fr.refl 0 [] _).drew (by simp)⟩
                    have := block_set B4.out 2 (.string (tx (o.text ++ l.take 1)))
                    have h9 : (w1.setCell ⟨nb, 2, none⟩ (.string (tx (o.text ++ l.take 1)))).heap[nb]? = some (.cells #[.int .i64 o.pos, .int .i64 0, .string (tx (o.text ++ l.take 1)), pv] 120 (0, 0)) := by simpa [h0] using this
                    exact h9, by simpa [World.setCell] using hhi, (hfr.setNew (p := ⟨nb, 2, none⟩) k2 _).drew⟩
                  case measure => simp [tx_size]; omega
              · have N1 := hid (REL.out.three hl h2 (fun i x e => by
                  have := List.append_inj' e rfl
                  simp at this
                  rw [← this.2]; exact h0))
                have h0' : (o.size == 0) = false := by simp [h0]
                go_wp2_with (go_at_call 75; go_must (refine (longest_any b l _ HG1.out hb (by omega)).mono ?_; rintro e w1 ⟨rfl, rfl⟩))
                go_roundw
                case rel => exact ⟨_, _, w1.heap.size + 1, _, rfl, rfl, (by rw [← hdt]; exact N1.out), by
                  rw [List.reverse_append]
                  exact ⟨w1.heap.size, _, rfl, hls, by omega, heap_alloc_new w1 _, (CH.out.up hhi).keep ((Fr.refl 0 [] w1).alloc _) (by simp)⟩, by simp, hfr.alloc _⟩
                case measure => simp [tx_size]; omega
    · have it : ¬ (t.length : Int) ≤ 8 := by omega
      have it2 : (8 : Int) < (t.length : Int) := by omega
      have hd : delta b t = [] := by unfold delta; rw [if_neg (fun h => ht h.2)]
      have E0 := hid (show OpsOwn w.heap.size w (.slice none 0 0) (delta b t) by rw [hd]; exact World.ownsRow_nil _ _ _ _)
      clear hd
      go_enter Tryz.func49, Tryz.ntmps49
      go_wp2
      all_goals
        go_ret
        exact ⟨_, rfl, E0.out, Fr.refl _ _ _⟩
  · have ib : ¬ (b.length : Int) ≤ 8 := by omega
    have ib2 : (8 : Int) < (b.length : Int) := by omega
    have hd : delta b t = [] := by unfold delta; rw [if_neg (fun h => hb h.1)]
    have E0 := hid (show OpsOwn w.heap.size w (.slice none 0 0) (delta b t) by rw [hd]; exact World.ownsRow_nil _ _ _ _)
    clear hd
    go_enter Tryz.func49, Tryz.ntmps49
    go_wp2
    all_goals
      go_ret
      exact ⟨_, rfl, E0.out, Fr.refl _ _ _⟩

end Go.Proofs.YtjgbconlpolddaaGreat
