/- Deltas: plain laws of the steps. -/
import Derived.Test.YtjgbconlpolddaaGreatQPkLong2
import Derived.Test.YtjgbconlpolddaaGreatQM3
import Derived.Test.YtjgbconlpolddaaGreatQM1
set_option linter.unusedVariables false
set_option linter.unusedSimpArgs false
namespace Go.Proofs.YtjgbconlpolddaaGreat
open Go.RowKit
set_option linter.unusedVariables false

theorem best_le (b t : Tx) : (best b t).2 ≤ t.length := bestTo_le b t _

theorem best_lt (b t : Tx) (h : 0 < (best b t).2) : (best b t).1 < b.length := by
  rcases (bestTo_spec b t b.length).2 with h1 | ⟨_, h1, _⟩
  · unfold best at h; rw [h1] at h; cases h
  · exact h1

theorem dstep_one {b t : Tx} {ops : List Opn} (h : 2 ≤ (best b t).2) : dstep b t ops = (ops ++ [⟨(best b t).1, (best b t).2, []⟩], t.drop (best b t).2) := by
  unfold dstep; rw [if_pos h]

theorem dstep_two {b t : Tx} {init : List Opn} {o : Opn} (h : ¬ 2 ≤ (best b t).2) (h0 : o.size = 0) : dstep b t (init ++ [o]) = (init ++ [⟨o.pos, 0, o.text ++ t.take 1⟩], t.drop 1) := by
  unfold dstep; rw [if_neg h]; simp [h0]

theorem dstep_three {b t : Tx} {ops : List Opn} (h : ¬ 2 ≤ (best b t).2) (h0 : ∀ init o, ops = init ++ [o] → o.size ≠ 0) : dstep b t ops = (ops ++ [⟨0, 0, t.take 1⟩], t.drop 1) := by
  unfold dstep; rw [if_neg h]
  rcases List.eq_nil_or_concat ops with rfl | ⟨init, o, rfl⟩
  · rfl
  · have := h0 init o (by simp)
    simp [this]

theorem dstep_len {b t : Tx} {ops : List Opn} (ht : t ≠ []) : (dstep b t ops).2.length < t.length ∧ (dstep b t ops).1.length + (dstep b t ops).2.length ≤ ops.length + t.length := by
  have hl : 0 < t.length := List.length_pos_iff.2 ht
  by_cases h : 2 ≤ (best b t).2
  · rw [dstep_one h]
    have := best_le b t
    simp
    omega
  · rcases List.eq_nil_or_concat ops with rfl | ⟨init, o, rfl⟩
    · rw [dstep_three h (fun init o e => by simp at e)]
      simp; omega
    · rw [List.concat_eq_append]
      by_cases h0 : o.size = 0
      · rw [dstep_two h h0]; simp; omega
      · rw [dstep_three h (fun i x e => by
          have := List.append_inj' e rfl
          simp at this
          rw [← this.2]; exact h0)]
        simp; omega

theorem dmake_ge (b : Tx) : ∀ (n : Nat) (t : Tx) (ops : List Opn), t.length ≤ n → dmake b n t ops = dmake b t.length t ops := by
  intro n
  induction n using Nat.strongRecOn with
  | ind n ih =>
    intro t ops h
    cases n with
    | zero =>
      have : t = [] := List.length_eq_zero_iff.1 (by omega)
      subst this; rfl
    | succ n =>
      by_cases ht : t = []
      · subst ht; simp [dmake]
      · obtain ⟨m, hm⟩ : ∃ m, t.length = m + 1 := ⟨t.length - 1, by have := List.length_pos_iff.2 ht; omega⟩
        have hl := (dstep_len (b := b) (ops := ops) ht).1
        rw [hm]
        simp only [dmake, if_neg ht]
        rw [ih n (by omega) _ _ (by omega)]
        by_cases e : m = n
        · subst e; rw [ih m (by omega) _ _ (by omega)]
        · rw [ih m (by omega) _ _ (by omega)]

theorem dmake_step {b t : Tx} {ops : List Opn} (ht : t ≠ []) : dmake b t.length t ops = dmake b (dstep b t ops).2.length (dstep b t ops).2 (dstep b t ops).1 := by
  obtain ⟨m, hm⟩ : ∃ m, t.length = m + 1 := ⟨t.length - 1, by have := List.length_pos_iff.2 ht; omega⟩
  have hl := (dstep_len (b := b) (ops := ops) ht).1
  rw [hm]
  simp only [dmake, if_neg ht]
  exact dmake_ge b m _ _ (by omega)

/-- What holds between the rounds: the operations so far, the text that is left. -/
def DRel (b t : Tx) (ops : List Opn) (l : Tx) : Prop :=
  dmake b l.length l ops = delta b t ∧ ops.length + l.length ≤ t.length ∧ ∀ o ∈ ops, o.text.length + l.length ≤ t.length

theorem DRel.start {b t : Tx} (hb : b.length ≤ 8) (ht : t.length ≤ 8) : DRel b t [] t :=
  ⟨by unfold delta; rw [if_pos ⟨hb, ht⟩], by simp, fun o ho => by cases ho⟩

theorem DRel.done {b t : Tx} {ops : List Opn} (h : DRel b t ops []) : ops = delta b t := by
  rw [← h.1]; rfl

theorem DRel.one {b t l : Tx} {ops : List Opn} (h : DRel b t ops l) (hl : l ≠ []) (h2 : 2 ≤ (best b l).2) : DRel b t (ops ++ [⟨(best b l).1, (best b l).2, []⟩]) (l.drop (best b l).2) := by
  have := dmake_step (b := b) (ops := ops) hl
  have hd := dstep_one (b := b) (t := l) (ops := ops) h2
  have hle := best_le b l
  rw [hd] at this
  refine ⟨by rw [← this]; exact h.1, by have := h.2.1; simp; omega, fun o ho => ?_⟩
  rcases List.mem_append.1 ho with ho | ho
  · have := h.2.2 o ho; rw [List.length_drop]; omega
  · simp at ho; subst ho; have := h.2.1; simp; omega

theorem DRel.two {b t l : Tx} {init : List Opn} {o : Opn} (h : DRel b t (init ++ [o]) l) (hl : l ≠ []) (h2 : ¬ 2 ≤ (best b l).2) (h0 : o.size = 0) : DRel b t (init ++ [⟨o.pos, 0, o.text ++ l.take 1⟩]) (l.drop 1) := by
  have := dmake_step (b := b) (ops := init ++ [o]) hl
  have hd := dstep_two (b := b) (t := l) (init := init) h2 h0
  have hp : 0 < l.length := List.length_pos_iff.2 hl
  rw [hd] at this
  refine ⟨by rw [← this]; exact h.1, by have := h.2.1; simp at this ⊢; omega, fun x hx => ?_⟩
  rcases List.mem_append.1 hx with hx | hx
  · have := h.2.2 x (List.mem_append_left _ hx); rw [List.length_drop]; omega
  · simp at hx; subst hx
    have := h.2.2 o (by simp)
    simp; omega

theorem DRel.three {b t l : Tx} {ops : List Opn} (h : DRel b t ops l) (hl : l ≠ []) (h2 : ¬ 2 ≤ (best b l).2) (h0 : ∀ init o, ops = init ++ [o] → o.size ≠ 0) : DRel b t (ops ++ [⟨0, 0, l.take 1⟩]) (l.drop 1) := by
  have := dmake_step (b := b) (ops := ops) hl
  have hd := dstep_three (b := b) (t := l) (ops := ops) h2 h0
  have hp : 0 < l.length := List.length_pos_iff.2 hl
  rw [hd] at this
  refine ⟨by rw [← this]; exact h.1, by have := h.2.1; simp; omega, fun x hx => ?_⟩
  rcases List.mem_append.1 hx with hx | hx
  · have := h.2.2 x hx; rw [List.length_drop]; omega
  · simp at hx; subst hx
    have := h.2.1; simp; omega

end Go.Proofs.YtjgbconlpolddaaGreat

/- The reference's DeltaMake. -/
namespace Go.Proofs.YtjgbconlpolddaaGreat
open Go.RowKit
set_option linter.unusedVariables false

/-- Operations in a row of their own. -/
def OpsOwn (lo : Nat) (w : World) (v : Value) (ops : List Opn) : Prop := w.ownsRow lo 91 3 v ops.length (ops.flatMap encOp)

theorem OpsOwn.reads {lo : Nat} {w : World} {v : Value} {ops : List Opn} (h : OpsOwn lo w v ops) : OpsR (new lo) w v ops := SlR.ofOwns h

theorem OpsOwn.keep {lo B : Nat} {T : List Nat} {w w' : World} {v : Value} {ops : List Opn} (h : OpsOwn lo w v ops) (hf : Fr B T w w') (hT : 91 ∉ T) : OpsOwn lo w' v ops := ownsRow_keep h hf hT
theorem OpsOwn.grow {lo B : Nat} {w w' : World} {v : Value} {ops : List Opn} (h : OpsOwn lo w v ops) (hf : Fr B [] w w') : OpsOwn lo w' v ops := ownsRow_grow h hf

theorem OpsOwn.empty {w : World} {n : Nat} (hn : n = w.heap.size) : OpsOwn n (w.alloc (.cells #[] 91)) (.slice (some ⟨n, 0, none⟩) 0 0) [] := by
  subst hn
  exact World.ownsRow_lit (e := 91) (size := 3) w #[] 0 (Nat.le_refl _) (by decide) rfl

theorem OpsOwn.snoc {lo n : Nat} {w : World} {v : Value} {ops : List Opn} {o : Opn} {news : List Value} (h : w.ownsRow lo 91 3 v (n + 1) (ops.flatMap encOp ++ news)) (hn : n = ops.length) (ho : news = encOp o) : OpsOwn lo w v (ops ++ [o]) := by
  subst hn ho
  unfold OpsOwn
  rw [List.flatMap_append, List.length_append]
  simpa using h

theorem tx_append (a b : Tx) : tx a ++ tx b = tx (a ++ b) := by
  apply ByteArray.ext
  simp [tx]

theorem oneN3 (x y : Int) (s : ByteArray) : ∀ u ∈ [Value.int .i64 x, .int .i64 y, .string s], u.oneCell' = true := by
  intro u hu
  simp at hu
  rcases hu with rfl | rfl | rfl <;> rfl

theorem fmOp_set (init : List Opn) (o : Opn) (x : Tx) : ((init ++ [o]).flatMap encOp).set (init.length * 3 + 2) (.string (tx x)) = (init ++ [(⟨o.pos, o.size, x⟩ : Opn)]).flatMap encOp := by
  have hl := fm_length encOp 3 (fun _ => rfl) init
  rw [List.flatMap_append, List.flatMap_append, List.set_append_right _ _ (by rw [hl]; omega), hl]
  have : init.length * 3 + 2 - init.length * 3 = 2 := by omega
  rw [this]
  simp [encOp]

/-- The last operation of a row, and its text set anew. -/
theorem OpsOwn.last {lo g n cap : Nat} {w : World} {init : List Opn} {o : Opn} (h0 : OpsOwn lo w (.slice (some ⟨g, 0, none⟩) n cap) (init ++ [o])) (hn : n = (init ++ [o]).length) :
    w.cell? ⟨g, init.length * 3 + 1, none⟩ = some (.int .i64 o.size) ∧ w.cell? ⟨g, init.length * 3 + 2, none⟩ = some (.string (tx o.text)) ∧ w.frozen? ⟨g, init.length * 3 + 2, none⟩ = false ∧ lo ≤ g ∧ g < w.heap.size ∧
      ∀ (w1 : World) (x : Tx), Fr w.heap.size [] w w1 → OpsOwn lo (w1.setCell ⟨g, init.length * 3 + 2, none⟩ (.string (tx x))) (.slice (some ⟨g, 0, none⟩) n cap) (init ++ [⟨o.pos, o.size, x⟩]) ∧ Fr lo [91] w1 (w1.setCell ⟨g, init.length * 3 + 2, none⟩ (.string (tx x))) := by
  subst hn
  have h : w.ownsRow lo 91 3 (.slice (some ⟨g, 0, none⟩) (init ++ [o]).length cap) (init ++ [o]).length ((init ++ [o]).flatMap encOp) := h0
  have hl := fm_length encOp 3 (fun _ => rfl) (init ++ [o])
  have hl2 : (init ++ [o]).length = init.length + 1 := by simp
  have hg : ∀ j, j < 3 → ((init ++ [o]).flatMap encOp)[init.length * 3 + j]? = (encOp o)[j]? := fun j hj => by
    have := fm_get encOp 3 (fun _ => rfl) (init ++ [o]) init.length j hj (by simp)
    rw [this]
    simp
  refine ⟨?_, ?_, h.frozenAt _, (h.lt g rfl).1, (h.lt g rfl).2, fun w1 x hf => ?_⟩
  · rw [h.cellAt (init.length * 3 + 1) (by omega), hg 1 (by omega)]; rfl
  · rw [h.cellAt (init.length * 3 + 2) (by omega), hg 2 (by omega)]; rfl
  · have h2' := ownsRow_grow h hf
    have ⟨st1, _⟩ := h2'.stored (init.length * 3 + 2) (.string (tx x))
    rw [fmOp_set] at st1
    obtain ⟨cur, hcur⟩ : ∃ cur, w1.heap[g]? = some (.cells cur 91 (0, 0)) := by
      rcases h2'.2 with ⟨hh, _⟩ | ⟨g', cap', cur, hh, _, hc, _⟩
      · cases hh
      · cases hh; exact ⟨cur, hc⟩
    refine ⟨?_, (Fr.refl lo [91] w1).setOld (p := ⟨g, init.length * 3 + 2, none⟩) hcur ((h.lt g rfl).1) (by simp [otag]) _⟩
    unfold OpsOwn
    rw [show (init ++ [(⟨o.pos, o.size, x⟩ : Opn)]).length = (init ++ [o]).length by simp]
    exact st1

set_option maxRecDepth 20000 in
set_option maxHeartbeats 4000000 in
theorem specDeltaMake_any (b t : Tx) (w : World) :
    Calls Tryz.prog 58 #[.string (tx b), .string (tx t)] w fun e w' => ∃ v, e = .returned v ∧ OpsOwn w.heap.size w' v (delta b t) ∧ Fr w.heap.size [] w w' := by
  have hsb := tx_size b
  have hst := tx_size t
  obtain ⟨iop, hpi, hpz0, hpz1, hpz2⟩ := info_parts infoOp
  have E0 := hid (OpsOwn.empty (w := w) rfl)
  by_cases hb : b.length ≤ 8
  · by_cases ht : t.length ≤ 8
    · have ib : (b.length : Int) ≤ 8 := by omega
      have it : (t.length : Int) ≤ 8 := by omega
      go_enter Tryz.func58, Tryz.ntmps58
      go_wp2
      go_loopw [1, 5] (fun vt vo wx => ∃ (l : Tx) (ops : List Opn), vt = .string (tx l) ∧ DRel b t ops l ∧ OpsOwn w.heap.size wx vo ops ∧ Fr w.heap.size [] w wx) (fun vt _ _ => match vt with | .string s => s.size | _ => 0)
      case atStart => exact ⟨t, [], rfl, DRel.start hb ht, E0.out, (Fr.refl _ _ _).alloc _⟩
      case round =>
        obtain ⟨l, ops, rfl, hrel, hown, hfr⟩ := hrel
        have hsl := tx_size l
        have REL := hid hrel
        have OWN := hid hown
        have hl2 := hrel.2.1
        have hls := hfr.size
        obtain ⟨oa, ocap, rfl⟩ := own_any hown
        clear hrel hown
        by_cases hl : l = []
        · subst hl
          have HD := hid REL.out.done
          go_wp2
          go_ret
          exact ⟨_, rfl, by rw [← HD.out]; exact OWN.out, hfr⟩
        · have hlp : 0 < l.length := List.length_pos_iff.2 hl
          have ilp : (0 : Int) < (l.length : Int) := by omega
          have hbl := best_le b l
          by_cases h2 : 2 ≤ (best b l).2
          · have i2 : (2 : Int) ≤ ((best b l).2 : Int) := by omega
            have i3 : ((best b l).2 : Int) ≤ (l.length : Int) := by omega
            have hex : (tx l).extract (best b l).2 l.length = tx (l.drop (best b l).2) := by
              rw [tx_extract, List.take_of_length_le (by simp)]
            have N1 := hid (REL.out.one hl h2)
            go_wp2_with (first
              | (go_at_call 81; go_must (refine (l2Longest_any b l _ hb (by omega)).mono ?_; rintro e w1 ⟨rfl, fr1⟩; have OWN1 := hid (OWN.out.grow fr1); have F1 := hid (hfr.trans fr1.nil); have hs1 := F1.out.size; clear fr1))
              | ((at_builtin; go_must (refine wpList_push rfl (.tmp 40) (.tmp 44) 48 rfl w.heap.size 91 iop (.agg #[.int .i64 0, .int .i64 0, .string ⟨#[]⟩]) 3 32 Tryz.underlying48 hpi hpz0 hpz1 hpz2 rfl (by decide) _ _ _ (show w1.ownsRow w.heap.size 91 3 (.slice oa ops.length ocap) ops.length (ops.flatMap encOp) from OWN1.out) rfl (oneN3 _ _ _) (by unfold maxLen; omega) (by omega) (by omega) (by rfl) _ (by rfl) (by simp [World.setCell]) ?_; intro v4 w4 own4 fr4 _)); go_must (have OWN4 := hid (OpsOwn.snoc (o := ⟨(best b l).1, (best b l).2, []⟩) own4 rfl rfl); have F4 := hid (F1.out.after fr4); clear own4 fr4)))
            go_roundw
            case rel => exact ⟨_, _, rfl, N1.out, OWN4.out, F4.out⟩
            case measure => simp [tx_size]; omega
          · have i2 : ¬ (2 : Int) ≤ ((best b l).2 : Int) := by omega
            have hex : (tx l).extract 1 l.length = tx (l.drop 1) := by rw [tx_extract, List.take_of_length_le (by simp)]
            have hex1 : (tx l).extract 0 1 = tx (l.take 1) := by rw [tx_extract]; simp
            have i3 : (1 : Int) ≤ (l.length : Int) := by omega
            have hdt : l.drop 1 = l.tail := List.drop_one
            rcases List.eq_nil_or_concat ops with rfl | ⟨init, o, rfl⟩
            · have N1 := hid (REL.out.three hl h2 (fun init o e => by simp at e))
              go_wp2_with (first
                | (go_at_call 81; go_must (refine (l2Longest_any b l _ hb (by omega)).mono ?_; rintro e w1 ⟨rfl, fr1⟩; have OWN1 := hid (OWN.out.grow fr1); have F1 := hid (hfr.trans fr1.nil); have hs1 := F1.out.size; clear fr1))
                | ((at_builtin; go_must (refine wpList_push rfl (.tmp 31) (.tmp 35) 48 rfl w.heap.size 91 iop (.agg #[.int .i64 0, .int .i64 0, .string ⟨#[]⟩]) 3 32 Tryz.underlying48 hpi hpz0 hpz1 hpz2 rfl (by decide) _ _ _ (show w1.ownsRow w.heap.size 91 3 (.slice oa 0 ocap) 0 [] from OWN1.out) rfl (oneN3 _ _ _) (by unfold maxLen; omega) (by omega) (by omega) (by rfl) _ (by rfl) (by simp [World.setCell]) ?_; intro v4 w4 own4 fr4 _)); go_must (have OWN4 := hid (OpsOwn.snoc (ops := []) (o := ⟨0, 0, l.take 1⟩) own4 rfl rfl); have F4 := hid (F1.out.after fr4); clear own4 fr4)))
              go_roundw
              case rel => exact ⟨_, _, rfl, (by rw [← hdt]; exact N1.out), OWN4.out, F4.out⟩
              case measure => simp [tx_size]; omega
            · rw [List.concat_eq_append] at *
              obtain ⟨g, gcap, hg, _⟩ := own_shape OWN.out (by simp)
              cases hg
              have hlen : (init ++ [o]).length = init.length + 1 := by simp
              by_cases h0 : o.size = 0
              · have N1 := hid (REL.out.two hl h2 h0)
                have h0' : (o.size == 0) = true := by simp [h0]
                go_wp2_with (first
                  | (go_at_call 81; go_must (refine (l2Longest_any b l _ hb (by omega)).mono ?_; rintro e w1 ⟨rfl, fr1⟩; have OWN1 := hid (OWN.out.grow fr1); have F1 := hid (hfr.trans fr1.nil); have hs1 := F1.out.size; obtain ⟨q1, q2, q3, q4, q5, q6⟩ := OWN1.out.last rfl; have Q6 := hid q6; clear fr1 q6)))
                have happ : tx o.text ++ tx (l.take 1) = tx (o.text ++ l.take 1) := tx_append _ _
                have hto := REL.out.2.2 o (by simp)
                have hso := tx_size o.text
                have hs1t : (tx (l.take 1)).size = 1 := by rw [tx_size, List.length_take]; omega
                have hsum : o.text.length + 1 ≤ 9223372036854775807 := by omega
                go_region
                all_goals go_wp2
                all_goals
                  have ⟨r1, r2⟩ := Q6.out w1 (o.text ++ l.take 1) (Fr.refl _ [] w1)
                  rw [h0, hlen] at r1
                  go_roundw
                  case rel => exact ⟨_, _, rfl, (by rw [← hdt]; exact N1.out), r1.grow (Fr.refl 0 [] _).drew, (F1.out.after r2).drew⟩
                  case measure => simp [tx_size]; omega
              · have N1 := hid (REL.out.three hl h2 (fun i x e => by
                  have := List.append_inj' e rfl
                  simp at this
                  rw [← this.2]; exact h0))
                have h0' : (o.size == 0) = false := by simp [h0]
                go_wp2_with (first
                  | (go_at_call 81; go_must (refine (l2Longest_any b l _ hb (by omega)).mono ?_; rintro e w1 ⟨rfl, fr1⟩; have OWN1 := hid (OWN.out.grow fr1); have F1 := hid (hfr.trans fr1.nil); have hs1 := F1.out.size; obtain ⟨q1, q2, q3, q4, q5, q6⟩ := OWN1.out.last rfl; clear fr1 q6))
                  | ((at_builtin; go_must (refine wpList_push rfl (.tmp 31) (.tmp 35) 48 rfl w.heap.size 91 iop (.agg #[.int .i64 0, .int .i64 0, .string ⟨#[]⟩]) 3 32 Tryz.underlying48 hpi hpz0 hpz1 hpz2 rfl (by decide) _ _ _ (show w1.ownsRow w.heap.size 91 3 (.slice (some ⟨g, 0, none⟩) (init.length + 1) ocap) (init.length + 1) ((init ++ [o]).flatMap encOp) from by rw [← hlen]; exact OWN1.out) rfl (oneN3 _ _ _) (by unfold maxLen; omega) (by omega) (by omega) (by rfl) _ (by rfl) (by simp [World.setCell]) ?_; intro v4 w4 own4 fr4 _)); go_must (have OWN4 := hid (OpsOwn.snoc (o := ⟨0, 0, l.take 1⟩) own4 hlen.symm rfl); have F4 := hid (F1.out.after fr4); clear own4 fr4)))
                go_roundw
                case rel => exact ⟨_, _, rfl, (by rw [← hdt]; exact N1.out), OWN4.out, F4.out⟩
                case measure => simp [tx_size]; omega
    · have it : ¬ (t.length : Int) ≤ 8 := by omega
      have it2 : (8 : Int) < (t.length : Int) := by omega
      have hd : delta b t = [] := by unfold delta; rw [if_neg (fun h => ht h.2)]
      go_enter Tryz.func58, Tryz.ntmps58
      go_wp2
      all_goals
        go_ret
        exact ⟨_, rfl, (by first | exact E0.out | (rw [hd]; exact E0.out)), (Fr.refl _ _ _).alloc _⟩
  · have ib : ¬ (b.length : Int) ≤ 8 := by omega
    have ib2 : (8 : Int) < (b.length : Int) := by omega
    have hd : delta b t = [] := by unfold delta; rw [if_neg (fun h => hb h.1)]
    go_enter Tryz.func58, Tryz.ntmps58
    go_wp2
    all_goals
      go_ret
      exact ⟨_, rfl, (by first | exact E0.out | (rw [hd]; exact E0.out)), (Fr.refl _ _ _).alloc _⟩

end Go.Proofs.YtjgbconlpolddaaGreat

/- slices.Reverse at a row of structs of one's own. -/
namespace Go.Proofs.YtjgbconlpolddaaGreat
open Go.RowKit Go.Sort
set_option linter.unusedVariables false

theorem flatK_list {α : Type} [Inhabited α] (enc : α → List Value) (k : Nat) (hk0 : 0 < k) (hk : ∀ x, (enc x).length = k) (l : List α) : flatK enc k l.toArray = (l.flatMap enc).toArray := by
  have hs : (flatK enc k l.toArray).size = ((l.flatMap enc).toArray).size := by simp [size_flatK, fm_length enc k hk]
  refine ext_get! hs fun t ht => ?_
  have ht' : t < l.toArray.size * k := by simpa using ht
  rw [get_flatK enc k _ t ht']
  have hl : t < l.length * k := by simpa using ht'
  have hd : t / k < l.length := Nat.div_lt_of_lt_mul (by rw [Nat.mul_comm]; exact hl)
  have hm : t % k < k := Nat.mod_lt _ hk0
  have h1 := fm_get enc k hk l (t / k) (t % k) hm hd
  have h2 : t / k * k + t % k = t := by rw [Nat.mul_comm]; exact Nat.div_add_mod t k
  rw [h2] at h1
  have h3 : t < (l.flatMap enc).length := by rw [fm_length enc k hk]; exact hl
  have h4 : t % k < (enc l[t / k]).length := by rw [hk]; exact hm
  rw [List.getElem?_eq_getElem h3, List.getElem?_eq_getElem h4] at h1
  rw [getElem!_pos l.toArray (t / k) (by simpa using hd)]
  rw [getElem!_pos (l.flatMap enc).toArray t (by rw [List.size_toArray]; exact h3), getElem!_pos (enc l.toArray[t / k]) (t % k) (by rw [List.getElem_toArray]; exact h4)]
  simp only [List.getElem_toArray]
  exact (Option.some.inj h1).symm

theorem putCells_take (F cur : Array Value) (h : F.size ≤ cur.size) : (putCells id 0 F cur).toList.take F.size = F.toList := by
  apply List.ext_getElem
  · simp [putCells]; omega
  · intro i h1 h2
    have hi : i < F.size := by simpa using h2
    rw [List.getElem_take]
    simp [putCells, hi, getElem!_pos F i hi]

/-- A row of one's own, its cells laid anew. -/
theorem own_putRow {α : Type} [Inhabited α] (enc : α → List Value) (k : Nat) (hk0 : 0 < k) (hk : ∀ x, (enc x).length = k) {lo E g n cap m : Nat} {w : World} {l l' : List α}
    (h : w.ownsRow lo E k (.slice (some ⟨g, 0, none⟩) n cap) n (l.flatMap enc)) (hn : n = l.length) (hl : l'.length = l.length) :
    (putRowK enc k (Sort.ahead w m) g 0 l'.toArray).ownsRow lo E k (.slice (some ⟨g, 0, none⟩) n cap) n (l'.flatMap enc) ∧ Fr lo [E] w (putRowK enc k (Sort.ahead w m) g 0 l'.toArray) := by
  subst hn
  have hx := h.1
  rcases h.2 with ⟨hh, _⟩ | ⟨g', cap', cur, hh, h1, h2, h3, h4, h5, h6⟩
  · cases hh
  · cases hh
    have hF : (flatK enc k l'.toArray).size = l.length * k := by simp [hl]
    have hle : (flatK enc k l'.toArray).size ≤ cur.size := by rw [hF, h5]; exact Nat.mul_le_mul_right _ h3
    have hheap : ∀ j, (putRowK enc k (Sort.ahead w m) g 0 l'.toArray).heap[j]? = if g = j then (w.heap[j]?).map (onCells (putCells id 0 (flatK enc k l'.toArray))) else w.heap[j]? := fun j => by
      show (w.heap.modify g _)[j]? = _
      rw [Array.getElem?_modify]
    refine ⟨⟨by rw [fm_length enc k hk, hl], .inr ⟨g, cap, putCells id 0 (flatK enc k l'.toArray) cur, rfl, h1, ?_, h3, h4, by simp [putCells, h5], ?_⟩⟩, rfl, rfl, rfl, ?_, fun j o hj hB => ?_⟩
    · rw [hheap, if_pos rfl, h2]; rfl
    · rw [← hF, putCells_take _ _ hle, flatK_list enc k hk0 hk]
    · show w.heap.size ≤ (w.heap.modify g _).size
      simp
    · rw [hheap]
      by_cases e : g = j
      · subst e
        rw [h2] at hj
        cases hj
        rcases hB with hB | hB
        · omega
        · simp [otag] at hB
      · rw [if_neg e]; exact hj

instance : Inhabited Opn := ⟨⟨0, 0, []⟩⟩
instance : Inhabited Ob := ⟨⟨0, [], []⟩⟩

theorem own_holds {α : Type} [Inhabited α] (enc : α → List Value) (k : Nat) (hk0 : 0 < k) (hk : ∀ x, (enc x).length = k) {lo E g n cap : Nat} {w : World} {l : List α}
    (h : w.ownsRow lo E k (.slice (some ⟨g, 0, none⟩) n cap) n (l.flatMap enc)) : HoldsK enc k w g 0 l.toArray := by
  intro j hj
  rw [flatK_list enc k hk0 hk] at hj ⊢
  have hj' : j < (l.flatMap enc).length := by simpa using hj
  rw [Nat.zero_add, h.cellAt j (by rw [← h.1]; exact hj'), h.frozenAt, List.getElem?_eq_getElem hj', getElem!_pos _ _ (by simpa using hj')]
  exact ⟨rfl, rfl⟩

theorem revOp_any {lo : Nat} {w : World} {v : Value} {ops : List Opn} (h : OpsOwn lo w v ops) (hb : ops.length ≤ 1000000000) :
    Calls Tryz.prog 90 #[v] w fun e w' => e = .returned (.tuple #[]) ∧ OpsOwn lo w' v ops.reverse ∧ Fr lo [91] w w' := by
  by_cases hn : ops = []
  · subst hn
    obtain ⟨a, cap, rfl⟩ := own_any h
    refine (AnyQ.slices_Reverse_empty Tryz.reverseOp a cap w).mono ?_
    rintro e w' ⟨rfl, rfl⟩
    exact ⟨rfl, h, Fr.refl _ _ _⟩
  · have hp : 0 < ops.length := List.length_pos_iff.2 hn
    obtain ⟨g, cap, rfl, _⟩ := own_shape h hp
    have hH := own_holds encOp 3 (by decide) (fun _ => rfl) h
    have := AnyQ.slices_Reverse Tryz.reverseOp 3 Tryz.isAgg91 Tryz.sizeOf91 encOp (fun _ => rfl) (fun x => by
      intro u hu
      simp [encOp] at hu
      rcases hu with rfl | rfl | rfl <;> rfl) g 0 cap ops.toArray w hH (by simp; omega)
    refine Calls.mono this ?_
    rintro e w' ⟨rfl, m, rfl⟩
    rw [List.reverse_toArray]
    have ⟨r1, r2⟩ := own_putRow (m := m) encOp 3 (by decide) (fun _ => rfl) h rfl (l' := ops.reverse) (by simp)
    refine ⟨rfl, ?_, r2⟩
    unfold OpsOwn
    rw [List.length_reverse]
    exact r1

end Go.Proofs.YtjgbconlpolddaaGreat
