/- The reference's DeltaMake. -/
import Derived.Test.YtjgbconlpolddaaQPkDelta
set_option linter.unusedVariables false
set_option linter.unusedSimpArgs false
namespace Go.Proofs.Ytjgbconlpolddaa
open Go.RowKit
set_option linter.unusedVariables false

/-- Operations in a row of their own. -/
def OpsOwn (lo : Nat) (w : World) (v : Value) (ops : List Opn) : Prop := w.ownsRow lo 109 3 v ops.length (ops.flatMap encOp)

theorem OpsOwn.reads {lo : Nat} {w : World} {v : Value} {ops : List Opn} (h : OpsOwn lo w v ops) : OpsR (new lo) w v ops := SlR.ofOwns h

theorem OpsOwn.keep {lo B : Nat} {T : List Nat} {w w' : World} {v : Value} {ops : List Opn} (h : OpsOwn lo w v ops) (hf : Fr B T w w') (hT : 109 ∉ T) : OpsOwn lo w' v ops := ownsRow_keep h hf hT
theorem OpsOwn.grow {lo B : Nat} {w w' : World} {v : Value} {ops : List Opn} (h : OpsOwn lo w v ops) (hf : Fr B [] w w') : OpsOwn lo w' v ops := ownsRow_grow h hf

theorem OpsOwn.empty {w : World} {n : Nat} (hn : n = w.heap.size) : OpsOwn n (w.alloc (.cells #[] 109)) (.slice (some ⟨n, 0, none⟩) 0 0) [] := by
  subst hn
  exact World.ownsRow_lit (e := 109) (size := 3) w #[] 0 (Nat.le_refl _) (by decide) rfl

theorem OpsOwn.snoc {lo n : Nat} {w : World} {v : Value} {ops : List Opn} {o : Opn} {news : List Value} (h : w.ownsRow lo 109 3 v (n + 1) (ops.flatMap encOp ++ news)) (hn : n = ops.length) (ho : news = encOp o) : OpsOwn lo w v (ops ++ [o]) := by
  subst hn ho
  unfold OpsOwn
  rw [List.flatMap_append, List.length_append]
  simpa using h

theorem tx_append (a b : Tx) : tx a ++ tx b = tx (a ++ b) := by
  apply ByteArray.ext
  simp [tx]

theorem oneN3 (x y : Int) (s : ByteArray) : ∀ u ∈ [Value.int .i64 x, .int .i64 y, .string s], u.oneCell' = true := by
  intro u hu
  simp at hu
  rcases hu with rfl | rfl | rfl <;> rfl

theorem fmOp_set (init : List Opn) (o : Opn) (x : Tx) : ((init ++ [o]).flatMap encOp).set (init.length * 3 + 2) (.string (tx x)) = (init ++ [(⟨o.pos, o.size, x⟩ : Opn)]).flatMap encOp := by
  have hl := fm_length encOp 3 (fun _ => rfl) init
  rw [List.flatMap_append, List.flatMap_append, List.set_append_right _ _ (by rw [hl]; omega), hl]
  have : init.length * 3 + 2 - init.length * 3 = 2 := by omega
  rw [this]
  simp [encOp]

/-- The last operation of a row, and its text set anew. -/
theorem OpsOwn.last {lo g n cap : Nat} {w : World} {init : List Opn} {o : Opn} (h0 : OpsOwn lo w (.slice (some ⟨g, 0, none⟩) n cap) (init ++ [o])) (hn : n = (init ++ [o]).length) :
    w.cell? ⟨g, init.length * 3 + 1, none⟩ = some (.int .i64 o.size) ∧ w.cell? ⟨g, init.length * 3 + 2, none⟩ = some (.string (tx o.text)) ∧ w.frozen? ⟨g, init.length * 3 + 2, none⟩ = false ∧ lo ≤ g ∧ g < w.heap.size ∧
      ∀ (w1 : World) (x : Tx), Fr w.heap.size [] w w1 → OpsOwn lo (w1.setCell ⟨g, init.length * 3 + 2, none⟩ (.string (tx x))) (.slice (some ⟨g, 0, none⟩) n cap) (init ++ [⟨o.pos, o.size, x⟩]) ∧ Fr lo [109] w1 (w1.setCell ⟨g, init.length * 3 + 2, none⟩ (.string (tx x))) := by
  subst hn
  have h : w.ownsRow lo 109 3 (.slice (some ⟨g, 0, none⟩) (init ++ [o]).length cap) (init ++ [o]).length ((init ++ [o]).flatMap encOp) := h0
  have hl := fm_length encOp 3 (fun _ => rfl) (init ++ [o])
  have hl2 : (init ++ [o]).length = init.length + 1 := by simp
  have hg : ∀ j, j < 3 → ((init ++ [o]).flatMap encOp)[init.length * 3 + j]? = (encOp o)[j]? := fun j hj => by
    have := fm_get encOp 3 (fun _ => rfl) (init ++ [o]) init.length j hj (by simp)
    rw [this]
    simp
  refine ⟨?_, ?_, h.frozenAt _, (h.lt g rfl).1, (h.lt g rfl).2, fun w1 x hf => ?_⟩
  · rw [h.cellAt (init.length * 3 + 1) (by omega), hg 1 (by omega)]; rfl
  · rw [h.cellAt (init.length * 3 + 2) (by omega), hg 2 (by omega)]; rfl
  · have h2' := ownsRow_grow h hf
    have ⟨st1, _⟩ := h2'.stored (init.length * 3 + 2) (.string (tx x))
    rw [fmOp_set] at st1
    obtain ⟨cur, hcur⟩ : ∃ cur, w1.heap[g]? = some (.cells cur 109 (0, 0)) := by
      rcases h2'.2 with ⟨hh, _⟩ | ⟨g', cap', cur, hh, _, hc, _⟩
      · cases hh
      · cases hh; exact ⟨cur, hc⟩
    refine ⟨?_, (Fr.refl lo [109] w1).setOld (p := ⟨g, init.length * 3 + 2, none⟩) hcur ((h.lt g rfl).1) (by simp [otag]) _⟩
    unfold OpsOwn
    rw [show (init ++ [(⟨o.pos, o.size, x⟩ : Opn)]).length = (init ++ [o]).length by simp]
    exact st1

set_option maxRecDepth 20000 in
set_option maxHeartbeats 4000000 in
theorem specDeltaMake_any (b t : Tx) (w : World) :
    Calls Try.prog 44 #[.string (tx b), .string (tx t)] w fun e w' => ∃ v, e = .returned v ∧ OpsOwn w.heap.size w' v (delta b t) ∧ Fr w.heap.size [] w w' := by
  have hsb := tx_size b
  have hst := tx_size t
  obtain ⟨iop, hpi, hpz0, hpz1, hpz2⟩ := info_parts infoOp
  have E0 := hid (OpsOwn.empty (w := w) rfl)
  by_cases hb : b.length ≤ 8
  · by_cases ht : t.length ≤ 8
    · have ib : (b.length : Int) ≤ 8 := by omega
      have it : (t.length : Int) ≤ 8 := by omega
      go_enter Try.func44, Try.ntmps44
      go_wp2
      go_loopw [1, 5] (fun vt vo wx => ∃ (l : Tx) (ops : List Opn), vt = .string (tx l) ∧ DRel b t ops l ∧ OpsOwn w.heap.size wx vo ops ∧ Fr w.heap.size [] w wx) (fun vt _ _ => match vt with | .string s => s.size | _ => 0)
      case atStart => exact ⟨t, [], rfl, DRel.start hb ht, E0.out, (Fr.refl _ _ _).alloc _⟩
      case round =>
        obtain ⟨l, ops, rfl, hrel, hown, hfr⟩ := hrel
        have hsl := tx_size l
        have REL := hid hrel
        have OWN := hid hown
        have hl2 := hrel.2.1
        have hls := hfr.size
        obtain ⟨oa, ocap, rfl⟩ := own_any hown
        clear hrel hown
        by_cases hl : l = []
        · subst hl
          have HD := hid REL.out.done
          go_wp2
          go_ret
          exact ⟨_, rfl, by rw [← HD.out]; exact OWN.out, hfr⟩
        · have hlp : 0 < l.length := List.length_pos_iff.2 hl
          have ilp : (0 : Int) < (l.length : Int) := by omega
          have hbl := best_le b l
          by_cases h2 : 2 ≤ (best b l).2
          · have i2 : (2 : Int) ≤ ((best b l).2 : Int) := by omega
            have i3 : ((best b l).2 : Int) ≤ (l.length : Int) := by omega
            have hex : (tx l).extract (best b l).2 l.length = tx (l.drop (best b l).2) := by
              rw [tx_extract, List.take_of_length_le (by simp)]
            have N1 := hid (REL.out.one hl h2)
            go_wp2_with (first
              | (go_at_call 80; go_must (refine (l2Longest_any b l _ hb (by omega)).mono ?_; rintro e w1 ⟨rfl, fr1⟩; have OWN1 := hid (OWN.out.grow fr1); have F1 := hid (hfr.trans fr1.nil); have hs1 := F1.out.size; clear fr1))
              | ((at_builtin; go_must (refine wpList_push rfl (.tmp 40) (.tmp 44) 30 rfl w.heap.size 109 iop (.agg #[.int .i64 0, .int .i64 0, .string ⟨#[]⟩]) 3 32 Try.underlying30 hpi hpz0 hpz1 hpz2 rfl (by decide) _ _ _ (show w1.ownsRow w.heap.size 109 3 (.slice oa ops.length ocap) ops.length (ops.flatMap encOp) from OWN1.out) rfl (oneN3 _ _ _) (by unfold maxLen; omega) (by omega) (by omega) (by rfl) _ (by rfl) (by simp [World.setCell]) ?_; intro v4 w4 own4 fr4 _)); go_must (have OWN4 := hid (OpsOwn.snoc (o := ⟨(best b l).1, (best b l).2, []⟩) own4 rfl rfl); have F4 := hid (F1.out.after fr4); clear own4 fr4)))
            go_roundw
            case rel => exact ⟨_, _, rfl, N1.out, OWN4.out, F4.out⟩
            case measure => simp [tx_size]; omega
          · have i2 : ¬ (2 : Int) ≤ ((best b l).2 : Int) := by omega
            have hex : (tx l).extract 1 l.length = tx (l.drop 1) := by rw [tx_extract, List.take_of_length_le (by simp)]
            have hex1 : (tx l).extract 0 1 = tx (l.take 1) := by rw [tx_extract]; simp
            have i3 : (1 : Int) ≤ (l.length : Int) := by omega
            have hdt : l.drop 1 = l.tail := List.drop_one
            rcases List.eq_nil_or_concat ops with rfl | ⟨init, o, rfl⟩
            · have N1 := hid (REL.out.three hl h2 (fun init o e => by simp at e))
              go_wp2_with (first
                | (go_at_call 80; go_must (refine (l2Longest_any b l _ hb (by omega)).mono ?_; rintro e w1 ⟨rfl, fr1⟩; have OWN1 := hid (OWN.out.grow fr1); have F1 := hid (hfr.trans fr1.nil); have hs1 := F1.out.size; clear fr1))
                | ((at_builtin; go_must (refine wpList_push rfl (.tmp 31) (.tmp 35) 30 rfl w.heap.size 109 iop (.agg #[.int .i64 0, .int .i64 0, .string ⟨#[]⟩]) 3 32 Try.underlying30 hpi hpz0 hpz1 hpz2 rfl (by decide) _ _ _ (show w1.ownsRow w.heap.size 109 3 (.slice oa 0 ocap) 0 [] from OWN1.out) rfl (oneN3 _ _ _) (by unfold maxLen; omega) (by omega) (by omega) (by rfl) _ (by rfl) (by simp [World.setCell]) ?_; intro v4 w4 own4 fr4 _)); go_must (have OWN4 := hid (OpsOwn.snoc (ops := []) (o := ⟨0, 0, l.take 1⟩) own4 rfl rfl); have F4 := hid (F1.out.after fr4); clear own4 fr4)))
              go_roundw
              case rel => exact ⟨_, _, rfl, (by rw [← hdt]; exact N1.out), OWN4.out, F4.out⟩
              case measure => simp [tx_size]; omega
            · rw [List.concat_eq_append] at *
              obtain ⟨g, gcap, hg, _⟩ := own_shape OWN.out (by simp)
              cases hg
              have hlen : (init ++ [o]).length = init.length + 1 := by simp
              by_cases h0 : o.size = 0
              · have N1 := hid (REL.out.two hl h2 h0)
                have h0' : (o.size == 0) = true := by simp [h0]
                go_wp2_with (first
                  | (go_at_call 80; go_must (refine (l2Longest_any b l _ hb (by omega)).mono ?_; rintro e w1 ⟨rfl, fr1⟩; have OWN1 := hid (OWN.out.grow fr1); have F1 := hid (hfr.trans fr1.nil); have hs1 := F1.out.size; obtain ⟨q1, q2, q3, q4, q5, q6⟩ := OWN1.out.last rfl; have Q6 := hid q6; clear fr1 q6)))
                have happ : tx o.text ++ tx (l.take 1) = tx (o.text ++ l.take 1) := tx_append _ _
                have hto := REL.out.2.2 o (by simp)
                have hso := tx_size o.text
                have hs1t : (tx (l.take 1)).size = 1 := by rw [tx_size, List.length_take]; omega
                have hsum : o.text.length + 1 ≤ 9223372036854775807 := by omega
                go_region
                all_goals go_wp2
                all_goals
                  have ⟨r1, r2⟩ := Q6.out w1 (o.text ++ l.take 1) (Fr.refl _ [] w1)
                  rw [h0, hlen] at r1
                  go_roundw
                  case rel => exact ⟨_, _, rfl, (by rw [← hdt]; exact N1.out), r1.grow (Fr.refl 0 [] _).drew, (F1.out.after r2).drew⟩
                  case measure => simp [tx_size]; omega
              · have N1 := hid (REL.out.three hl h2 (fun i x e => by
                  have := List.append_inj' e rfl
                  simp at this
                  rw [← this.2]; exact h0))
                have h0' : (o.size == 0) = false := by simp [h0]
                go_wp2_with (first
                  | (go_at_call 80; go_must (refine (l2Longest_any b l _ hb (by omega)).mono ?_; rintro e w1 ⟨rfl, fr1⟩; have OWN1 := hid (OWN.out.grow fr1); have F1 := hid (hfr.trans fr1.nil); have hs1 := F1.out.size; obtain ⟨q1, q2, q3, q4, q5, q6⟩ := OWN1.out.last rfl; clear fr1 q6))
                  | ((at_builtin; go_must (refine wpList_push rfl (.tmp 31) (.tmp 35) 30 rfl w.heap.size 109 iop (.agg #[.int .i64 0, .int .i64 0, .string ⟨#[]⟩]) 3 32 Try.underlying30 hpi hpz0 hpz1 hpz2 rfl (by decide) _ _ _ (show w1.ownsRow w.heap.size 109 3 (.slice (some ⟨g, 0, none⟩) (init.length + 1) ocap) (init.length + 1) ((init ++ [o]).flatMap encOp) from by rw [← hlen]; exact OWN1.out) rfl (oneN3 _ _ _) (by unfold maxLen; omega) (by omega) (by omega) (by rfl) _ (by rfl) (by simp [World.setCell]) ?_; intro v4 w4 own4 fr4 _)); go_must (have OWN4 := hid (OpsOwn.snoc (o := ⟨0, 0, l.take 1⟩) own4 hlen.symm rfl); have F4 := hid (F1.out.after fr4); clear own4 fr4)))
                go_roundw
                case rel => exact ⟨_, _, rfl, (by rw [← hdt]; exact N1.out), OWN4.out, F4.out⟩
                case measure => simp [tx_size]; omega
    · have it : ¬ (t.length : Int) ≤ 8 := by omega
      have it2 : (8 : Int) < (t.length : Int) := by omega
      have hd : delta b t = [] := by unfold delta; rw [if_neg (fun h => ht h.2)]
      go_enter Try.func44, Try.ntmps44
      go_wp2
      all_goals
        go_ret
        exact ⟨_, rfl, (by first | exact E0.out | (rw [hd]; exact E0.out)), (Fr.refl _ _ _).alloc _⟩
  · have ib : ¬ (b.length : Int) ≤ 8 := by omega
    have ib2 : (8 : Int) < (b.length : Int) := by omega
    have hd : delta b t = [] := by unfold delta; rw [if_neg (fun h => hb h.1)]
    go_enter Try.func44, Try.ntmps44
    go_wp2
    all_goals
      go_ret
      exact ⟨_, rfl, (by first | exact E0.out | (rw [hd]; exact E0.out)), (Fr.refl _ _ _).alloc _⟩

end Go.Proofs.Ytjgbconlpolddaa
