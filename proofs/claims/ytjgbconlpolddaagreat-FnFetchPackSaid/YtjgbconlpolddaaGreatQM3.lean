/- The longest part of a base with which a text begins: plain laws; the program's walk, the reference's walk. -/
import Derived.Test.YtjgbconlpolddaaGreatQPkSmall
import Derived.Test.YtjgbconlpolddaaGreatQShelf
import Derived.Lib.IndexMore
import Derived.Lib.ConvBytes
import Derived.WalkSpells
set_option linter.unusedVariables false
set_option linter.unusedSimpArgs false
namespace Go.Proofs.YtjgbconlpolddaaGreat
open Go.RowKit
set_option linter.unusedVariables false

theorem pre_le_left : ∀ (a t : Tx), pre a t ≤ a.length
  | [], _ => by simp [pre]
  | _ :: _, [] => by simp [pre]
  | x :: a, y :: t => by
    unfold pre
    split
    · have := pre_le_left a t; simp; omega
    · simp

theorem pre_le_right : ∀ (a t : Tx), pre a t ≤ t.length
  | [], _ => by simp [pre]
  | _ :: _, [] => by simp [pre]
  | x :: a, y :: t => by
    unfold pre
    split
    · have := pre_le_right a t; simp; omega
    · simp

/-- n bytes of t begin a just where n is at most how many do. -/
theorem pre_iff : ∀ (n : Nat) (a t : Tx), n ≤ t.length → ((t.take n).isPrefixOf a = true ↔ n ≤ pre a t)
  | 0, a, t, _ => by simp
  | n + 1, a, [], h => by simp at h
  | n + 1, [], y :: t, h => by simp [pre]
  | n + 1, x :: a, y :: t, h => by
    have ih := pre_iff n a t (by simpa using h)
    rw [List.take_succ_cons]
    unfold pre
    by_cases e : x = y
    · subst e
      simp only [List.isPrefixOf_cons_cons, beq_self_eq_true, Bool.true_and, if_true]
      rw [ih]
      omega
    · have e' : (y == x) = false := by simp [Ne.symm e]
      simp [List.isPrefixOf_cons_cons, e, e']

/-- What the longest part is: none, or its place is the first of the greatest size. -/
theorem bestTo_spec (b t : Tx) : ∀ k, (∀ i, i < k → pre (b.drop i) t ≤ (bestTo b t k).2) ∧
    ((bestTo b t k = (0, 0)) ∨ (0 < (bestTo b t k).2 ∧ (bestTo b t k).1 < k ∧ pre (b.drop (bestTo b t k).1) t = (bestTo b t k).2 ∧ ∀ j, j < (bestTo b t k).1 → pre (b.drop j) t < (bestTo b t k).2)) := by
  intro k
  induction k with
  | zero => exact ⟨fun i hi => absurd hi (Nat.not_lt_zero _), .inl rfl⟩
  | succ k ih =>
    obtain ⟨h1, h2⟩ := ih
    unfold bestTo
    split
    · rename_i hlt
      refine ⟨fun i hi => ?_, .inr ⟨by dsimp only; omega, by dsimp only; omega, rfl, fun j hj => ?_⟩⟩
      · by_cases e : i = k
        · subst e; exact Nat.le_refl _
        · exact Nat.le_trans (h1 i (by omega)) (by dsimp only; omega)
      · have := h1 j hj
        dsimp only; omega
    · rename_i hge
      refine ⟨fun i hi => ?_, ?_⟩
      · by_cases e : i = k
        · subst e; omega
        · exact h1 i (by omega)
      · rcases h2 with h2 | ⟨g1, g2, g3, g4⟩
        · exact .inl h2
        · exact .inr ⟨g1, by omega, g3, g4⟩

theorem best_none {b t : Tx} (h : ∀ i, i < b.length → pre (b.drop i) t ≤ 0) : best b t = (0, 0) := by
  rcases (bestTo_spec b t b.length).2 with h2 | ⟨g1, g2, g3, g4⟩
  · exact h2
  · have := h _ g2
    omega

theorem best_at {b t : Tx} {i s : Nat} (hi : i < b.length) (hs : 0 < s) (hle : ∀ j, j < b.length → pre (b.drop j) t ≤ s) (heq : s ≤ pre (b.drop i) t) (hlt : ∀ j, j < i → pre (b.drop j) t < s) : best b t = (i, s) := by
  obtain ⟨h1, h2⟩ := bestTo_spec b t b.length
  have e1 : pre (b.drop i) t ≤ (best b t).2 := h1 i hi
  rcases h2 with h2 | ⟨g1, g2, g3, g4⟩
  · have : (best b t).2 = 0 := by unfold best; rw [h2]
    omega
  · have e2 : (best b t).2 ≤ s := by
      show (bestTo b t b.length).2 ≤ s
      rw [← g3]; exact hle _ g2
    have e3 : (best b t).2 = s := by omega
    have e4 : (best b t).1 = i := by
      rcases Nat.lt_trichotomy (best b t).1 i with h | h | h
      · have h5 := hlt _ h
        have h6 : pre (b.drop (best b t).1) t = (best b t).2 := g3
        omega
      · exact h
      · have := g4 i h
        have h7 : pre (b.drop i) t < (best b t).2 := this
        omega
    exact Prod.ext e4 e3

end Go.Proofs.YtjgbconlpolddaaGreat

/- Whether an object is valid; its id. -/
namespace Go.Proofs.YtjgbconlpolddaaGreat
open Go.RowKit
set_option linter.unusedVariables false

theorem tx_list (t : Tx) : (tx t).toList = t := by rw [Lib.toList_data, tx_data]

set_option maxRecDepth 20000 in
set_option maxHeartbeats 2000000 in
theorem ok_any (K : Nat → Bool → Prop) (v : Value) (o : Ob) (w : World) (hv : IntsR K w v o.links) (hb : o.links.length ≤ 1000000000) :
    Calls Tryz.prog 38 #[.agg #[.int .i64 o.kind, v, .string (tx o.text)]] w fun e w' => e = .returned (.bool (obOk o)) ∧ Fr w.heap.size [] w w' := by
  obtain ⟨a, cap, rfl, hcap, -⟩ := hv.shape
  have HV := hid hv
  have hsz := tx_size o.text
  clear hv
  have F0 := hid ((Fr.refl w.heap.size [] w).alloc (.cells #[.int .i64 o.kind, .slice a o.links.length cap, .string (tx o.text)] 37))
  have B0 := hid (heap_alloc_new w (.cells #[.int .i64 o.kind, .slice a o.links.length cap, .string (tx o.text)] 37))
  cases gi : (asc o.links && decide (o.links.length ≤ 4))
  all_goals have GI := hid gi
  all_goals clear gi
  all_goals
   go_enter Tryz.func38, Tryz.ntmps38
   go_wp2_with (go_at_call 26; go_must (refine (idsOk_any K _ _ _ (HV.out.grow F0.out) hb).mono ?_; rintro e w1 ⟨rfl, fr1⟩; rw [GI.out]; have B1 := hid (fr1.keep _ _ B0.out (.inr (by simp))); have F1 := hid (F0.out.trans fr1.nil); have c0 := cell_of (o := 0) B1.out rfl; have c1 := cell_of (o := 1) B1.out rfl; have c2 := cell_of (o := 2) B1.out rfl; clear fr1))
  all_goals go_ret
  all_goals refine ⟨ret_bool ?_, F1.out⟩
  all_goals clear F0 B0 B1 F1 c0 c1 c2 HV hcap
  all_goals rw [Bool.eq_iff_iff]
  all_goals have gi := GI.out
  all_goals clear GI
  all_goals unfold obOk kindOk
  all_goals simp_all [tx_list, bne]
  all_goals try omega
  all_goals (intro h1 h2; exact absurd (gi h1) (by omega))

set_option maxRecDepth 20000 in
set_option maxHeartbeats 2000000 in
theorem objectValid_any (K : Nat → Bool → Prop) (v : Value) (o : Ob) (w : World) (hv : IntsR K w v o.links) (hb : o.links.length ≤ 1000000000) :
    Calls Tryz.prog 56 #[.agg #[.int .i64 o.kind, v, .string (tx o.text)]] w fun e w' => e = .returned (.bool (obOk o)) ∧ Fr w.heap.size [] w w' := by
  obtain ⟨a, cap, rfl, hcap, -⟩ := hv.shape
  have HV := hid hv
  have hsz := tx_size o.text
  clear hv
  have F0 := hid ((Fr.refl w.heap.size [] w).alloc (.cells #[.int .i64 o.kind, .slice a o.links.length cap, .string (tx o.text)] 37))
  have B0 := hid (heap_alloc_new w (.cells #[.int .i64 o.kind, .slice a o.links.length cap, .string (tx o.text)] 37))
  cases gi : asc o.links
  all_goals have GI := hid gi
  all_goals clear gi
  all_goals
   go_enter Tryz.func56, Tryz.ntmps56
   go_wp2_with (go_at_call 78; go_must (refine (l1Ids_any K _ _ _ (HV.out.grow F0.out) hb).mono ?_; rintro e w1 ⟨rfl, fr1⟩; rw [GI.out]; have B1 := hid (fr1.keep _ _ B0.out (.inr (by simp))); have F1 := hid (F0.out.trans fr1.nil); have c0 := cell_of (o := 0) B1.out rfl; have c1 := cell_of (o := 1) B1.out rfl; have c2 := cell_of (o := 2) B1.out rfl; clear fr1))
  all_goals go_ret
  all_goals refine ⟨ret_bool ?_, F1.out⟩
  all_goals clear F0 B0 B1 F1 c0 c1 c2 HV hcap
  all_goals rw [Bool.eq_iff_iff]
  all_goals have gi := GI.out
  all_goals clear GI
  all_goals unfold obOk kindOk
  all_goals simp_all [tx_list, bne]
  all_goals try omega

end Go.Proofs.YtjgbconlpolddaaGreat

/- The id of a valid object, program and reference. -/
namespace Go.Proofs.YtjgbconlpolddaaGreat
open Go.RowKit
set_option linter.unusedVariables false

theorem Fr.bytesWorld {B : Nat} {T : List Nat} {a w : World} (h : Fr B T a w) (e : TypeId) (s : ByteArray) : Fr B T a (Lib.bytesWorld w e s) := by
  have hs := Lib.bytesWorld_size w e s
  refine h.trans ⟨?_, ?_, ?_, by omega, fun k o hk _ => by rw [Lib.bytesWorld_at_old w e s k (lt_of_get hk)]; exact hk⟩
  all_goals
    unfold Lib.bytesWorld World.freeze
    split
    · rfl
    · rfl

set_option maxRecDepth 20000 in
set_option maxHeartbeats 2000000 in
theorem id_any (K : Nat → Bool → Prop) (v : Value) (o : Ob) (w : World) (hv : IntsR K w v o.links) (hok : obOk o = true) :
    Calls Tryz.prog 39 #[.agg #[.int .i64 o.kind, v, .string (tx o.text)]] w fun e w' => e = .returned (.int .i64 (oid o)) ∧ Fr w.heap.size [] w w' := by
  obtain ⟨a, cap, rfl, hcap, hcell⟩ := hv.shape
  have hsz := tx_size o.text
  have hkd := obOk_kind hok
  have hln := obOk_len hok
  have OK := hid hok
  clear hv hok
  have F0 := hid ((Fr.refl w.heap.size [] w).alloc (.cells #[.int .i64 o.kind, .slice a o.links.length cap, .string (tx o.text)] 37))
  have B0 := hid (heap_alloc_new w (.cells #[.int .i64 o.kind, .slice a o.links.length cap, .string (tx o.text)] 37))
  go_enter Tryz.func39, Tryz.ntmps39
  go_wp2
  go_loopw [3, 18] (fun n i wr => ∃ k : Nat, k ≤ o.links.length ∧ i = .int .i64 k ∧ n = .int .i64 (idL o k) ∧ wr.heap[w.heap.size]? = some (.cells #[.int .i64 o.kind, .slice a o.links.length cap, .string (tx o.text)] 37 (0, 0)) ∧ Fr w.heap.size [] w wr) (fun _ i _ => o.links.length - (intOf i).toNat)
  case atStart => exact ⟨0, Nat.zero_le _, rfl, rfl, B0.out, F0.out⟩
  case round =>
    obtain ⟨k, hk, rfl, rfl, b0, hfr⟩ := hrel
    have B1 := hid b0
    have c0 := cell_of (o := 0) b0 rfl
    have c1 := cell_of (o := 1) b0 rfl
    have c2 := cell_of (o := 2) b0 rfl
    have hn := idL_in OK.out k
    clear b0
    by_cases hlt : k < o.links.length
    · rcases hcell with hh | ⟨b, off, rfl, hbs, hcell⟩
      · rw [hh] at hlt; cases hlt
      · have d0 := hfr.cell hbs (hcell k hlt)
        have hl := obOk_link OK.out k hlt
        have HS := hid (idL_succ hlt)
        have hki : (k : Int) < (o.links.length : Int) := by omega
        have hm : (idL o k * 613 + o.links[k] + 1).tmod 991 = (idL o k * 613 + o.links[k] + 1) % 991 := Int.tmod_eq_emod_of_nonneg (by omega)
        clear hcell
        go_wp2
        go_roundw
        case rel => exact ⟨k + 1, by omega, by go_num, by rw [HS.out], B1.out, hfr⟩
        case measure => simp [intOf]; omega
    · obtain rfl : k = o.links.length := by omega
      clear hcell
      obtain ⟨W1, hW1⟩ : ∃ W1, W1 = Lib.bytesWorld wr 5 (tx o.text) := ⟨_, rfl⟩
      have hcv := Lib.run_convert_string_bytes (P := Tryz.prog) wr 9 22 5 (tx o.text) (u := .string) Tryz.underlying9 Tryz.underlying22 Tryz.underlying5
      rw [← hW1] at hcv
      have F1 := hid (show Fr w.heap.size [] w W1 by rw [hW1]; exact hfr.bytesWorld _ _)
      have BY := hid (show ∀ j (hj : j < o.text.length), W1.cell? ⟨wr.heap.size, j, none⟩ = some (.int .u8 ((o.text[j].toNat : Nat) : Int)) from fun j hj => by
        have := Lib.bytesWorld_cell wr 5 (tx o.text) j (by rw [tx_size]; exact hj)
        rw [← hW1, tx_data, List.getD_eq_getElem?_getD, List.getElem?_eq_getElem hj] at this
        exact this)
      have hlt1 : wr.heap.size < W1.heap.size := by
        rw [hW1, Lib.bytesWorld_size]; omega
      clear hW1
      generalize grownCap wr (tx o.text).size 0 5 = gc at hcv
      generalize hg : wr.heap.size = g at *
      go_wp2
      go_loopw [3, 33] (fun n i wx => ∃ k : Nat, k ≤ o.text.length ∧ i = .int .i64 k ∧ n = .int .i64 (idT o k) ∧ wx = W1) (fun _ i _ => o.text.length - (intOf i).toNat)
      case atStart => exact ⟨0, Nat.zero_le _, rfl, rfl, rfl⟩
      case round =>
        obtain ⟨k, hk, rfl, rfl, rfl⟩ := hrel
        have hn := idT_in OK.out k
        by_cases hlt : k < o.text.length
        · have HS := hid (idT_succ hlt)
          have hki : (k : Int) < (o.text.length : Int) := by omega
          have hby : (o.text[k].toNat : Int) < 256 := by have := o.text[k].toNat_lt; omega
          have hm : (idT o k * 257 + (o.text[k].toNat : Int) + 1).tmod 991 = (idT o k * 257 + (o.text[k].toNat : Int) + 1) % 991 := Int.tmod_eq_emod_of_nonneg (by omega)
          have dk := BY.out k hlt
          go_wp2
          go_roundw
          case rel => exact ⟨k + 1, by omega, by go_num, by rw [HS.out], (by first | rfl | trivial)⟩
          case measure => simp [intOf]; omega
        · obtain rfl : k = o.text.length := by omega
          go_wp2
          go_ret
          exact ⟨rfl, F1.out⟩

set_option maxRecDepth 20000 in
set_option maxHeartbeats 2000000 in
theorem l1Of_any (K : Nat → Bool → Prop) (v : Value) (o : Ob) (w : World) (hv : IntsR K w v o.links) (hok : obOk o = true) :
    Calls Tryz.prog 55 #[.agg #[.int .i64 o.kind, v, .string (tx o.text)]] w fun e w' => e = .returned (.int .i64 (oid o)) ∧ Fr w.heap.size [] w w' := by
  obtain ⟨a, cap, rfl, hcap, hcell⟩ := hv.shape
  have hsz := tx_size o.text
  have hkd := obOk_kind hok
  have hln := obOk_len hok
  have OK := hid hok
  clear hv hok
  have F0 := hid ((Fr.refl w.heap.size [] w).alloc (.cells #[.int .i64 o.kind, .slice a o.links.length cap, .string (tx o.text)] 37))
  have B0 := hid (heap_alloc_new w (.cells #[.int .i64 o.kind, .slice a o.links.length cap, .string (tx o.text)] 37))
  go_enter Tryz.func55, Tryz.ntmps55
  go_wp2
  go_loopw [3, 4] (fun n i wr => ∃ k : Nat, k ≤ o.links.length ∧ i = .int .i64 k ∧ n = .int .i64 (idL o k) ∧ wr.heap[w.heap.size]? = some (.cells #[.int .i64 o.kind, .slice a o.links.length cap, .string (tx o.text)] 37 (0, 0)) ∧ Fr w.heap.size [] w wr) (fun _ i _ => o.links.length - (intOf i).toNat)
  case atStart => exact ⟨0, Nat.zero_le _, rfl, rfl, B0.out, F0.out⟩
  case round =>
    obtain ⟨k, hk, rfl, rfl, b0, hfr⟩ := hrel
    have B1 := hid b0
    have c0 := cell_of (o := 0) b0 rfl
    have c1 := cell_of (o := 1) b0 rfl
    have c2 := cell_of (o := 2) b0 rfl
    have hn := idL_in OK.out k
    clear b0
    by_cases hlt : k < o.links.length
    · rcases hcell with hh | ⟨b, off, rfl, hbs, hcell⟩
      · rw [hh] at hlt; cases hlt
      · have d0 := hfr.cell hbs (hcell k hlt)
        have hl := obOk_link OK.out k hlt
        have HS := hid (idL_succ hlt)
        have hki : (k : Int) < (o.links.length : Int) := by omega
        have hm : (idL o k * 613 + o.links[k] + 1).tmod 991 = (idL o k * 613 + o.links[k] + 1) % 991 := Int.tmod_eq_emod_of_nonneg (by omega)
        clear hcell
        go_wp2
        go_roundw
        case rel => exact ⟨k + 1, by omega, by go_num, by rw [HS.out, Int.mul_comm 613], B1.out, hfr⟩
        case measure => simp [intOf]; omega
    · obtain rfl : k = o.links.length := by omega
      clear hcell
      go_wp2
      go_loopw [3, 5] (fun n i wx => ∃ k : Nat, k ≤ o.text.length ∧ i = .int .i64 k ∧ n = .int .i64 (idT o k) ∧ wx.heap[w.heap.size]? = some (.cells #[.int .i64 o.kind, .slice a o.links.length cap, .string (tx o.text)] 37 (0, 0)) ∧ Fr w.heap.size [] w wx) (fun _ i _ => o.text.length - (intOf i).toNat)
      case atStart => exact ⟨0, Nat.zero_le _, rfl, rfl, B1.out, hfr⟩
      case round =>
        obtain ⟨k, hk, rfl, rfl, b0, hfr⟩ := hrel
        have hn := idT_in OK.out k
        have B2 := hid b0
        have c2 := cell_of (o := 2) b0 rfl
        clear b0
        by_cases hlt : k < o.text.length
        · have HS := hid (idT_succ hlt)
          have hki : (k : Int) < (o.text.length : Int) := by omega
          have hby : (o.text[k].toNat : Int) < 256 := by have := o.text[k].toNat_lt; omega
          have hm : (idT o k * 257 + (o.text[k].toNat : Int) + 1).tmod 991 = (idT o k * 257 + (o.text[k].toNat : Int) + 1) % 991 := Int.tmod_eq_emod_of_nonneg (by omega)
          have hgt : (tx o.text)[k]'(by rw [tx_size]; exact hlt) = o.text[k] := rfl
          go_wp2
          go_roundw
          case rel => exact ⟨k + 1, by omega, by go_num, by rw [HS.out, Int.mul_comm 257], B2.out, hfr⟩
          case measure => simp [intOf]; omega
        · obtain rfl : k = o.text.length := by omega
          have hfin : (idT o o.text.length).tmod 991 = idT o o.text.length := by rw [Int.tmod_eq_emod_of_nonneg hn.1]; omega
          go_wp2
          go_ret
          exact ⟨rfl, hfr⟩

end Go.Proofs.YtjgbconlpolddaaGreat

/- Facts of the element types; a clone of integers; whether all objects are valid. -/
namespace Go.Proofs.YtjgbconlpolddaaGreat
open Go.RowKit
set_option linter.unusedVariables false

theorem infoI : (Tryz.prog.info? 3).map (fun i => (i.zero, i.size, i.bytes)) = some (some (.int .i64 0), 1, 8) := by kernel_rfl
theorem infoOp : (Tryz.prog.info? 91).map (fun i => (i.zero, i.size, i.bytes)) = some (some (.agg #[.int .i64 0, .int .i64 0, .string ⟨#[]⟩]), 3, 32) := by kernel_rfl
theorem infoOb : (Tryz.prog.info? 37).map (fun i => (i.zero, i.size, i.bytes)) = some (some (.agg #[.int .i64 0, .slice none 0 0, .string ⟨#[]⟩]), 3, 48) := by kernel_rfl
theorem infoEn : (Tryz.prog.info? 50).map (fun i => (i.zero, i.size, i.bytes)) = some (some (.agg #[.int .i64 0, .slice none 0 0, .int .i64 0, .slice none 0 0]), 4, 64) := by kernel_rfl
theorem infoPp : (Tryz.prog.info? 67).map (fun i => (i.zero, i.size, i.bytes)) = some (some (.pointer none), 1, 8) := by kernel_rfl

theorem oneI (l : List Int) : ∀ u ∈ l.map (Value.int .i64), u.oneCell' = true := by
  intro u hu
  obtain ⟨x, _, rfl⟩ := List.mem_map.1 hu
  rfl

theorem oneOp (l : List Opn) : ∀ u ∈ l.flatMap encOp, u.oneCell' = true := by
  intro u hu
  obtain ⟨x, _, hx⟩ := List.mem_flatMap.1 hu
  simp [encOp] at hx
  rcases hx with rfl | rfl | rfl <;> rfl

theorem SlR.one {K : Nat → Bool → Prop} {E sz n : Nat} {w : World} {v : Value} {cs : List Value} (h : SlR K E sz w v n cs) : v.oneCell' = true := by
  obtain ⟨a, cap, rfl, _⟩ := h
  rfl

set_option maxRecDepth 20000 in
set_option maxHeartbeats 1000000 in
theorem cloneI_any (K : Nat → Bool → Prop) (E' : Nat) (v : Value) (n : Nat) (cs : List Value) (w : World) (hv : SlR K E' 1 w v n cs) (h1 : ∀ u ∈ cs, u.oneCell' = true) (hn : n ≤ 1000000000) :
    Calls Tryz.prog 36 #[v] w fun e w' => ∃ v', e = .returned v' ∧ w'.ownsRow w.heap.size 3 1 v' n cs ∧ Fr w.heap.size [] w w' := by
  obtain ⟨a, cap, rfl, h2, h3, h4, h5⟩ := id hv
  obtain ⟨iu, hui, huz0, huz1, huz2⟩ := info_parts infoI
  have heq := fun (w : World) (a : Option Addr) (n c : Nat) => Lib.run_eql_slice_nil (P := Tryz.prog) w 24 3 a n c 0 0 Tryz.underlying24
  have HV := hid hv
  clear hv h5
  cases a with
  | none =>
    obtain ⟨rfl, rfl⟩ := h4 rfl
    have hcs : cs = [] := List.eq_nil_of_length_eq_zero (by simpa using h2)
    subst hcs
    clear h4 h2
    go_enter Tryz.func36, Tryz.ntmps36
    go_wp2
    go_ret
    exact ⟨_, rfl, World.ownsRow_nil _ _ _ _, Fr.refl _ _ _⟩
  | some ad =>
    have H2 := hid h2
    clear h4 h2
    go_enter Tryz.func36, Tryz.ntmps36
    go_wp2_with (at_builtin; go_must (refine wpList_clone rfl (.tmp 5) (.tmp 6) 24 rfl 3 iu (.int .i64 0) 1 8 Tryz.underlying24 hui huz0 huz1 huz2 rfl (by decide) _ (by rfl) (by simp [World.setCell]) K E' _ _ _ (by rfl) HV.out h1 (by unfold maxLen; omega) (by omega) ?_; intro v2 w2 own2 fr2))
    go_ret
    exact ⟨_, rfl, own2, fr2⟩

set_option maxRecDepth 20000 in
set_option maxHeartbeats 1000000 in
theorem notOk_any (K : Nat → Bool → Prop) (v : Value) (o : Ob) (w : World) (hv : IntsR K w v o.links) (hb : o.links.length ≤ 1000000000) :
    Calls Tryz.prog 48 #[.agg #[.int .i64 o.kind, v, .string (tx o.text)]] w fun e w' => e = .returned (.bool (!obOk o)) ∧ Fr w.heap.size [] w w' := by
  obtain ⟨a, cap, rfl, hcap, -⟩ := hv.shape
  have HV := hid hv
  clear hv
  go_enter Tryz.func48, Tryz.ntmps48
  go_wp2_with (go_at_call 38; go_must (refine (ok_any K _ o _ (HV.out.grow ((Fr.refl 0 [] w).alloc (.cells #[.int .i64 o.kind, .slice a o.links.length cap, .string (tx o.text)] 37))) hb).mono ?_; rintro e w1 ⟨rfl, fr1⟩))
  go_ret
  exact ⟨rfl, ((Fr.refl w.heap.size [] w).alloc _).trans fr1.nil⟩

/-- Objects whose lists are not too long. -/
def ObsB (os : List Ob) : Prop := os.length ≤ 1000000000 ∧ ∀ o ∈ os, o.links.length ≤ 1000000000

set_option maxRecDepth 20000 in
set_option maxHeartbeats 1000000 in
theorem indexFunc_any (K : Nat → Bool → Prop) (v : Value) (os : List Ob) (w : World) (hv : ObsR K w v os) (hb : ObsB os) (f : Value) (hf : f = .func (.func 48) #[] #[]) :
    Calls Tryz.prog 74 #[v, f] w fun e w' => (∃ i : Int, e = .returned (.int .i64 i) ∧ decide (0 ≤ i) = !os.all obOk) ∧ Fr w.heap.size [] w w' := by
  subst hf
  obtain ⟨a, cap, rfl, hcap, hcell⟩ := hv.shape
  have HB := hid hb
  have hbl := hb.1
  clear hv hb
  go_enter Tryz.func74, Tryz.ntmps74
  go_wp2
  go_loopw [8] (fun i wr => ∃ k : Nat, k ≤ os.length ∧ i = .int .i64 k ∧ (os.take k).all obOk = true ∧ Fr w.heap.size [] w wr) (fun i _ => os.length - (intOf i).toNat)
  case atStart => exact ⟨0, Nat.zero_le _, rfl, rfl, Fr.refl _ _ _⟩
  case round =>
    obtain ⟨k, hk, rfl, hto, hfr⟩ := hrel
    have HT := hid hto
    clear hto
    by_cases hlt : k < os.length
    · rcases hcell with rfl | ⟨b, off, rfl, hbs, hcell⟩
      · simp at hlt
      · obtain ⟨u, h0, h1, h2, hu⟩ := hcell k hlt
        obtain ⟨ua, ucap, rfl, _, _⟩ := hu.shape
        have c0 := hfr.cell hbs h0
        have c1 := hfr.cell hbs h1
        have c2 := hfr.cell hbs h2
        have HU := hid (hu.grow hfr)
        have hki : (k : Int) < (os.length : Int) := by omega
        have hbk := HB.out.2 _ (List.getElem_mem hlt)
        clear hcell h0 h1 h2 hu
        cases g : obOk os[k]
        · have G := hid g
          have hz := hid (show os.all obOk = false by rw [List.all_eq_false]; exact ⟨os[k], List.getElem_mem hlt, by simp [g]⟩)
          clear g
          go_wp2_with (go_at_call 48; go_must (refine (notOk_any K _ os[k] _ HU.out hbk).mono ?_; rintro e w1 ⟨rfl, fr1⟩; rw [G.out]))
          go_ret
          exact ⟨⟨_, rfl, by rw [hz.out]; simp⟩, hfr.trans fr1.nil⟩
        · have G := hid g
          have hz := hid (show (os.take (k + 1)).all obOk = true by rw [List.take_succ_eq_append_getElem hlt, List.all_append, HT.out]; simp [g])
          clear g
          go_wp2_with (go_at_call 48; go_must (refine (notOk_any K _ os[k] _ HU.out hbk).mono ?_; rintro e w1 ⟨rfl, fr1⟩; rw [G.out]))
          go_roundw
          case rel => exact ⟨k + 1, by omega, by go_num, hz.out, hfr.trans fr1.nil⟩
          case measure => simp [intOf]; omega
    · obtain rfl : k = os.length := by omega
      have hz := hid (show os.all obOk = true by have := HT.out; rwa [List.take_length] at this)
      clear hcell
      go_wp2
      go_ret
      exact ⟨⟨_, rfl, by rw [hz.out]; rfl⟩, hfr⟩

set_option maxRecDepth 20000 in
set_option maxHeartbeats 1000000 in
theorem containsFunc_any (K : Nat → Bool → Prop) (v : Value) (os : List Ob) (w : World) (hv : ObsR K w v os) (hb : ObsB os) (f : Value) (hf : f = .func (.func 48) #[] #[]) :
    Calls Tryz.prog 47 #[v, f] w fun e w' => e = .returned (.bool (!os.all obOk)) ∧ Fr w.heap.size [] w w' := by
  subst hf
  have HV := hid hv
  have HB := hid hb
  clear hv hb
  go_enter Tryz.func47, Tryz.ntmps47
  go_wp2_with (go_at_call 74; go_must (refine (indexFunc_any K _ os _ HV.out HB.out _ rfl).mono ?_; rintro e w1 ⟨⟨i, rfl, hi⟩, fr1⟩; have HI := hid hi; clear hi))
  go_ret
  exact ⟨ret_bool HI.out, fr1⟩

end Go.Proofs.YtjgbconlpolddaaGreat

/- slices.Index, slices.Contains at ints. -/
namespace Go.Proofs.YtjgbconlpolddaaGreat
open Go.RowKit
set_option linter.unusedVariables false

set_option maxRecDepth 20000 in
set_option maxHeartbeats 1000000 in
theorem indexI_any (K : Nat → Bool → Prop) (v : Value) (l : List Int) (x : Int) (w : World) (hv : IntsR K w v l) (hl : l.length ≤ 1000000000) :
    Calls Tryz.prog 61 #[v, .int .i64 x] w fun e w' => ∃ z : Int, e = .returned (.int .i64 z) ∧ decide (0 ≤ z) = l.contains x ∧ Fr w.heap.size [] w w' := by
  obtain ⟨a, cap, rfl, hc, hcell⟩ := hv.shape
  have HC := hid hcell
  clear hv hcell
  go_enter Tryz.func61, Tryz.ntmps61
  go_wp2
  go_loopw [8] (fun i wr => ∃ k : Nat, k ≤ l.length ∧ i = .int .i64 k ∧ (l.take k).contains x = false ∧ Fr w.heap.size [] w wr) (fun i _ => l.length - (intOf i).toNat)
  case atStart => exact ⟨0, Nat.zero_le _, rfl, by simp, Fr.refl _ _ _⟩
  case round =>
    obtain ⟨k, hk, rfl, hno, hfr⟩ := hrel
    have NO := hid hno
    clear hno
    by_cases hlt : k < l.length
    · rcases HC.out with h | ⟨b, off, rfl, hbs, hcell⟩
      · rw [h] at hlt; simp at hlt
      have c0 := hfr.cell hbs (hcell k hlt)
      have hki : (k : Int) < (l.length : Int) := by omega
      have TK := hid (List.take_succ_eq_append_getElem hlt)
      have IN := hid (List.getElem_mem hlt)
      obtain ⟨y, hy⟩ : ∃ y, y = l[k] := ⟨_, rfl⟩
      rw [← hy] at c0 TK IN
      clear hcell hy
      by_cases hxy : x = y
      · have YE := hid (show l.contains x = true by rw [hxy]; simpa using IN.out)
        have h2 : y = x := hxy.symm
        subst hxy
        clear h2
        go_wp2
        go_ret
        exact ⟨_, rfl, by rw [YE.out]; simp, hfr⟩
      · have TN := hid (show (l.take (k + 1)).contains x = false by
          rw [TK.out]
          have := NO.out
          simp at this ⊢
          exact ⟨this, hxy⟩)
        go_wp2
        go_roundw
        case rel => exact ⟨k + 1, by omega, by go_num, TN.out, hfr⟩
        case measure => simp [intOf]; omega
    · obtain rfl : k = l.length := by omega
      rw [List.take_length] at NO
      go_wp2
      go_ret
      exact ⟨-1, rfl, by rw [NO.out]; simp, hfr⟩

set_option maxRecDepth 20000 in
set_option maxHeartbeats 1000000 in
theorem containsI_any (K : Nat → Bool → Prop) (v : Value) (l : List Int) (x : Int) (w : World) (hv : IntsR K w v l) (hl : l.length ≤ 1000000000) :
    Calls Tryz.prog 29 #[v, .int .i64 x] w fun e w' => e = .returned (.bool (l.contains x)) ∧ Fr w.heap.size [] w w' := by
  obtain ⟨a, cap, rfl, hc, hcell⟩ := hv.shape
  have HV := hid hv
  clear hv hcell
  go_enter Tryz.func29, Tryz.ntmps29
  go_wp2_with (go_at_call 61; go_must (refine (indexI_any K _ l x _ HV.out hl).mono ?_; rintro e w1 ⟨z, rfl, hz, fr1⟩; have Z := hid hz; have F1 := hid fr1; clear hz fr1))
  go_ret
  exact ⟨ret_bool Z.out, F1.out⟩

end Go.Proofs.YtjgbconlpolddaaGreat
