/- Whether an object is valid; its id. -/
import Derived.Test.YtjgbconlpolddaaPkSmall
namespace Go.Proofs.Ytjgbconlpolddaa
open Go.RowKit
set_option linter.unusedVariables false

theorem tx_list (t : Tx) : (tx t).toList = t := by rw [Lib.toList_data, tx_data]

set_option maxRecDepth 20000 in
set_option maxHeartbeats 2000000 in
theorem ok_any (K : Nat → Bool → Prop) (v : Value) (o : Ob) (w : World) (hv : IntsR K w v o.links) (hb : o.links.length ≤ 1000000000) :
    Calls Try.prog 37 #[.agg #[.int .i64 o.kind, v, .string (tx o.text)]] w fun e w' => e = .returned (.bool (obOk o)) ∧ Fr w.heap.size [] w w' := by
  obtain ⟨a, cap, rfl, hcap, -⟩ := hv.shape
  have HV := hid hv
  have hsz := tx_size o.text
  clear hv
  have F0 := hid ((Fr.refl w.heap.size [] w).alloc (.cells #[.int .i64 o.kind, .slice a o.links.length cap, .string (tx o.text)] 40))
  have B0 := hid (heap_alloc_new w (.cells #[.int .i64 o.kind, .slice a o.links.length cap, .string (tx o.text)] 40))
  cases gi : (asc o.links && decide (o.links.length ≤ 4))
  all_goals have GI := hid gi
  all_goals clear gi
  all_goals
   go_enter Try.func37, Try.ntmps37
   go_wp2_with (go_at_call 74; go_must (refine (idsOk_any K _ _ _ (HV.out.grow F0.out) hb).mono ?_; rintro e w1 ⟨rfl, fr1⟩; rw [GI.out]; have B1 := hid (fr1.keep _ _ B0.out (.inr (by simp))); have F1 := hid (F0.out.trans fr1.nil); have c0 := cell_of (o := 0) B1.out rfl; have c1 := cell_of (o := 1) B1.out rfl; have c2 := cell_of (o := 2) B1.out rfl; clear fr1))
  all_goals go_ret
  all_goals refine ⟨ret_bool ?_, F1.out⟩
  all_goals clear F0 B0 B1 F1 c0 c1 c2 HV hcap
  all_goals rw [Bool.eq_iff_iff]
  all_goals have gi := GI.out
  all_goals clear GI
  all_goals unfold obOk kindOk
  all_goals simp_all [tx_list, bne]
  all_goals try omega
  all_goals (intro h1 h2; exact absurd (gi h1) (by omega))

set_option maxRecDepth 20000 in
set_option maxHeartbeats 2000000 in
theorem objectValid_any (K : Nat → Bool → Prop) (v : Value) (o : Ob) (w : World) (hv : IntsR K w v o.links) (hb : o.links.length ≤ 1000000000) :
    Calls Try.prog 42 #[.agg #[.int .i64 o.kind, v, .string (tx o.text)]] w fun e w' => e = .returned (.bool (obOk o)) ∧ Fr w.heap.size [] w w' := by
  obtain ⟨a, cap, rfl, hcap, -⟩ := hv.shape
  have HV := hid hv
  have hsz := tx_size o.text
  clear hv
  have F0 := hid ((Fr.refl w.heap.size [] w).alloc (.cells #[.int .i64 o.kind, .slice a o.links.length cap, .string (tx o.text)] 40))
  have B0 := hid (heap_alloc_new w (.cells #[.int .i64 o.kind, .slice a o.links.length cap, .string (tx o.text)] 40))
  cases gi : asc o.links
  all_goals have GI := hid gi
  all_goals clear gi
  all_goals
   go_enter Try.func42, Try.ntmps42
   go_wp2_with (go_at_call 77; go_must (refine (l1Ids_any K _ _ _ (HV.out.grow F0.out) hb).mono ?_; rintro e w1 ⟨rfl, fr1⟩; rw [GI.out]; have B1 := hid (fr1.keep _ _ B0.out (.inr (by simp))); have F1 := hid (F0.out.trans fr1.nil); have c0 := cell_of (o := 0) B1.out rfl; have c1 := cell_of (o := 1) B1.out rfl; have c2 := cell_of (o := 2) B1.out rfl; clear fr1))
  all_goals go_ret
  all_goals refine ⟨ret_bool ?_, F1.out⟩
  all_goals clear F0 B0 B1 F1 c0 c1 c2 HV hcap
  all_goals rw [Bool.eq_iff_iff]
  all_goals have gi := GI.out
  all_goals clear GI
  all_goals unfold obOk kindOk
  all_goals simp_all [tx_list, bne]
  all_goals try omega

end Go.Proofs.Ytjgbconlpolddaa
