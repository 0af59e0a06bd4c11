/- The reference's l51Same, l51Shard. -/
import Derived.Test.YtknoanpgadecbaaGreatDoorQM7
import Derived.Test.YtknoanpgadecbaaGreatDoorQM4
import Derived.Test.YtknoanpgadecbaaGreatDoorQM3
import Derived.Laws.StructEq
set_option linter.unusedVariables false
set_option linter.unusedSimpArgs false
namespace Go.Proofs.YtknoanpgadecbaaGreatDoor
open Go.RowKit
set_option linter.unusedVariables false

theorem upd_neq (w : World) (a b : Upd) : (binOp .neq 97 (.agg #[.int .i64 a.ref, .int .i64 a.old, .int .i64 a.new]) (.agg #[.int .i64 b.ref, .int .i64 b.old, .int .i64 b.new])).run Tryz.prog w = .ok (.bool (!(decide (a = b)))) w := by
 rw [run_neq_struct, run_equalIn_struct w 9999 97 _ _ (by kernel_rfl) (by kernel_rfl)]
 obtain ⟨a1, a2, a3⟩ := a
 obtain ⟨b1, b2, b3⟩ := b
 by_cases h1 : a1 = b1
 ·by_cases h2 : a2 = b2
  ·by_cases h3 : a3 = b3
   ·subst h1 h2 h3
    simp [go_sem, Tryz.underlying97, Tryz.underlying3, Result.andThen]
   ·simp [go_sem, Tryz.underlying97, Tryz.underlying3, Result.andThen, h1, h2, h3]
  ·simp [go_sem, Tryz.underlying97, Tryz.underlying3, Result.andThen, h1, h2]
 ·simp [go_sem, Tryz.underlying97, Tryz.underlying3, Result.andThen, h1]

theorem list_ne_at {a b : List Upd} {k : Nat} (ha : k < a.length) (hb : k < b.length) (h : a[k] ≠ b[k]) : a ≠ b := fun e => by subst e; exact h rfl

theorem take_eq_succ {a b : List Upd} {k : Nat} (ha : k < a.length) (hb : k < b.length) (h : a.take k = b.take k) (he : a[k] = b[k]) : a.take (k + 1) = b.take (k + 1) := by
 rw [List.take_succ_eq_append_getElem ha, List.take_succ_eq_append_getElem hb, h, he]

set_option maxRecDepth 20000 in
set_option maxHeartbeats 2000000 in
theorem l51Same_any (K K' : Nat → Bool → Prop) (v v' : Value) (a b : List Upd) (w : World) (h1 : UpsR K w v a) (h2 : UpsR K' w v' b) (hl : a.length ≤ 1000000000) (hl' : b.length ≤ 1000000000) :
  Calls Tryz.prog 49 #[v, v'] w fun e w' => e = .returned (.bool (decide (a = b))) ∧ Fr w.heap.size [] w w' := by
 obtain ⟨ua, ucap, rfl, hc, hcell⟩ := h1.shape
 obtain ⟨ub, ubcap, rfl, hc', hcell'⟩ := h2.shape
 have HC := hid hcell
 have HC' := hid hcell'
 clear h1 h2 hcell hcell'
 by_cases hlen : a.length = b.length
 ·have HL := hid hlen
  have hli : ((a.length : Int) == (b.length : Int)) = true := by simp; omega
  have hlj : ((a.length : Int) != (b.length : Int)) = false := by simp; omega
  clear hlen
  go_enter Tryz.func49, Tryz.ntmps49
  go_wp2
  go_loopw [5] (fun i wr => ∃ k : Nat, k ≤ a.length ∧ i = .int .i64 k ∧ a.take k = b.take k ∧ Fr w.heap.size [] w wr) (fun i _ => a.length - (intOf i).toNat)
  case atStart => exact ⟨0, Nat.zero_le _, rfl, by simp, Fr.refl _ _ _⟩
  case round =>
   obtain ⟨k, hk, rfl, htk, hfr⟩ := hrel
   have TK := hid htk
   clear htk
   by_cases hlt : k < a.length
   ·have hlt' : k < b.length := by have := HL.out; omega
    rcases HC.out with h | ⟨b1, off, rfl, hbs, hcell⟩
    ·rw [h] at hlt; simp at hlt
    rcases HC'.out with h | ⟨b2, off', rfl, hbs', hcell'⟩
    ·rw [h] at hlt'; simp at hlt'
    obtain ⟨x0, x1, x2⟩ := hcell k hlt
    obtain ⟨y0, y1, y2⟩ := hcell' k hlt'
    have c0 := hfr.cell hbs x0
    have c1 := hfr.cell hbs x1
    have c2 := hfr.cell hbs x2
    have d0 := hfr.cell hbs' y0
    have d1 := hfr.cell hbs' y1
    have d2 := hfr.cell hbs' y2
    have hki : (k : Int) < (a.length : Int) := by omega
    have hki' : (k : Int) < (b.length : Int) := by omega
    have TE := hid (take_eq_succ hlt hlt' TK.out)
    have NE := hid (list_ne_at hlt hlt')
    have hne := fun w => upd_neq w a[k] b[k]
    clear hcell hcell' x0 x1 x2 y0 y1 y2
    generalize a[k] = p at *
    generalize b[k] = q at *
    by_cases hpq : p = q
    ·have hz := hid (TE.out hpq)
     have hd : decide (p = q) = true := by simp [hpq]
     rw [hd] at hne
     clear TE NE hpq hd hli hlj
     go_wp2
     go_quiet (fail)
     go_wp2
     go_roundw
     case rel => exact ⟨k + 1, by omega, by go_num, hz.out, hfr.drewN _⟩
     case measure => simp [intOf]; omega
    ·have hz := hid (NE.out hpq)
     have hd : decide (p = q) = false := by simp [hpq]
     rw [hd] at hne
     clear TE NE hpq hd hli hlj
     go_wp2
     go_quiet (fail)
     go_wp2
     go_ret
     exact ⟨ret_bool (by have := hz.out; simp [this]), hfr.drewN _⟩
   ·obtain rfl : k = a.length := by omega
    have hz := hid (show a = b by have := TK.out; rw [List.take_length, HL.out, List.take_length] at this; exact this)
    go_wp2
    go_ret
    exact ⟨ret_bool (by have := hz.out; simp [this]), hfr⟩
 ·have hz := hid (show a ≠ b from fun e => hlen (by rw [e]))
  have hli : ((a.length : Int) == (b.length : Int)) = false := by simp; omega
  have hlj : ((a.length : Int) != (b.length : Int)) = true := by simp; omega
  clear hlen
  go_enter Tryz.func49, Tryz.ntmps49
  go_wp2
  go_ret
  exact ⟨ret_bool (by have := hz.out; simp [this]), Fr.refl _ _ _⟩

theorem prt_lenB {c : Co} (h : CoI c) (txn x : Int) : ((prt c txn x).getD []).length ≤ 8 := by
 unfold prt
 split
 ·cases ht : c.txns[txn.toNat]? with
  | none => simp
  | some t =>
   simp only
   split
   ·simp
   ·cases hp : t.parts[(partOf t.parts x).toNat]? with
    | none => simp
    | some p =>
     have h1 := List.mem_of_getElem? ht
     have h2 := List.mem_of_getElem? hp
     simpa using ((h.1 t h1).1 p h2).2.2
 ·simp

set_option maxRecDepth 20000 in
set_option maxHeartbeats 4000000 in
theorem l51Shard_any (lo : Nat) (v1 v2 v3 v4 : Value) (d : Wd) (x : Nat) (w : World) (hv : WdR lo w v1 v2 v3 v4 d) (hlo : lo ≤ w.heap.size) (hi : CoI d.co) (hx : x < d.shards.length) (hl : d.shards.length ≤ 1000) (hs : ∀ rs ∈ d.shards, Small rs) :
  Calls Tryz.prog 20 #[.agg #[v1, v2, v3, v4], .int .i64 x] w fun e w' => e = .returned (.bool (shardIn d.co d.shards[x] (x : Int))) ∧ Fr w.heap.size [] w w' := by
 obtain ⟨ta, tcap, rfl, _, _⟩ := hv.1.1.shape
 obtain ⟨oa, ocap, rfl, _, _⟩ := hv.1.2.shape
 obtain ⟨sa, scap, rfl, _, hscell⟩ := hv.2.1.shape
 obtain ⟨na, ncap, rfl, _, _⟩ := hv.2.2.shape
 rcases hscell with h | ⟨sb, soff, rfl, hsb, hscell⟩
 ·rw [h] at hx; simp at hx
 obtain ⟨ra, rcap, y0, hrr⟩ := hscell x hx
 obtain ⟨ra', rcap', hre, _, hrcell⟩ := hrr.shape
 cases hre
 have HV := hid hv
 have CI := hid hi
 have HRC := hid hrcell
 have SM := hid (hs _ (List.getElem_mem hx))
 have hxi : (x : Int) < (d.shards.length : Int) := by omega
 have A0 := hid (heap_alloc_new w (.cells #[.slice ta d.co.txns.length tcap, .slice oa d.co.order.length ocap, .slice (some ⟨sb, soff, none⟩) d.shards.length scap, .slice na d.net.length ncap] 30))
 have FA := hid ((Fr.refl w.heap.size [] w).alloc (.cells #[.slice ta d.co.txns.length tcap, .slice oa d.co.order.length ocap, .slice (some ⟨sb, soff, none⟩) d.shards.length scap, .slice na d.net.length ncap] 30))
 have Y0 := hid y0
 clear hv hi hrcell hs y0 hscell hrr
 generalize d.shards[x] = rs at *
 have hrl := SM.out.1
 go_enter Tryz.func20, Tryz.ntmps20
 go_wp2
 go_loopw [5] (fun i wr => ∃ k : Nat, k ≤ rs.length ∧ i = .int .i64 k ∧ (rs.take k).all (recOk d.co (x : Int)) = true ∧ wr.heap[w.heap.size]? = some (.cells #[.slice ta d.co.txns.length tcap, .slice oa d.co.order.length ocap, .slice (some ⟨sb, soff, none⟩) d.shards.length scap, .slice na d.net.length ncap] 30 (0, 0)) ∧ Fr w.heap.size [] w wr) (fun i _ => rs.length - (intOf i).toNat)
 case atStart => exact ⟨0, Nat.zero_le _, rfl, by simp, A0.out, FA.out⟩
 case round =>
  obtain ⟨k, hk, rfl, hto, hb, hfr⟩ := hrel
  have HT := hid hto
  have HB := hid hb
  have p0 := cell_of (o := 0) hb rfl
  have p1 := cell_of (o := 1) hb rfl
  have p2 := cell_of (o := 2) hb rfl
  have p3 := cell_of (o := 3) hb rfl
  have pl := lt_of_get hb
  have y1 := hfr.cell hsb Y0.out
  clear hto hb A0 FA
  by_cases hlt : k < rs.length
  ·rcases HRC.out with h | ⟨b, off, rfl, hbs, hcell⟩
   ·rw [h] at hlt; simp at hlt
   obtain ⟨u, x0, x1, x2, hu⟩ := hcell k hlt
   obtain ⟨ua, ucap, rfl, _, _⟩ := hu.shape
   have c0 := hfr.cell hbs x0
   have c1 := hfr.cell hbs x1
   have c2 := hfr.cell hbs x2
   have HU := hid (hu.grow hfr)
   have hki : (k : Int) < (rs.length : Int) := by omega
   have UL := hid (SM.out.2 _ (List.getElem_mem hlt))
   have AT := hid (fun h => all_take (p := recOk d.co (x : Int)) hlt HT.out h)
   have AF := hid (fun h => all_false (p := recOk d.co (x : Int)) hlt h)
   have PL := hid (prt_lenB CI.out rs[k].txn (x : Int))
   clear hcell x0 x1 x2 hu
   generalize rs[k] = r at *
   have FR1 := hid ((Fr.refl wr.heap.size [] wr).alloc (.cells #[.int .i64 r.kind, .int .i64 r.txn, .slice ua r.ups.length ucap] 94))
   have R1 := hid (heap_alloc_new wr (.cells #[.int .i64 r.kind, .int .i64 r.txn, .slice ua r.ups.length ucap] 94))
   cases hp : prt d.co r.txn (x : Int) with
   | none =>
    have hz := hid (AF.out (by unfold recOk; rw [hp]))
    have HP := hid hp
    clear hp AT AF
    go_wp2_with (go_at_call 21; go_must (refine (l51Part_any lo _ _ _ _ d r.txn (x : Int) _ ((HV.out.grow hfr).grow FR1.out) (by have := CI.out.2.1; omega) (fun t ht => by have := (CI.out.1 t ht).2.1; omega) (by have := hfr.size; simp; omega)).mono ?_; rintro e w1 ⟨vv, rfl, _, fr1⟩; rw [HP.out]; have F1 := hid ((hfr.alloc (.cells #[.int .i64 r.kind, .int .i64 r.txn, .slice ua r.ups.length ucap] 94)).trans fr1.nil)))
    go_ret
    exact ⟨ret_bool hz.out.symm, F1.out⟩
   | some us =>
    have HP := hid hp
    have PL2 := hid (show us.length ≤ 8 by have := PL.out; rw [hp] at this; exact this)
    have RO := hid (show recOk d.co (x : Int) r = (!(r.kind == 1) || decide (r.ups = us)) by unfold recOk; rw [hp])
    clear hp PL
    by_cases hk1 : r.kind = 1
    ·have hkb : (r.kind == 1) = true := by simp [hk1]
     by_cases hus : r.ups = us
     ·have hz := hid (AT.out (by rw [RO.out, hus]; simp))
      have HUS := hid (show decide (r.ups = us) = true by simp [hus])
      clear hus AT AF hk1
      go_wp2_with (first
       | (go_at_call 21; go_must (refine (l51Part_any lo _ _ _ _ d r.txn (x : Int) _ ((HV.out.grow hfr).grow FR1.out) (by have := CI.out.2.1; omega) (fun t ht => by have := (CI.out.1 t ht).2.1; omega) (by have := hfr.size; simp; omega)).mono ?_; rintro e w1 ⟨vv, rfl, hvu, fr1⟩; rw [HP.out] at hvu ⊢; have HVU := hid hvu; obtain ⟨va, vcap, rfl, _, _⟩ := HVU.out.shape; have F1 := hid ((hfr.alloc (.cells #[.int .i64 r.kind, .int .i64 r.txn, .slice ua r.ups.length ucap] 94)).trans fr1.nil); have R2 := hid (fr1.keep _ _ R1.out (.inr (by simp))); have B2 := hid (fr1.keep _ _ (heap_up HB.out _) (.inr (by simp))); have HU2 := hid ((HU.out.grow FR1.out).grow fr1); have q0 := cell_of (o := 0) R2.out rfl; have q2 := cell_of (o := 2) R2.out rfl; clear hvu fr1))
       | (go_at_call 49; go_must (refine (l51Same_any (new lo) (new lo) _ _ r.ups us _ HU2.out HVU.out (by have := UL.out; omega) (by have := PL2.out; omega)).mono ?_; rintro e w2 ⟨rfl, fr2⟩; rw [HUS.out]; have F2 := hid (F1.out.trans fr2.nil); have B3 := hid (fr2.keep _ _ B2.out (.inr (by simp))))))
      go_roundw
      case rel => exact ⟨k + 1, by omega, by go_num, hz.out, B3.out, F2.out⟩
      case measure => simp [intOf]; omega
     ·have hz := hid (AF.out (by rw [RO.out, hkb]; simp [hus]))
      have HUS := hid (show decide (r.ups = us) = false by simp [hus])
      clear hus AT AF hk1
      go_wp2_with (first
       | (go_at_call 21; go_must (refine (l51Part_any lo _ _ _ _ d r.txn (x : Int) _ ((HV.out.grow hfr).grow FR1.out) (by have := CI.out.2.1; omega) (fun t ht => by have := (CI.out.1 t ht).2.1; omega) (by have := hfr.size; simp; omega)).mono ?_; rintro e w1 ⟨vv, rfl, hvu, fr1⟩; rw [HP.out] at hvu ⊢; have HVU := hid hvu; obtain ⟨va, vcap, rfl, _, _⟩ := HVU.out.shape; have F1 := hid ((hfr.alloc (.cells #[.int .i64 r.kind, .int .i64 r.txn, .slice ua r.ups.length ucap] 94)).trans fr1.nil); have R2 := hid (fr1.keep _ _ R1.out (.inr (by simp))); have HU2 := hid ((HU.out.grow FR1.out).grow fr1); have q0 := cell_of (o := 0) R2.out rfl; have q2 := cell_of (o := 2) R2.out rfl; clear hvu fr1))
       | (go_at_call 49; go_must (refine (l51Same_any (new lo) (new lo) _ _ r.ups us _ HU2.out HVU.out (by have := UL.out; omega) (by have := PL2.out; omega)).mono ?_; rintro e w2 ⟨rfl, fr2⟩; rw [HUS.out]; have F2 := hid (F1.out.trans fr2.nil))))
      go_ret
      exact ⟨ret_bool hz.out.symm, F2.out⟩
    ·have hkb : (r.kind == 1) = false := by simp [hk1]
     have hz := hid (AT.out (by rw [RO.out, hkb]; rfl))
     clear AT AF hk1
     go_wp2_with (first
      | (go_at_call 21; go_must (refine (l51Part_any lo _ _ _ _ d r.txn (x : Int) _ ((HV.out.grow hfr).grow FR1.out) (by have := CI.out.2.1; omega) (fun t ht => by have := (CI.out.1 t ht).2.1; omega) (by have := hfr.size; simp; omega)).mono ?_; rintro e w1 ⟨vv, rfl, hvu, fr1⟩; rw [HP.out] at hvu ⊢; have HVU := hid hvu; obtain ⟨va, vcap, rfl, _, _⟩ := HVU.out.shape; have F1 := hid ((hfr.alloc (.cells #[.int .i64 r.kind, .int .i64 r.txn, .slice ua r.ups.length ucap] 94)).trans fr1.nil); have R2 := hid (fr1.keep _ _ R1.out (.inr (by simp))); have B2 := hid (fr1.keep _ _ (heap_up HB.out _) (.inr (by simp))); have q0 := cell_of (o := 0) R2.out rfl; have q2 := cell_of (o := 2) R2.out rfl; clear hvu fr1)))
     go_roundw
     case rel => exact ⟨k + 1, by omega, by go_num, hz.out, B2.out, F1.out⟩
     case measure => simp [intOf]; omega
  ·obtain rfl : k = rs.length := by omega
   rw [List.take_length] at HT
   go_wp2
   go_ret
   exact ⟨ret_bool HT.out.symm, hfr⟩

end Go.Proofs.YtknoanpgadecbaaGreatDoor
