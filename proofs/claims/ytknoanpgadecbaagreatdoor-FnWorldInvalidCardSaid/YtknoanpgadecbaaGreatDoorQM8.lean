/- The program's slices.Equal at updates, and (World).part. -/
import Derived.Test.YtknoanpgadecbaaGreatDoorQM3
import Derived.Test.YtknoanpgadecbaaGreatDoorQCoWValS
import Derived.Deep.RegionHeld3
import Derived.BigQuiet
import Derived.Test.YtknoanpgadecbaaGreatDoorQCoTell
import Derived.Test.YtknoanpgadecbaaGreatDoorQM2
set_option linter.unusedVariables false
set_option linter.unusedSimpArgs false
namespace Go.Proofs.YtknoanpgadecbaaGreatDoor
open Go.RowKit
set_option linter.unusedVariables false

set_option maxRecDepth 20000 in
set_option maxHeartbeats 2000000 in
theorem equalU_any (K K' : Nat → Bool → Prop) (v v' : Value) (a b : List Upd) (w : World) (h1 : UpsR K w v a) (h2 : UpsR K' w v' b) (hl : a.length ≤ 1000000000) (hl' : b.length ≤ 1000000000) :
  Calls Tryz.prog 44 #[v, v'] w fun e w' => e = .returned (.bool (decide (a = b))) ∧ Fr w.heap.size [] w w' := by
 obtain ⟨ua, ucap, rfl, hc, hcell⟩ := h1.shape
 obtain ⟨ub, ubcap, rfl, hc', hcell'⟩ := h2.shape
 have HC := hid hcell
 have HC' := hid hcell'
 clear h1 h2 hcell hcell'
 by_cases hlen : a.length = b.length
 ·have HL := hid hlen
  have hli : ((a.length : Int) == (b.length : Int)) = true := by simp; omega
  have hlj : ((a.length : Int) != (b.length : Int)) = false := by simp; omega
  clear hlen
  go_enter Tryz.func44, Tryz.ntmps44
  go_wp2
  go_loopw [13] (fun i wr => ∃ k : Nat, k ≤ a.length ∧ i = .int .i64 k ∧ a.take k = b.take k ∧ Fr w.heap.size [] w wr) (fun i _ => a.length - (intOf i).toNat)
  case atStart => exact ⟨0, Nat.zero_le _, rfl, by simp, Fr.refl _ _ _⟩
  case round =>
   obtain ⟨k, hk, rfl, htk, hfr⟩ := hrel
   have TK := hid htk
   clear htk
   by_cases hlt : k < a.length
   ·have hlt' : k < b.length := by have := HL.out; omega
    rcases HC.out with h | ⟨b1, off, rfl, hbs, hcell⟩
    ·rw [h] at hlt; simp at hlt
    rcases HC'.out with h | ⟨b2, off', rfl, hbs', hcell'⟩
    ·rw [h] at hlt'; simp at hlt'
    obtain ⟨x0, x1, x2⟩ := hcell k hlt
    obtain ⟨y0, y1, y2⟩ := hcell' k hlt'
    have c0 := hfr.cell hbs x0
    have c1 := hfr.cell hbs x1
    have c2 := hfr.cell hbs x2
    have d0 := hfr.cell hbs' y0
    have d1 := hfr.cell hbs' y1
    have d2 := hfr.cell hbs' y2
    have hki : (k : Int) < (a.length : Int) := by omega
    have hki' : (k : Int) < (b.length : Int) := by omega
    have TE := hid (take_eq_succ hlt hlt' TK.out)
    have NE := hid (list_ne_at hlt hlt')
    have hne := fun w => upd_neq w a[k] b[k]
    clear hcell hcell' x0 x1 x2 y0 y1 y2
    generalize a[k] = p at *
    generalize b[k] = q at *
    by_cases hpq : p = q
    ·have hz := hid (TE.out hpq)
     have hd : decide (p = q) = true := by simp [hpq]
     rw [hd] at hne
     clear TE NE hpq hd hli hlj
     go_wp2
     go_quiet (fail)
     go_wp2
     go_roundw
     case rel => exact ⟨k + 1, by omega, by go_num, hz.out, hfr.drewN _⟩
     case measure => simp [intOf]; omega
    ·have hz := hid (NE.out hpq)
     have hd : decide (p = q) = false := by simp [hpq]
     rw [hd] at hne
     clear TE NE hpq hd hli hlj
     go_wp2
     go_quiet (fail)
     go_wp2
     go_ret
     exact ⟨ret_bool (by have := hz.out; simp [this]), hfr.drewN _⟩
   ·obtain rfl : k = a.length := by omega
    have hz := hid (show a = b by have := TK.out; rw [List.take_length, HL.out, List.take_length] at this; exact this)
    go_wp2
    go_ret
    exact ⟨ret_bool (by have := hz.out; simp [this]), hfr⟩
 ·have hz := hid (show a ≠ b from fun e => hlen (by rw [e]))
  have hli : ((a.length : Int) == (b.length : Int)) = false := by simp; omega
  have hlj : ((a.length : Int) != (b.length : Int)) = true := by simp; omega
  clear hlen
  go_enter Tryz.func44, Tryz.ntmps44
  go_wp2
  go_ret
  exact ⟨ret_bool (by have := hz.out; simp [this]), Fr.refl _ _ _⟩

def PartP (lo : Nat) (w : World) (v : Value) : Option (List Upd) → Prop
 | none => v = .pointer none
 | some us => ∃ b o ua ucap, v = .pointer (some ⟨b, o, none⟩) ∧ b < w.heap.size ∧ w.cell? ⟨b, o + 1, none⟩ = some (.slice ua us.length ucap) ∧ UpsR (new lo) w (.slice ua us.length ucap) us

set_option maxRecDepth 20000 in
set_option maxHeartbeats 4000000 in
theorem implPart_any (lo : Nat) (v1 v2 v3 v4 : Value) (d : Wd) (txn x : Int) (w : World) (hv : WdR lo w v1 v2 v3 v4 d) (hi : CoI d.co) :
  Calls Tryz.prog 17 #[.agg #[v1, v2, v3, v4], .int .i64 txn, .int .i64 x] w fun e w' => ∃ v, e = .returned v ∧ PartP lo w' v (prt d.co txn x) ∧ Fr w.heap.size [] w w' := by
 obtain ⟨ta, tcap, rfl, _, htcell⟩ := hv.1.1.shape
 obtain ⟨oa, ocap, rfl, _, _⟩ := hv.1.2.shape
 obtain ⟨sa, scap, rfl, _, _⟩ := hv.2.1.shape
 obtain ⟨na, ncap, rfl, _, _⟩ := hv.2.2.shape
 have HTC := hid htcell
 have CI := hid hi
 have htl := hi.2.1
 have A0 := hid (heap_alloc_new w (.cells #[.slice ta d.co.txns.length tcap, .slice oa d.co.order.length ocap, .slice sa d.shards.length scap, .slice na d.net.length ncap] 30))
 have FA := hid ((Fr.refl w.heap.size [] w).alloc (.cells #[.slice ta d.co.txns.length tcap, .slice oa d.co.order.length ocap, .slice sa d.shards.length scap, .slice na d.net.length ncap] 30))
 have p0 := cell_of (o := 0) A0.out rfl
 have p1 := cell_of (o := 1) A0.out rfl
 clear hv hi htcell
 cases g1 : inR txn 0 ((d.co.txns.length : Int) - 1)
 ·have G1 := hid g1
  have hz := hid (prt_out (x := x) g1)
  clear g1
  go_enter Tryz.func17, Tryz.ntmps17
  go_wp2_with (go_at_call 16; go_must (refine (inRange_any _ _ _ _).mono ?_; rintro e w2 ⟨rfl, hw2⟩; rw [G1.out]; subst hw2))
  go_ret
  exact ⟨_, rfl, by rw [hz.out]; exact rfl, FA.out⟩
 ·have G1 := hid g1
  have hn := inR_iff.1 g1
  obtain ⟨k, rfl⟩ := Int.eq_ofNat_of_zero_le hn.1
  have hk : k < d.co.txns.length := by omega
  have hki : (k : Int) < (d.co.txns.length : Int) := by omega
  have TI := hid (CI.out.1 _ (List.getElem_mem hk))
  have PN := hid (fun h => prt_no (c := d.co) (x := x) hk h)
  have PA := hid (fun j hj h => prt_at (c := d.co) (x := x) (j := j) hk hj h)
  rcases HTC.out with h | ⟨tb, toff, rfl, htb, htcell⟩
  ·rw [h] at hk; simp at hk
  obtain ⟨pa, pcap, va, vcap, x0, x1, x2, xp, xv⟩ := htcell k hk
  have y0 := FA.out.cell htb x0
  have y1 := FA.out.cell htb x1
  have y2 := FA.out.cell htb x2
  have XP := hid xp
  clear g1 hn htcell x0 x1 x2 xp xv
  generalize d.co.txns[k] = T at *
  have TPL := TI.out.2.1
  have FT := hid (FA.out.alloc (.cells #[.slice pa T.parts.length pcap, .slice va T.votes.length vcap, .int .i64 T.dec] 74))
  have AT := hid (heap_alloc_new (w.alloc (.cells #[.slice (some ⟨tb, toff, none⟩) d.co.txns.length tcap, .slice oa d.co.order.length ocap, .slice sa d.shards.length scap, .slice na d.net.length ncap] 30)) (.cells #[.slice pa T.parts.length pcap, .slice va T.votes.length vcap, .int .i64 T.dec] 74))
  simp only [World.size_alloc] at AT
  rcases partOf_cases T.parts x with hp | ⟨j, hj, hp⟩
  ·have HP := hid hp
   have hz := hid (PN.out hp)
   clear hp
   go_enter Tryz.func17, Tryz.ntmps17
   go_wp2_with (first
    | (go_at_call 16; go_must (refine (inRange_any _ _ _ _).mono ?_; rintro e w2 ⟨rfl, hw2⟩; rw [G1.out]; subst hw2))
    | (go_at_call 45; go_must (refine (implPartAt_any lo T _ _ x _ (XP.out.grow FT.out) (by omega) ⟨_, _, rfl⟩).mono ?_; rintro e w3 ⟨rfl, fr3⟩; rw [HP.out]; have F3 := hid (FT.out.trans fr3.nil))))
   go_ret
   exact ⟨_, rfl, by rw [hz.out]; exact rfl, F3.out⟩
  ·have HP := hid hp
   have hz := hid (PA.out j hj hp)
   have hji : (j : Int) < (T.parts.length : Int) := by omega
   have hj0 : ¬ (j : Int) < 0 := by omega
   obtain ⟨pa', pcap', e, _, hpc⟩ := XP.out.shape
   cases e
   rcases hpc with h | ⟨pb, poff, rfl, hpb, hpc⟩
   ·rw [h] at hj; simp at hj
   obtain ⟨ua, ucap, z0, z1, zu⟩ := hpc j hj
   have Z1 := hid z1
   have ZU := hid zu
   clear hp z0 z1 zu hpc
   go_enter Tryz.func17, Tryz.ntmps17
   go_wp2_with (first
    | (go_at_call 16; go_must (refine (inRange_any _ _ _ _).mono ?_; rintro e w2 ⟨rfl, hw2⟩; rw [G1.out]; subst hw2))
    | (go_at_call 45; go_must (refine (implPartAt_any lo T _ _ x _ (XP.out.grow FT.out) (by omega) ⟨_, _, rfl⟩).mono ?_; rintro e w3 ⟨rfl, fr3⟩; rw [HP.out]; have F3 := hid (FT.out.trans fr3.nil); have A3 := hid (fr3.keep _ _ AT.out (.inr (by simp))); have q0 := cell_of (o := 0) A3.out rfl)))
   go_ret
   exact ⟨_, rfl, by rw [hz.out]; exact ⟨pb, poff + j * 2, ua, ucap, rfl, Nat.lt_of_lt_of_le hpb F3.out.size, F3.out.cell hpb Z1.out, ZU.out.grow F3.out⟩, F3.out⟩

theorem blk_dN {w : World} {k : Nat} {o : Obj} (h : w.heap[k]? = some o) (n : Nat) : (w.drewN n).heap[k]? = some o := ((Fr.refl 0 [] w).drewN n).keep _ _ h (.inr (by simp))

set_option maxRecDepth 20000 in
set_option maxHeartbeats 8000000 in
theorem recordsOk_any (lo : Nat) (v1 v2 v3 v4 : Value) (d : Wd) (x : Nat) (w : World) (hv : WdR lo w v1 v2 v3 v4 d) (hi : CoI d.co) (hx : x < d.shards.length) (hl : d.shards.length ≤ 1000) (hs : ∀ rs ∈ d.shards, Small rs) :
  Calls Tryz.prog 15 #[.agg #[v1, v2, v3, v4], .int .i64 x] w fun e w' => e = .returned (.bool (shardIn d.co d.shards[x] (x : Int))) ∧ Fr w.heap.size [] w w' := by
 obtain ⟨ta, tcap, rfl, _, _⟩ := hv.1.1.shape
 obtain ⟨oa, ocap, rfl, _, _⟩ := hv.1.2.shape
 obtain ⟨sa, scap, rfl, _, hscell⟩ := hv.2.1.shape
 obtain ⟨na, ncap, rfl, _, _⟩ := hv.2.2.shape
 rcases hscell with h | ⟨sb, soff, rfl, hsb, hscell⟩
 ·rw [h] at hx; simp at hx
 obtain ⟨ra, rcap, y0, hrr⟩ := hscell x hx
 obtain ⟨ra', rcap', hre, _, hrcell⟩ := hrr.shape
 cases hre
 have HV := hid hv
 have CI := hid hi
 have HRC := hid hrcell
 have SM := hid (hs _ (List.getElem_mem hx))
 have hxi : (x : Int) < (d.shards.length : Int) := by omega
 have A0 := hid (heap_alloc_new w (.cells #[.slice ta d.co.txns.length tcap, .slice oa d.co.order.length ocap, .slice (some ⟨sb, soff, none⟩) d.shards.length scap, .slice na d.net.length ncap] 30))
 have FA := hid ((Fr.refl w.heap.size [] w).alloc (.cells #[.slice ta d.co.txns.length tcap, .slice oa d.co.order.length ocap, .slice (some ⟨sb, soff, none⟩) d.shards.length scap, .slice na d.net.length ncap] 30))
 have yy := FA.out.cell hsb y0
 clear hv hi hrcell hs y0 hscell hrr
 generalize d.shards[x] = rs at *
 have hrl := SM.out.1
 go_enter Tryz.func15, Tryz.ntmps15
 go_wp2
 go_loopw [15] (fun i wr => ∃ k : Nat, k ≤ rs.length ∧ i = .int .i64 k ∧ (rs.take k).all (recOk d.co (x : Int)) = true ∧ wr.heap[w.heap.size]? = some (.cells #[.slice ta d.co.txns.length tcap, .slice oa d.co.order.length ocap, .slice (some ⟨sb, soff, none⟩) d.shards.length scap, .slice na d.net.length ncap] 30 (0, 0)) ∧ Fr w.heap.size [] w wr) (fun i _ => rs.length - (intOf i).toNat)
 case atStart => exact ⟨0, Nat.zero_le _, rfl, by simp, A0.out, FA.out⟩
 case round =>
  obtain ⟨k, hk, rfl, hto, hb, hfr⟩ := hrel
  have HT := hid hto
  have HB := hid hb
  have p0 := cell_of (o := 0) hb rfl
  have p1 := cell_of (o := 1) hb rfl
  have p2 := cell_of (o := 2) hb rfl
  have p3 := cell_of (o := 3) hb rfl
  have pl := lt_of_get hb
  clear hto hb A0 FA yy
  by_cases hlt : k < rs.length
  ·rcases HRC.out with h | ⟨b, off, rfl, hbs, hcell⟩
   ·rw [h] at hlt; simp at hlt
   obtain ⟨u, x0, x1, x2, hu⟩ := hcell k hlt
   obtain ⟨ua, ucap, rfl, _, _⟩ := hu.shape
   have c0 := hfr.cell hbs x0
   have c1 := hfr.cell hbs x1
   have c2 := hfr.cell hbs x2
   have HU := hid (hu.grow hfr)
   have hki : (k : Int) < (rs.length : Int) := by omega
   have UL := hid (SM.out.2 _ (List.getElem_mem hlt))
   have AT := hid (fun h => all_take (p := recOk d.co (x : Int)) hlt HT.out h)
   have AF := hid (fun h => all_false (p := recOk d.co (x : Int)) hlt h)
   have PL := hid (prt_lenB CI.out rs[k].txn (x : Int))
   clear hcell x0 x1 x2 hu
   generalize rs[k] = r at *
   have FR1 := hid ((Fr.refl wr.heap.size [] wr).alloc (.cells #[.int .i64 r.kind, .int .i64 r.txn, .slice ua r.ups.length ucap] 94))
   have R1 := hid (heap_alloc_new wr (.cells #[.int .i64 r.kind, .int .i64 r.txn, .slice ua r.ups.length ucap] 94))
   cases hp : prt d.co r.txn (x : Int) with
   | none =>
    have hz := hid (AF.out (by unfold recOk; rw [hp]))
    have HP := hid hp
    clear hp AT AF
    go_wp2_with (go_at_call 17; go_must (refine (implPart_any lo _ _ _ _ d r.txn (x : Int) _ ((HV.out.grow hfr).grow FR1.out) CI.out).mono ?_; rintro e w1 ⟨vv, rfl, hvv, fr1⟩; rw [HP.out] at hvv; cases hvv; have F1 := hid ((hfr.alloc (.cells #[.int .i64 r.kind, .int .i64 r.txn, .slice ua r.ups.length ucap] 94)).trans fr1.nil)))
    go_quiet (fail)
    go_wp2
    go_ret
    exact ⟨ret_bool hz.out.symm, F1.out.drewN _⟩
   | some us =>
    have HP := hid hp
    have PL2 := hid (show us.length ≤ 8 by have := PL.out; rw [hp] at this; exact this)
    have RO := hid (show recOk d.co (x : Int) r = (!(r.kind == 1) || decide (r.ups = us)) by unfold recOk; rw [hp])
    clear hp PL
    by_cases hk1 : r.kind = 1
    ·have hkb : (r.kind == 1) = true := by simp [hk1]
     obtain ⟨q, hq⟩ : ∃ q : Bool, q = decide (r.ups = us) := ⟨_, rfl⟩
     have HQ := hid hq
     have RQ := hid (show recOk d.co (x : Int) r = q by rw [RO.out, hkb, hq]; rfl)
     clear hq RO hk1
     go_upto_region 5 with (go_at_call 17; go_must (refine (implPart_any lo _ _ _ _ d r.txn (x : Int) _ ((HV.out.grow hfr).grow FR1.out) CI.out).mono ?_; rintro e w1 ⟨vv, rfl, hvv, fr1⟩; rw [HP.out] at hvv; obtain ⟨pb, po, va, vcap, rfl, hpb, hpc, hvu⟩ := hvv; have HVU := hid hvu; have F1 := hid ((hfr.alloc (.cells #[.int .i64 r.kind, .int .i64 r.txn, .slice ua r.ups.length ucap] 94)).trans fr1.nil); have R2 := hid (fr1.keep _ _ R1.out (.inr (by simp))); have B2 := hid (fr1.keep _ _ (heap_up HB.out _) (.inr (by simp))); have HU2 := hid ((HU.out.grow FR1.out).grow fr1); have q0 := cell_of (o := 0) R2.out rfl; have q2 := cell_of (o := 2) R2.out rfl; have hR2 := lt_of_get R2.out; clear hvu fr1))
     have fd := (Fr.refl w1.heap.size [] w1).drew
     have FV := F1.out.trans fd.nil
     first
     | go_region_held3 (fun z => z.cell? ⟨wr.heap.size, 0, none⟩ = some (.int .i64 r.kind) ∧ z.cell? ⟨wr.heap.size, 2, none⟩ = some (.slice ua r.ups.length ucap) ∧ z.cell? ⟨pb, po + 1, none⟩ = some (.slice va us.length vcap))
      (first
       | exact ⟨q0, q2, hpc⟩
       | exact r0
       | fail)
      (first
       | (go_at_call 44; go_must (refine (equalU_any (new lo) (new lo) _ _ r.ups us _ (HU2.out.grow fd) (HVU.out.grow fd) UL.out (Nat.le_trans PL2.out (by decide))).mono ?_; rintro e w3 ⟨rfl, fr3⟩; rw [← HQ.out]; have F3 := hid (FV.trans (fr3.nil (B' := w.heap.size) (T := []))); have B3 := hid (fr3.keep _ _ (fd.keep _ _ B2.out (.inr (by simp))) (.inr (by simp))); have r0 := (⟨fr3.cell hR2 (fd.cell hR2 q0), fr3.cell hR2 (fd.cell hR2 q2), fr3.cell hpb (fd.cell hpb hpc)⟩ : (w3.cell? ⟨wr.heap.size, 0, none⟩ = some (.int .i64 r.kind) ∧ w3.cell? ⟨wr.heap.size, 2, none⟩ = some (.slice ua r.ups.length ucap) ∧ w3.cell? ⟨pb, po + 1, none⟩ = some (.slice va us.length vcap)))))
       | fail)
     | fail
     all_goals cases q
     all_goals go_wp2
     ·have hz := hid (AF.out RQ.out)
      go_ret
      exact ⟨ret_bool hz.out.symm, F3.out⟩
     ·have hz := hid (AT.out RQ.out)
      go_roundw
      case rel => exact ⟨k + 1, by omega, by go_num, hz.out, B3.out, F3.out⟩
      case measure => simp [intOf]; omega
    ·have hkb : (r.kind == 1) = false := by simp [hk1]
     have hz := hid (AT.out (by rw [RO.out, hkb]; rfl))
     clear AT AF hk1
     go_wp2_with (go_at_call 17; go_must (refine (implPart_any lo _ _ _ _ d r.txn (x : Int) _ ((HV.out.grow hfr).grow FR1.out) CI.out).mono ?_; rintro e w1 ⟨vv, rfl, hvv, fr1⟩; rw [HP.out] at hvv; obtain ⟨pb, po, va, vcap, rfl, hpb, hpc, hvu⟩ := hvv; have F1 := hid ((hfr.alloc (.cells #[.int .i64 r.kind, .int .i64 r.txn, .slice ua r.ups.length ucap] 94)).trans fr1.nil); have R2 := hid (fr1.keep _ _ R1.out (.inr (by simp))); have B2 := hid (fr1.keep _ _ (heap_up HB.out _) (.inr (by simp))); have q0 := cell_of (o := 0) R2.out rfl; have q2 := cell_of (o := 2) R2.out rfl; clear hvu fr1))
     go_quiet (fail)
     go_wp2
     go_roundw
     case rel => exact ⟨k + 1, by omega, by go_num, hz.out, blk_dN B2.out _, F1.out.drewN _⟩
     case measure => simp [intOf]; omega
  ·obtain rfl : k = rs.length := by omega
   rw [List.take_length] at HT
   go_wp2
   go_ret
   exact ⟨ret_bool HT.out.symm, hfr⟩

def ShI (rs : List Rc) : Prop := valid rs = true ∧ ∀ r ∈ rs, r.ups.length ≤ 8

theorem ShI.nil : ShI [] := ⟨by decide, fun r hr => by cases hr⟩
theorem ShI.small {rs : List Rc} (h : ShI rs) : Small rs := ⟨by have := valid_len h.1; omega, fun r hr => by have := h.2 r hr; omega⟩
theorem ShI.snoc {rs : List Rc} (h : ShI rs) {r : Rc} (hr : r.ups.length ≤ 8) (hv : valid (rs ++ [r]) = true) : ShI (rs ++ [r]) := ⟨hv, fun x hx => by
 rcases List.mem_append.1 hx with hx | hx
 ·exact h.2 x hx
 ·obtain rfl := List.mem_singleton.1 hx
  exact hr⟩
theorem ShI.prep {rs : List Rc} (h : ShI rs) (t : Int) {us : List Upd} (hu : us.length ≤ 8) : ShI (prep rs t us).1 := by
 unfold Go.Proofs.YtknoanpgadecbaaGreatDoor.prep
 split
 ·exact ShI.nil
 ·split
  ·exact h
  ·split
   ·rename_i hv; exact h.snoc hu hv
   ·simp only
    split
    ·rename_i hv; exact h.snoc (by simp) hv
    ·exact h
theorem ShI.dec {rs : List Rc} (h : ShI rs) (t : Int) (c : Bool) : ShI (dec rs t c).1 := by
 cases c <;>
 ·unfold Go.Proofs.YtknoanpgadecbaaGreatDoor.dec
  simp only [Bool.false_eq_true, if_false, if_true]
  split
  ·exact ShI.nil
  ·split
   ·exact h
   ·split
    ·rename_i hv; exact h.snoc (by simp) hv
    ·exact h

def WdI (d : Wd) : Prop := CoI d.co ∧ d.shards.length = 3 ∧ (∀ rs ∈ d.shards, ShI rs) ∧ NetI d.net

def WdOut (lo : Nat) (w : World) (e : Ending) (w' : World) : Prop :=
 ∃ v1 v2 v3 v4 d, e = .returned (.agg #[v1, v2, v3, v4]) ∧ WdR lo w' v1 v2 v3 v4 d ∧ WdI d ∧ Fr w.heap.size [] w w'

theorem box2p {w : World} {n : Nat} {x1 x2 x3 x4 u1 u2 : Value} {T : Nat} (h : w.heap[n]? = some (.cells #[x1, x2, x3, x4] T (0, 0))) :
  ((w.setCell ⟨n, 0, none⟩ u1).setCell ⟨n, 1, none⟩ u2).heap[n]? = some (.cells #[u1, u2, x3, x4] T (0, 0)) := by
 have := block_set (block_set h 0 u1) 1 u2
 simpa using this
theorem box2p_fr {w : World} {n : Nat} {x1 x2 x3 x4 u1 u2 : Value} {T : Nat} (h : w.heap[n]? = some (.cells #[x1, x2, x3, x4] T (0, 0))) :
  Fr 0 [T] w ((w.setCell ⟨n, 0, none⟩ u1).setCell ⟨n, 1, none⟩ u2) :=
 ((Fr.refl 0 [T] w).setOld (p := ⟨n, 0, none⟩) h (Nat.zero_le _) (by simp [otag]) u1).setOld (p := ⟨n, 1, none⟩) (block_set h 0 u1) (Nat.zero_le _) (by simp [otag]) u2

set_option maxRecDepth 20000 in
set_option maxHeartbeats 4000000 in
theorem l51Vote_any (lo : Nat) (v1 v2 v3 v4 : Value) (d : Wd) (txn x : Int) (yes : Bool) (w : World) (hv : WdR lo w v1 v2 v3 v4 d) (hlo : lo ≤ w.heap.size) (hi : WdI d) :
  Calls Tryz.prog 183 #[.agg #[v1, v2, v3, v4], .int .i64 txn, .int .i64 x, .bool yes] w (WdOut lo w) := by
 obtain ⟨ta, tcap, rfl, _, _⟩ := hv.1.1.shape
 obtain ⟨oa, ocap, rfl, _, _⟩ := hv.1.2.shape
 obtain ⟨sa, scap, rfl, _, _⟩ := hv.2.1.shape
 obtain ⟨na, ncap, rfl, hnc, _⟩ := hv.2.2.shape
 have HV := hid hv
 have WI := hid hi
 clear hv hi
 have FA := hid (((Fr.refl w.heap.size [] w).alloc (.cells #[.slice ta d.co.txns.length tcap, .slice oa d.co.order.length ocap, .slice sa d.shards.length scap, .slice na d.net.length ncap] 30)).alloc (.cells #[.slice none 0 0, .slice none 0 0, .slice none 0 0, .slice none 0 0] 30))
 have A0 := hid (heap_up (heap_alloc_new w (.cells #[.slice ta d.co.txns.length tcap, .slice oa d.co.order.length ocap, .slice sa d.shards.length scap, .slice na d.net.length ncap] 30)) (.cells #[.slice none 0 0, .slice none 0 0, .slice none 0 0, .slice none 0 0] 30))
 have A1 := hid (show ((w.alloc (.cells #[.slice ta d.co.txns.length tcap, .slice oa d.co.order.length ocap, .slice sa d.shards.length scap, .slice na d.net.length ncap] 30)).alloc (.cells #[.slice none 0 0, .slice none 0 0, .slice none 0 0, .slice none 0 0] 30)).heap[w.heap.size + 1]? = some (.cells #[.slice none 0 0, .slice none 0 0, .slice none 0 0, .slice none 0 0] 30 (0, 0)) by
  have := heap_alloc_new (w.alloc (.cells #[.slice ta d.co.txns.length tcap, .slice oa d.co.order.length ocap, .slice sa d.shards.length scap, .slice na d.net.length ncap] 30)) (.cells #[.slice none 0 0, .slice none 0 0, .slice none 0 0, .slice none 0 0] 30)
  simpa using this)
 go_enter Tryz.func183, Tryz.ntmps183
 go_upto_if 21 with (go_at_call 75; go_must (refine (specVote_any lo _ _ d.co txn x yes _ (HV.out.1.grow FA.out) WI.out.1).mono ?_; rintro e w1 ⟨u1, u2, c', ok, rfl, cr1, ci1, hin, fr1⟩; obtain ⟨ua, ucap, rfl, _, _⟩ := cr1.1.shape; obtain ⟨ob, obcap, rfl, _, _⟩ := cr1.2.shape; have CR := hid cr1; have CI := hid ci1; have IN := hid hin; have F1 := hid (FA.out.trans fr1.nil); have C0 := hid (fr1.keep _ _ A0.out (.inr (by simp))); have C1 := hid (fr1.keep _ _ A1.out (.inr (by simp))); have hsA := FA.out.size; clear cr1 ci1 hin fr1))
 have hl0 := lt_of_get C0.out
 have hl1 := lt_of_get C1.out
 have FB := hid ((Fr.refl w1.heap.size [] w1).alloc (.cells #[.slice ua c'.txns.length ucap, .slice ob c'.order.length obcap] 26))
 have D0 := hid (FB.out.keep _ _ C0.out (.inr (by simp)))
 have D1 := hid (FB.out.keep _ _ C1.out (.inr (by simp)))
 have DX := hid (heap_alloc_new w1 (.cells #[.slice ua c'.txns.length ucap, .slice ob c'.order.length obcap] 26))
 have F2 := hid (F1.out.trans FB.out.nil)
 have CR2 := hid ((CR.out.lower (lo' := lo) (Nat.le_trans hlo hsA)).grow FB.out)
 obtain ⟨W, hW⟩ : ∃ W : World, W = w1.alloc (.cells #[.slice ua c'.txns.length ucap, .slice ob c'.order.length obcap] 26) := ⟨_, rfl⟩
 obtain ⟨X, hX⟩ : ∃ X, X = w1.heap.size := ⟨_, rfl⟩
 rw [← hW] at D0 D1 DX F2 CR2 ⊢
 rw [← hX] at DX ⊢
 have hX0 : X ≠ w.heap.size := by omega
 have hX1 : X ≠ w.heap.size + 1 := by omega
 clear hX hW FB C0 C1 CR F1 hl0 hl1 A0 A1
 have p0 := cell_of (o := 0) D0.out rfl
 have p1 := cell_of (o := 1) D0.out rfl
 have p2 := cell_of (o := 2) D0.out rfl
 have p3 := cell_of (o := 3) D0.out rfl
 have p4 := fun o => free_of (o := o) D1.out
 have p5 := cell_of (o := 0) D1.out rfl
 have p6 := cell_of (o := 1) D1.out rfl
 have p7 := cell_of (o := 2) D1.out rfl
 have p8 := cell_of (o := 3) D1.out rfl
 have hl0 := lt_of_get D0.out
 have hl1 := lt_of_get D1.out
 rcases ok with _ | _
 ·go_wp2
  have h4 := box4 (u1 := .slice ta d.co.txns.length tcap) (u2 := .slice oa d.co.order.length ocap) (u3 := .slice sa d.shards.length scap) (u4 := .slice na d.net.length ncap) D1.out
  have g0 := cell_of (o := 0) h4 rfl
  have g1 := cell_of (o := 1) h4 rfl
  have g2 := cell_of (o := 2) h4 rfl
  have g3 := cell_of (o := 3) h4 rfl
  have FT := box4_fr (u1 := .slice ta d.co.txns.length tcap) (u2 := .slice oa d.co.order.length ocap) (u3 := .slice sa d.shards.length scap) (u4 := .slice na d.net.length ncap) D1.out
  exact bodyPost_ret (v := .agg #[.slice ta d.co.txns.length tcap, .slice oa d.co.order.length ocap, .slice sa d.shards.length scap, .slice na d.net.length ncap]) (by simp [results, Tryz.results183, go_sem, g0, g1, g2, g3]) rfl ⟨_, _, _, _, d, rfl, (HV.out.grow F2.out).tk FT (by simp [Apt]), WI.out, (((F2.out.setNew (p := ⟨w.heap.size + 1, 0, none⟩) (by dsimp only; omega) _).setNew (p := ⟨w.heap.size + 1, 1, none⟩) (by dsimp only; omega) _).setNew (p := ⟨w.heap.size + 1, 2, none⟩) (by dsimp only; omega) _).setNew (by dsimp only; omega) _⟩
 ·obtain ⟨k, rfl⟩ := Int.eq_ofNat_of_zero_le (IN.out rfl).1
  have hkl : k < c'.txns.length := by have := (IN.out rfl).2; omega
  have x0 := cell_of (o := 0) DX.out rfl
  have x1 := cell_of (o := 1) DX.out rfl
  have p9 := fun o => free_of (o := o) D0.out
  have FS := hid (box2p_fr (u1 := .slice ua c'.txns.length ucap) (u2 := .slice ob c'.order.length obcap) D0.out)
  have E0 := hid (box2p (u1 := .slice ua c'.txns.length ucap) (u2 := .slice ob c'.order.length obcap) D0.out)
  have E1 := hid (block_setne (p := ⟨w.heap.size, 1, none⟩) (u := .slice ob c'.order.length obcap) (block_setne (p := ⟨w.heap.size, 0, none⟩) (u := .slice ua c'.txns.length ucap) D1.out (by dsimp only; omega)) (by dsimp only; omega))
  have FV := hid ((F2.out.setNew (p := ⟨w.heap.size, 0, none⟩) (by dsimp only; omega) (.slice ua c'.txns.length ucap)).setNew (p := ⟨w.heap.size, 1, none⟩) (by dsimp only; omega) (.slice ob c'.order.length obcap))
  have WR := hid (show WdR lo ((W.setCell ⟨w.heap.size, 0, none⟩ (.slice ua c'.txns.length ucap)).setCell ⟨w.heap.size, 1, none⟩ (.slice ob c'.order.length obcap)) (.slice ua c'.txns.length ucap) (.slice ob c'.order.length obcap) (.slice sa d.shards.length scap) (.slice na d.net.length ncap) ⟨c', d.shards, d.net⟩ from
   WdR.tk ⟨CR2.out, (HV.out.grow F2.out).2.1, (HV.out.grow F2.out).2.2⟩ FS.out (by simp [Apt]))
  go_wp2_with (go_at_call 159; go_must (refine (l51Tell_any lo _ _ _ _ ⟨c', d.shards, d.net⟩ k _ WR.out (Nat.le_trans hlo FV.out.size) hkl (CI.out.1 _ (List.getElem_mem hkl)) WI.out.2.2.2 (by have := CI.out.2.1; simp only; omega)).mono ?_; rintro e w2 ⟨u4, ms, rfl, nr, ni, fr2⟩; obtain ⟨nb, ncap', rfl, _, _⟩ := nr.shape; have NR := hid nr; have NI := hid ni; have FR2 := hid fr2; have G1 := hid (fr2.keep _ _ E1.out (.inr (by simp))); have s4 := fun o => free_of (o := o) G1.out; have s5 := cell_of (o := 0) G1.out rfl; have s6 := cell_of (o := 1) G1.out rfl; have s7 := cell_of (o := 2) G1.out rfl; have s8 := cell_of (o := 3) G1.out rfl; have hlG := lt_of_get G1.out; clear nr ni fr2))
  have h4 := box4 (u1 := .slice ua c'.txns.length ucap) (u2 := .slice ob c'.order.length obcap) (u3 := .slice sa d.shards.length scap) (u4 := .slice nb ms.length ncap') G1.out
  have g0 := cell_of (o := 0) h4 rfl
  have g1 := cell_of (o := 1) h4 rfl
  have g2 := cell_of (o := 2) h4 rfl
  have g3 := cell_of (o := 3) h4 rfl
  have FT := box4_fr (u1 := .slice ua c'.txns.length ucap) (u2 := .slice ob c'.order.length obcap) (u3 := .slice sa d.shards.length scap) (u4 := .slice nb ms.length ncap') G1.out
  have WR2 : WdR lo w2 (.slice ua c'.txns.length ucap) (.slice ob c'.order.length obcap) (.slice sa d.shards.length scap) (.slice nb ms.length ncap') ⟨c', d.shards, ms⟩ := ⟨(WR.out.grow FR2.out).1, (WR.out.grow FR2.out).2.1, NR.out⟩
  exact bodyPost_ret (v := .agg #[.slice ua c'.txns.length ucap, .slice ob c'.order.length obcap, .slice sa d.shards.length scap, .slice nb ms.length ncap']) (by simp [results, Tryz.results183, go_sem, g0, g1, g2, g3]) rfl ⟨_, _, _, _, ⟨c', d.shards, ms⟩, rfl, WR2.tk FT (by simp [Apt]), ⟨CI.out, WI.out.2.1, WI.out.2.2.1, NI.out⟩, ((((FV.out.trans FR2.out.nil).setNew (p := ⟨w.heap.size + 1, 0, none⟩) (by dsimp only; omega) _).setNew (p := ⟨w.heap.size + 1, 1, none⟩) (by dsimp only; omega) _).setNew (p := ⟨w.heap.size + 1, 2, none⟩) (by dsimp only; omega) _).setNew (by dsimp only; omega) _⟩

theorem oneRecs {lo : Nat} {w : World} {zs : List (List Rc × Value)} (h : ∀ z ∈ zs, RecsR (new lo) w z.2 z.1) : ∀ u ∈ zs.map (·.2), u.oneCell' = true := by
 intro u hu
 obtain ⟨z, hz, rfl⟩ := List.mem_map.1 hu
 obtain ⟨a, cap, e, _⟩ := (h z hz).shape
 rw [e]
 rfl

theorem ng3 {n g : Nat} (h : n + 3 ≤ g) : g ≠ n ∧ g ≠ n + 1 ∧ g ≠ n + 2 := by omega

theorem ownsRow_cell {lo E n g cap : Nat} {w : World} {v : Value} {cs : List Value} (h : w.ownsRow lo E 1 v n cs) (hv : v = .slice (some ⟨g, 0, none⟩) n cap) {j : Nat} (hj : j < cs.length) : w.cell? ⟨g, j, none⟩ = some cs[j] := by
 subst hv
 have := World.ownsRow.cellAt h j (by have := h.1; omega)
 rw [this, List.getElem?_eq_getElem hj]

set_option maxRecDepth 20000 in
set_option maxHeartbeats 4000000 in
theorem l51Put_any (lo : Nat) (v1 v2 v3 v4 vs : Value) (d : Wd) (k : Nat) (rs : List Rc) (w : World) (hv : WdR lo w v1 v2 v3 v4 d) (hlo : lo ≤ w.heap.size) (hk : k < d.shards.length) (hl : d.shards.length ≤ 1000) (hr : RecsR (new lo) w vs rs) :
  Calls Tryz.prog 182 #[.agg #[v1, v2, v3, v4], .int .i64 k, .agg #[vs]] w fun e w' =>
   ∃ u3, e = .returned (.agg #[v1, v2, u3, v4]) ∧ ShardsR lo w' u3 (d.shards.set k rs) ∧ Fr w.heap.size [] w w' := by
 obtain ⟨ta, tcap, rfl, _, _⟩ := hv.1.1.shape
 obtain ⟨oa, ocap, rfl, _, _⟩ := hv.1.2.shape
 obtain ⟨sa, scap, rfl, _, _⟩ := hv.2.1.shape
 obtain ⟨na, ncap, rfl, hnc, _⟩ := hv.2.2.shape
 obtain ⟨ra, rcap, rfl, _, _⟩ := hr.shape
 obtain ⟨is, his, hsz0, hsz1, hsz2⟩ := info_parts infoS
 obtain ⟨zs, z1, z2, z3⟩ := hv.2.1
 have HR := hid hr
 have hzl : zs.length = d.shards.length := by rw [← z1]; simp
 have FA := hid ((((Fr.refl w.heap.size [] w).alloc (.cells #[.slice ta d.co.txns.length tcap, .slice oa d.co.order.length ocap, .slice sa d.shards.length scap, .slice na d.net.length ncap] 30)).alloc (.cells #[.slice ra rs.length rcap] 81)).alloc (.cells #[.slice none 0 0, .slice none 0 0, .slice none 0 0, .slice none 0 0] 30))
 have A0 := hid (heap_up (heap_up (heap_alloc_new w (.cells #[.slice ta d.co.txns.length tcap, .slice oa d.co.order.length ocap, .slice sa d.shards.length scap, .slice na d.net.length ncap] 30)) (.cells #[.slice ra rs.length rcap] 81)) (.cells #[.slice none 0 0, .slice none 0 0, .slice none 0 0, .slice none 0 0] 30))
 have A1 := hid (show (((w.alloc (.cells #[.slice ta d.co.txns.length tcap, .slice oa d.co.order.length ocap, .slice sa d.shards.length scap, .slice na d.net.length ncap] 30)).alloc (.cells #[.slice ra rs.length rcap] 81)).alloc (.cells #[.slice none 0 0, .slice none 0 0, .slice none 0 0, .slice none 0 0] 30)).heap[w.heap.size + 1]? = some (.cells #[.slice ra rs.length rcap] 81 (0, 0)) by
  have := heap_up (heap_alloc_new (w.alloc (.cells #[.slice ta d.co.txns.length tcap, .slice oa d.co.order.length ocap, .slice sa d.shards.length scap, .slice na d.net.length ncap] 30)) (.cells #[.slice ra rs.length rcap] 81)) (.cells #[.slice none 0 0, .slice none 0 0, .slice none 0 0, .slice none 0 0] 30)
  simpa using this)
 have A2 := hid (show (((w.alloc (.cells #[.slice ta d.co.txns.length tcap, .slice oa d.co.order.length ocap, .slice sa d.shards.length scap, .slice na d.net.length ncap] 30)).alloc (.cells #[.slice ra rs.length rcap] 81)).alloc (.cells #[.slice none 0 0, .slice none 0 0, .slice none 0 0, .slice none 0 0] 30)).heap[w.heap.size + 2]? = some (.cells #[.slice none 0 0, .slice none 0 0, .slice none 0 0, .slice none 0 0] 30 (0, 0)) by
  have := heap_alloc_new ((w.alloc (.cells #[.slice ta d.co.txns.length tcap, .slice oa d.co.order.length ocap, .slice sa d.shards.length scap, .slice na d.net.length ncap] 30)).alloc (.cells #[.slice ra rs.length rcap] 81)) (.cells #[.slice none 0 0, .slice none 0 0, .slice none 0 0, .slice none 0 0] 30)
  simpa using this)
 have Z1 := hid z1
 have Z2 := hid z2
 have Z3 := hid z3
 have hki : (k : Int) < (d.shards.length : Int) := by omega
 have hkz : k < (zs.map (·.2)).length := by simp [hzl, hk]
 clear hv hr z1 z2 z3
 go_enter Tryz.func182, Tryz.ntmps182
 go_wp2_with (at_builtin; refine wpList_clone rfl _ _ 27 rfl 81 is (.agg #[.slice none 0 0]) 1 24 Tryz.underlying27 his hsz0 hsz1 hsz2 rfl (by decide) _ (by rfl) (by simp [World.setCell]) (new lo) 81 _ _ _ (by rfl) (SlR.keep Z2.out FA.out (Safe.new (by simp))) (oneRecs Z3.out) (by unfold maxLen; omega) (by omega) ?_; intro v2 w2 own2 fr2; go_must (obtain ⟨g, gcap, rfl, hg1, hg2, _⟩ := own_shape own2 (by omega); obtain ⟨cg, hcg⟩ := own_tag' own2 (k := g) rfl; have OWN := hid own2; have CG := hid hcg; clear own2; have FR2 := hid fr2; have B0 := hid (fr2.keep _ _ A0.out (.inr (by simp))); have B1 := hid (fr2.keep _ _ A1.out (.inr (by simp))); have B2 := hid (fr2.keep _ _ A2.out (.inr (by simp))); have c0 := cell_of (o := 0) B0.out rfl; have c1 := cell_of (o := 1) B0.out rfl; have c2 := cell_of (o := 2) B0.out rfl; have c3 := cell_of (o := 3) B0.out rfl; have c4 := cell_of (o := 0) B1.out rfl; have c5 := free_of (o := 2) B0.out; have c6 := fun o => free_of (o := o) B2.out; have c7 := cell_of (o := 0) B2.out rfl; have c8 := cell_of (o := 1) B2.out rfl; have c9 := cell_of (o := 2) B2.out rfl; have c10 := cell_of (o := 3) B2.out rfl; have hgn : w.heap.size + 3 ≤ g := Nat.le_trans (Nat.le_of_eq (by simp)) hg1; have hl0 := lt_of_get B0.out; have hl1 := lt_of_get B1.out; have hl2 := lt_of_get B2.out; have e0 := ownsRow_cell OWN.out (g := g) rfl hkz; have e1 := free_of (o := k) CG.out; obtain ⟨ng0, ng1, ng2⟩ := ng3 hgn; clear hg1 hcg fr2))
 have FS := (Fr.refl 0 [81] w2).setOld (p := ⟨g, k, none⟩) CG.out (Nat.zero_le _) (by simp [otag]) (.slice ra rs.length rcap)
 have b0 := block_setne (p := ⟨g, k, none⟩) (u := .slice ra rs.length rcap) B0.out (fun e => ng0 e.symm)
 have b2 := block_setne (p := ⟨g, k, none⟩) (u := .slice ra rs.length rcap) B2.out (fun e => ng2 e.symm)
 have FM := (Fr.refl 0 [30] (w2.setCell ⟨g, k, none⟩ (.slice ra rs.length rcap))).setOld (p := ⟨w.heap.size, 2, none⟩) b0 (Nat.zero_le _) (by simp [otag]) (.slice (some ⟨g, 0, none⟩) d.shards.length gcap)
 have b3 := block_setne (p := ⟨w.heap.size, 2, none⟩) (u := .slice (some ⟨g, 0, none⟩) d.shards.length gcap) b2 (by dsimp only; omega)
 have h4 := box4 (u1 := .slice ta d.co.txns.length tcap) (u2 := .slice oa d.co.order.length ocap) (u3 := .slice (some ⟨g, 0, none⟩) d.shards.length gcap) (u4 := .slice na d.net.length ncap) b3
 have g0 := cell_of (o := 0) h4 rfl
 have g1 := cell_of (o := 1) h4 rfl
 have g2 := cell_of (o := 2) h4 rfl
 have g3 := cell_of (o := 3) h4 rfl
 have FT := box4_fr (u1 := .slice ta d.co.txns.length tcap) (u2 := .slice oa d.co.order.length ocap) (u3 := .slice (some ⟨g, 0, none⟩) d.shards.length gcap) (u4 := .slice na d.net.length ncap) b3
 have FW2 := FA.out.trans FR2.out.nil
 have hzk : k < zs.length := by omega
 have SR : ShardsR lo (w2.setCell ⟨g, k, none⟩ (.slice ra rs.length rcap)) (.slice (some ⟨g, 0, none⟩) d.shards.length gcap) (d.shards.set k rs) := by
  refine ⟨zs.set k (rs, .slice ra rs.length rcap), by rw [List.map_set, Z1.out], ?_, fun z hz => ?_⟩
  ·have h := (SlR.ofOwns (World.ownsRow.stored OWN.out k (.slice ra rs.length rcap)).1).weak (new_low (Nat.le_trans hlo FA.out.size))
   rw [List.map_set, List.length_set]
   exact h
  ·rcases List.mem_or_eq_of_mem_set hz with hz | rfl
   ·exact ((Z3.out z hz).tk FW2 (by simp) (by simp)).tk FS (by simp) (by simp)
   ·exact (HR.out.tk FW2 (by simp) (by simp)).tk FS (by simp) (by simp)
 exact bodyPost_ret (v := .agg #[.slice ta d.co.txns.length tcap, .slice oa d.co.order.length ocap, .slice (some ⟨g, 0, none⟩) d.shards.length gcap, .slice na d.net.length ncap]) (by simp [results, Tryz.results182, go_sem, g0, g1, g2, g3]) rfl ⟨_, rfl, (SR.tk FM (by simp) (by simp) (by simp)).tk FT (by simp) (by simp) (by simp), (((((FW2.setNew (p := ⟨g, k, none⟩) (by dsimp only; omega) _).setNew (p := ⟨w.heap.size, 2, none⟩) (by dsimp only; omega) _).setNew (p := ⟨w.heap.size + 2, 0, none⟩) (by dsimp only; omega) _).setNew (p := ⟨w.heap.size + 2, 1, none⟩) (by dsimp only; omega) _).setNew (p := ⟨w.heap.size + 2, 2, none⟩) (by dsimp only; omega) _).setNew (by dsimp only; omega) _⟩

end Go.Proofs.YtknoanpgadecbaaGreatDoor
