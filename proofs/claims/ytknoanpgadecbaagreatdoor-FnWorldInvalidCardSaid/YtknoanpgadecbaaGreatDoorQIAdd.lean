/- The program's history: add, read. -/
import Derived.Test.YtknoanpgadecbaaGreatDoorQIHist
import Derived.Test.YtknoanpgadecbaaGreatDoorQM2
set_option linter.unusedVariables false
set_option linter.unusedSimpArgs false
namespace Go.Proofs.YtknoanpgadecbaaGreatDoor
open Go.RowKit
set_option linter.unusedVariables false

def stepV (r : Rc) (vu : Value) : Value :=
 if inR r.txn 0 11 = false then .iface 212 (.agg #[])
 else if r.kind = 1 then .iface 237 (.agg #[vu])
 else if r.kind = 2 ∧ r.ups.length = 0 then .iface 238 (.agg #[])
 else if r.kind = 3 ∧ r.ups.length = 0 then .iface 239 (.agg #[])
 else .iface 212 (.agg #[])

set_option maxRecDepth 20000 in
set_option maxHeartbeats 1000000 in
theorem stepOf_any (K : Nat → Bool → Prop) (vu : Value) (r : Rc) (w : World) (hu : UpsR K w vu r.ups) :
  Calls Tryz.prog 151 #[.agg #[.int .i64 r.kind, .int .i64 r.txn, vu]] w fun e w' => e = .returned (stepV r vu) ∧ Fr w.heap.size [] w w' := by
 obtain ⟨ua, ucap, rfl, _, _⟩ := hu.shape
 clear hu
 have hS := hid (show ∀ v, stepV r v = stepV r v from fun _ => rfl)
 cases g1 : inR r.txn 0 11
 ·have hz := hid (show stepV r (.slice ua r.ups.length ucap) = .iface 212 (.agg #[]) by unfold stepV; rw [if_pos g1])
  go_enter Tryz.func151, Tryz.ntmps151
  go_wp2_with (go_at_call 66; go_must (refine (isTxn_any _ _).mono ?_; rintro e w' ⟨rfl, rfl⟩))
  go_ret
  exact ⟨by rw [hz.out]; rfl, (Fr.refl _ _ _).alloc _⟩
 ·have hn : ¬ inR r.txn 0 11 = false := by rw [g1]; decide
  cases k1 : r.kind == 1
  ·have k1' : ¬ r.kind = 1 := by simpa using k1
   cases k2 : r.kind == 2
   ·have k2' : ¬ r.kind = 2 := by simpa using k2
    cases k3 : r.kind == 3
    ·have k3' : ¬ r.kind = 3 := by simpa using k3
     have hz := hid (show stepV r (.slice ua r.ups.length ucap) = .iface 212 (.agg #[]) by unfold stepV; rw [if_neg hn, if_neg k1', if_neg (fun h => k2' h.1), if_neg (fun h => k3' h.1)])
     clear hn k1' k2' k3'
     go_enter Tryz.func151, Tryz.ntmps151
     go_wp2_with (go_at_call 66; go_must (refine (isTxn_any _ _).mono ?_; rintro e w' ⟨rfl, rfl⟩))
     go_ret
     exact ⟨by rw [hz.out]; rfl, (Fr.refl _ _ _).alloc _⟩
    ·have k3' : r.kind = 3 := by simpa using k3
     cases hl : ((r.ups.length : Int) == 0)
     ·have hl' : ¬ r.ups.length = 0 := by simp at hl; simpa using hl
      have hz := hid (show stepV r (.slice ua r.ups.length ucap) = .iface 212 (.agg #[]) by unfold stepV; rw [if_neg hn, if_neg k1', if_neg (fun h => k2' h.1), if_neg (fun h => hl' h.2)])
      clear hn k1' k2' k3' hl'
      go_enter Tryz.func151, Tryz.ntmps151
      go_wp2_with (go_at_call 66; go_must (refine (isTxn_any _ _).mono ?_; rintro e w' ⟨rfl, rfl⟩))
      go_ret
      exact ⟨by rw [hz.out]; rfl, (Fr.refl _ _ _).alloc _⟩
     ·have hl' : r.ups.length = 0 := by simp at hl; simpa using hl
      have hz := hid (show stepV r (.slice ua r.ups.length ucap) = .iface 239 (.agg #[]) by unfold stepV; rw [if_neg hn, if_neg k1', if_neg (fun h => k2' h.1), if_pos ⟨k3', hl'⟩])
      clear hn k1' k2' k3' hl'
      go_enter Tryz.func151, Tryz.ntmps151
      go_wp2_with (go_at_call 66; go_must (refine (isTxn_any _ _).mono ?_; rintro e w' ⟨rfl, rfl⟩))
      go_ret
      exact ⟨by rw [hz.out]; rfl, (Fr.refl _ _ _).alloc _⟩
   ·have k2' : r.kind = 2 := by simpa using k2
    have k3 : (r.kind == 3) = false := by rw [k2']; decide
    cases hl : ((r.ups.length : Int) == 0)
    ·have hl' : ¬ r.ups.length = 0 := by simp at hl; simpa using hl
     have hz := hid (show stepV r (.slice ua r.ups.length ucap) = .iface 212 (.agg #[]) by unfold stepV; rw [if_neg hn, if_neg k1', if_neg (fun h => hl' h.2), if_neg (fun h => hl' h.2)])
     clear hn k1' k2' hl'
     go_enter Tryz.func151, Tryz.ntmps151
     go_wp2_with (go_at_call 66; go_must (refine (isTxn_any _ _).mono ?_; rintro e w' ⟨rfl, rfl⟩))
     go_ret
     exact ⟨by rw [hz.out]; rfl, (Fr.refl _ _ _).alloc _⟩
    ·have hl' : r.ups.length = 0 := by simp at hl; simpa using hl
     have hz := hid (show stepV r (.slice ua r.ups.length ucap) = .iface 238 (.agg #[]) by unfold stepV; rw [if_neg hn, if_neg k1', if_pos ⟨k2', hl'⟩])
     clear hn k1' k2' hl'
     go_enter Tryz.func151, Tryz.ntmps151
     go_wp2_with (go_at_call 66; go_must (refine (isTxn_any _ _).mono ?_; rintro e w' ⟨rfl, rfl⟩))
     go_ret
     exact ⟨by rw [hz.out]; rfl, (Fr.refl _ _ _).alloc _⟩
  ·have k1' : r.kind = 1 := by simpa using k1
   have hz := hid (show stepV r (.slice ua r.ups.length ucap) = .iface 237 (.agg #[.slice ua r.ups.length ucap]) by unfold stepV; rw [if_neg hn, if_pos k1'])
   clear hn k1'
   go_enter Tryz.func151, Tryz.ntmps151
   go_wp2_with (go_at_call 66; go_must (refine (isTxn_any _ _).mono ?_; rintro e w' ⟨rfl, rfl⟩))
   go_ret
   exact ⟨by rw [hz.out]; rfl, (Fr.refl _ _ _).alloc _⟩

theorem Hist.store {lo : Nat} {w : World} {h l m n : Nat} {s : St} {f : Int → Option Rc} (hh : Hist lo w h l m n s f) (r : Rc) (u : Value) (hn : n < maxLen) (ht : inR r.txn 0 11 = true) (hu : UpsR (old lo) w u r.ups) (hul : r.ups.length ≤ 1000000000)
  (hin : r.kind = 1 → ∀ k (hk : k < r.ups.length), 0 ≤ r.ups[k].ref ∧ r.ups[k].ref ≤ 3) :
  ∃ w', (Instr.mapUpdate 124 (.map (some m)) (.int .i64 r.txn) (.agg #[.int .i64 r.kind, .int .i64 r.txn, u])).run Tryz.prog w = .ok () w' ∧ Hist lo w' h l m (n + 1) s (upd f r.txn r) ∧ Fr lo histT w w' := by
 obtain ⟨p1, p2, p3, p4, p5, p6, p7, g, p8, p9⟩ := hh
 have hb := inR_iff.1 ht
 obtain ⟨w', hr, hm, hg⟩ := p8.store 124 94 Tryz.underlying124 hn r.txn (.agg #[.int .i64 r.kind, .int .i64 r.txn, u]) (wf64 (by omega))
 obtain ⟨o, ho, hot⟩ := p8.tag
 have fr : Fr lo [1000000] w w' := Fr.ofGrown hg fun k x hk hx => by
  cases hk
  rw [ho] at hx
  cases hx
  exact ⟨p3, by rw [hot]; simp⟩
 refine ⟨w', hr, ⟨p1, p2, p3, p4, p5, fr.keep _ _ p6 (.inr (by simp [otag])), fr.keep _ _ p7 (.inr (by simp [otag])), _, hm, fun t => ?_⟩, fr.mono (Nat.le_refl _) (by simp)⟩
 unfold upd
 by_cases e : t = r.txn
 ·rw [if_pos e, if_pos e]
  exact ⟨u, rfl, hu.keep fr (Safe.old (Nat.le_refl _)), hul, hin⟩
 ·rw [if_neg e, if_neg e]
  exact (p9 t).keep fr (Nat.le_refl _)

def AddP (lo h l m n : Nat) (s : St) (f : Int → Option Rc) (r : Rc) (w : World) (e : Ending) (w' : World) : Prop :=
 ∃ x : Bool, e = .returned (.bool x) ∧ x = (istepO (f r.txn) s r).isSome ∧ (∀ s', istepO (f r.txn) s r = some s' → Hist lo w' h l m (n + 1) s' (upd f r.txn r)) ∧ Fr lo histT w w'

set_option maxRecDepth 20000 in
set_option maxHeartbeats 1000000 in
theorem add_none (lo : Nat) (h l m n : Nat) (s : St) (f : Int → Option Rc) (vu : Value) (r : Rc) (w : World) (hu : UpsR (old lo) w vu r.ups) (hz : stepV r vu = .iface 212 (.agg #[])) (hi : istepO (f r.txn) s r = none) :
  Calls Tryz.prog 102 #[.pointer (some ⟨h, 0, none⟩), .agg #[.int .i64 r.kind, .int .i64 r.txn, vu]] w (AddP lo h l m n s f r w) := by
 obtain ⟨ua, ucap, rfl, _, _⟩ := hu.shape
 have HU := hid hu
 have HZ := hid hz
 have HI := hid hi
 clear hu hz hi
 have hta : ∀ w : World, (Instr.typeAssert (.iface 212 (.agg #[])) 210 212 true).run Tryz.prog w = .ok (.tuple #[.agg #[], .bool true]) w := fun w => by kernel_rfl
 go_enter Tryz.func102, Tryz.ntmps102
 go_wp2_with (go_at_call 151; go_must (refine (stepOf_any (old lo) _ r _ (HU.out.grow ((Fr.refl 0 [] w).alloc (.cells #[.int .i64 r.kind, .int .i64 r.txn, .slice ua r.ups.length ucap] 94)))).mono ?_; rintro e w1 ⟨he, fr1⟩; rw [HZ.out] at he; subst he))
 go_ret
 exact ⟨false, rfl, by rw [HI.out]; rfl, fun s' hs => (by rw [HI.out] at hs; cases hs), ((((Fr.refl lo histT w).alloc _).trans fr1.nil).alloc _)⟩

set_option maxRecDepth 20000 in
set_option maxHeartbeats 2000000 in
theorem add_aborts (lo : Nat) (h l m n : Nat) (s : St) (f : Int → Option Rc) (ua : Option Addr) (ucap : Nat) (r : Rc) (w : World) (hh : Hist lo w h l m n s f) (hn : n ≤ 1000000000) (hul : r.ups.length ≤ 1000000000) (hu : UpsR (old lo) w (.slice ua r.ups.length ucap) r.ups) (ht : inR r.txn 0 11 = true) (hz : stepV r (.slice ua r.ups.length ucap) = .iface 239 (.agg #[]))
  (hin : ∀ s', istepO (f r.txn) s r = some s' → r.kind = 1 → ∀ k (hk : k < r.ups.length), 0 ≤ r.ups[k].ref ∧ r.ups[k].ref ≤ 3)
  (hQ : ∀ w1, Hist lo w1 h l m n s f → UpsR (old lo) w1 (.slice ua r.ups.length ucap) r.ups → Calls Tryz.prog 262 #[(.agg #[]), .pointer (some ⟨h, 0, none⟩), .int .i64 r.txn] w1 fun e w' => (∃ x : Bool, e = .returned (.bool x) ∧ x = (istepO (f r.txn) s r).isSome ∧ (∀ s', istepO (f r.txn) s r = some s' → Hist lo w' h l m n s' f)) ∧ Fr lo histT w1 w') :
  Calls Tryz.prog 102 #[.pointer (some ⟨h, 0, none⟩), .agg #[.int .i64 r.kind, .int .i64 r.txn, .slice ua r.ups.length ucap]] w (AddP lo h l m n s f r w) := by
 have HH := hid hh
 have HU := hid hu
 have HZ := hid hz
 have HT := hid ht
 have HQ := hid hQ
 have HIN := hid hin
 have hlh := lt_of_get hh.refsAt.1
 have hlo := hh.refsAt.2.2.1
 clear hh hu hz ht hQ hin
 have hta : ∀ w : World, (Instr.typeAssert (.iface 239 (.agg #[])) 210 212 true).run Tryz.prog w = .ok (.tuple #[.agg #[], .bool false]) w := fun w => by kernel_rfl
 have hme : ∀ w : World, (method 414 239 (.agg #[]) "loop.example/atomicpush/impl.follow").run Tryz.prog w = .ok (262, (.agg #[])) w := fun w => by kernel_rfl
 rcases hi : istepO (f r.txn) s r with _ | s'
 all_goals
  have HI := hid hi
  clear hi
  go_enter Tryz.func102, Tryz.ntmps102
  go_wp2_with (first
   | (go_at_call 151; go_must (refine (stepOf_any (old lo) _ r _ (HU.out.grow ((Fr.refl 0 [] w).alloc (.cells #[.int .i64 r.kind, .int .i64 r.txn, .slice ua r.ups.length ucap] 94)))).mono ?_; rintro e w1 ⟨he, fr1⟩; rw [HZ.out] at he; subst he; have F1 := hid ((((Fr.refl 0 [] w).alloc (.cells #[.int .i64 r.kind, .int .i64 r.txn, .slice ua r.ups.length ucap] 94)).trans fr1.nil)); have b1 := fr1.keep _ _ (heap_alloc_new w (.cells #[.int .i64 r.kind, .int .i64 r.txn, .slice ua r.ups.length ucap] 94)) (.inr (by simp)); have B1 := hid b1; have c0 := cell_of (o := 0) b1 rfl; have c1 := cell_of (o := 1) b1 rfl; have c2 := cell_of (o := 2) b1 rfl; clear b1))
   | (go_at_call 262; go_must (refine (HQ.out _ (HH.out.grow F1.out) (HU.out.grow F1.out)).mono ?_; rintro e w2 ⟨⟨x, rfl, hx, hs⟩, fr2⟩; have b2 := fr2.keep _ _ B1.out (.inr (by simp [otag])); have d0 := cell_of (o := 0) b2 rfl; have d1 := cell_of (o := 1) b2 rfl; have d2 := cell_of (o := 2) b2 rfl; have HS := hid hs; have FR2 := hid ((F1.out.nil (B' := lo) (T := histT)).trans fr2); rw [HI.out] at hx; subst hx; clear b2 hs c0 c1 c2)))
 ·go_ret
  exact ⟨false, rfl, by rw [HI.out]; rfl, fun s' hs => (by rw [HI.out] at hs; cases hs), FR2.out⟩
 ·have H2 := HS.out s' HI.out
  obtain ⟨w3, hr, hh3, fr3⟩ := (H2.grow (Fr.refl 0 [] w2).drew).store r (.slice ua r.ups.length ucap) (by unfold maxLen; omega) HT.out (HU.out.keep (FR2.out.drew) (Safe.old (Nat.le_refl _))) hul (HIN.out s' HI.out)
  obtain ⟨c4, c5⟩ := hist_more H2.refsAt.1 H2.refsAt.2.1
  have H3 := hid hh3
  clear H2 hh3
  go_region
  go_wp2
  go_ret
  exact ⟨true, rfl, by rw [HI.out]; rfl, fun s'' hs => (by rw [HI.out] at hs; cases hs; exact H3.out), FR2.out.drew.trans fr3⟩

set_option maxRecDepth 20000 in
set_option maxHeartbeats 2000000 in
theorem add_commits (lo : Nat) (h l m n : Nat) (s : St) (f : Int → Option Rc) (ua : Option Addr) (ucap : Nat) (r : Rc) (w : World) (hh : Hist lo w h l m n s f) (hn : n ≤ 1000000000) (hul : r.ups.length ≤ 1000000000) (hu : UpsR (old lo) w (.slice ua r.ups.length ucap) r.ups) (ht : inR r.txn 0 11 = true) (hz : stepV r (.slice ua r.ups.length ucap) = .iface 238 (.agg #[]))
  (hin : ∀ s', istepO (f r.txn) s r = some s' → r.kind = 1 → ∀ k (hk : k < r.ups.length), 0 ≤ r.ups[k].ref ∧ r.ups[k].ref ≤ 3)
  (hQ : ∀ w1, Hist lo w1 h l m n s f → UpsR (old lo) w1 (.slice ua r.ups.length ucap) r.ups → Calls Tryz.prog 260 #[(.agg #[]), .pointer (some ⟨h, 0, none⟩), .int .i64 r.txn] w1 fun e w' => (∃ x : Bool, e = .returned (.bool x) ∧ x = (istepO (f r.txn) s r).isSome ∧ (∀ s', istepO (f r.txn) s r = some s' → Hist lo w' h l m n s' f)) ∧ Fr lo histT w1 w') :
  Calls Tryz.prog 102 #[.pointer (some ⟨h, 0, none⟩), .agg #[.int .i64 r.kind, .int .i64 r.txn, .slice ua r.ups.length ucap]] w (AddP lo h l m n s f r w) := by
 have HH := hid hh
 have HU := hid hu
 have HZ := hid hz
 have HT := hid ht
 have HQ := hid hQ
 have HIN := hid hin
 have hlh := lt_of_get hh.refsAt.1
 have hlo := hh.refsAt.2.2.1
 clear hh hu hz ht hQ hin
 have hta : ∀ w : World, (Instr.typeAssert (.iface 238 (.agg #[])) 210 212 true).run Tryz.prog w = .ok (.tuple #[.agg #[], .bool false]) w := fun w => by kernel_rfl
 have hme : ∀ w : World, (method 414 238 (.agg #[]) "loop.example/atomicpush/impl.follow").run Tryz.prog w = .ok (260, (.agg #[])) w := fun w => by kernel_rfl
 rcases hi : istepO (f r.txn) s r with _ | s'
 all_goals
  have HI := hid hi
  clear hi
  go_enter Tryz.func102, Tryz.ntmps102
  go_wp2_with (first
   | (go_at_call 151; go_must (refine (stepOf_any (old lo) _ r _ (HU.out.grow ((Fr.refl 0 [] w).alloc (.cells #[.int .i64 r.kind, .int .i64 r.txn, .slice ua r.ups.length ucap] 94)))).mono ?_; rintro e w1 ⟨he, fr1⟩; rw [HZ.out] at he; subst he; have F1 := hid ((((Fr.refl 0 [] w).alloc (.cells #[.int .i64 r.kind, .int .i64 r.txn, .slice ua r.ups.length ucap] 94)).trans fr1.nil)); have b1 := fr1.keep _ _ (heap_alloc_new w (.cells #[.int .i64 r.kind, .int .i64 r.txn, .slice ua r.ups.length ucap] 94)) (.inr (by simp)); have B1 := hid b1; have c0 := cell_of (o := 0) b1 rfl; have c1 := cell_of (o := 1) b1 rfl; have c2 := cell_of (o := 2) b1 rfl; clear b1))
   | (go_at_call 260; go_must (refine (HQ.out _ (HH.out.grow F1.out) (HU.out.grow F1.out)).mono ?_; rintro e w2 ⟨⟨x, rfl, hx, hs⟩, fr2⟩; have b2 := fr2.keep _ _ B1.out (.inr (by simp [otag])); have d0 := cell_of (o := 0) b2 rfl; have d1 := cell_of (o := 1) b2 rfl; have d2 := cell_of (o := 2) b2 rfl; have HS := hid hs; have FR2 := hid ((F1.out.nil (B' := lo) (T := histT)).trans fr2); rw [HI.out] at hx; subst hx; clear b2 hs c0 c1 c2)))
 ·go_ret
  exact ⟨false, rfl, by rw [HI.out]; rfl, fun s' hs => (by rw [HI.out] at hs; cases hs), FR2.out⟩
 ·have H2 := HS.out s' HI.out
  obtain ⟨w3, hr, hh3, fr3⟩ := (H2.grow (Fr.refl 0 [] w2).drew).store r (.slice ua r.ups.length ucap) (by unfold maxLen; omega) HT.out (HU.out.keep (FR2.out.drew) (Safe.old (Nat.le_refl _))) hul (HIN.out s' HI.out)
  obtain ⟨c4, c5⟩ := hist_more H2.refsAt.1 H2.refsAt.2.1
  have H3 := hid hh3
  clear H2 hh3
  go_region
  go_wp2
  go_ret
  exact ⟨true, rfl, by rw [HI.out]; rfl, fun s'' hs => (by rw [HI.out] at hs; cases hs; exact H3.out), FR2.out.drew.trans fr3⟩

set_option maxRecDepth 20000 in
set_option maxHeartbeats 2000000 in
theorem add_prepares (lo : Nat) (h l m n : Nat) (s : St) (f : Int → Option Rc) (ua : Option Addr) (ucap : Nat) (r : Rc) (w : World) (hh : Hist lo w h l m n s f) (hn : n ≤ 1000000000) (hul : r.ups.length ≤ 1000000000) (hu : UpsR (old lo) w (.slice ua r.ups.length ucap) r.ups) (ht : inR r.txn 0 11 = true) (hz : stepV r (.slice ua r.ups.length ucap) = .iface 237 (.agg #[.slice ua r.ups.length ucap]))
  (hin : ∀ s', istepO (f r.txn) s r = some s' → r.kind = 1 → ∀ k (hk : k < r.ups.length), 0 ≤ r.ups[k].ref ∧ r.ups[k].ref ≤ 3)
  (hQ : ∀ w1, Hist lo w1 h l m n s f → UpsR (old lo) w1 (.slice ua r.ups.length ucap) r.ups → Calls Tryz.prog 256 #[(.agg #[.slice ua r.ups.length ucap]), .pointer (some ⟨h, 0, none⟩), .int .i64 r.txn] w1 fun e w' => (∃ x : Bool, e = .returned (.bool x) ∧ x = (istepO (f r.txn) s r).isSome ∧ (∀ s', istepO (f r.txn) s r = some s' → Hist lo w' h l m n s' f)) ∧ Fr lo histT w1 w') :
  Calls Tryz.prog 102 #[.pointer (some ⟨h, 0, none⟩), .agg #[.int .i64 r.kind, .int .i64 r.txn, .slice ua r.ups.length ucap]] w (AddP lo h l m n s f r w) := by
 have HH := hid hh
 have HU := hid hu
 have HZ := hid hz
 have HT := hid ht
 have HQ := hid hQ
 have HIN := hid hin
 have hlh := lt_of_get hh.refsAt.1
 have hlo := hh.refsAt.2.2.1
 clear hh hu hz ht hQ hin
 have hta : ∀ w : World, (Instr.typeAssert (.iface 237 (.agg #[.slice ua r.ups.length ucap])) 210 212 true).run Tryz.prog w = .ok (.tuple #[.agg #[], .bool false]) w := fun w => by kernel_rfl
 have hme : ∀ w : World, (method 414 237 (.agg #[.slice ua r.ups.length ucap]) "loop.example/atomicpush/impl.follow").run Tryz.prog w = .ok (256, (.agg #[.slice ua r.ups.length ucap])) w := fun w => by kernel_rfl
 rcases hi : istepO (f r.txn) s r with _ | s'
 all_goals
  have HI := hid hi
  clear hi
  go_enter Tryz.func102, Tryz.ntmps102
  go_wp2_with (first
   | (go_at_call 151; go_must (refine (stepOf_any (old lo) _ r _ (HU.out.grow ((Fr.refl 0 [] w).alloc (.cells #[.int .i64 r.kind, .int .i64 r.txn, .slice ua r.ups.length ucap] 94)))).mono ?_; rintro e w1 ⟨he, fr1⟩; rw [HZ.out] at he; subst he; have F1 := hid ((((Fr.refl 0 [] w).alloc (.cells #[.int .i64 r.kind, .int .i64 r.txn, .slice ua r.ups.length ucap] 94)).trans fr1.nil)); have b1 := fr1.keep _ _ (heap_alloc_new w (.cells #[.int .i64 r.kind, .int .i64 r.txn, .slice ua r.ups.length ucap] 94)) (.inr (by simp)); have B1 := hid b1; have c0 := cell_of (o := 0) b1 rfl; have c1 := cell_of (o := 1) b1 rfl; have c2 := cell_of (o := 2) b1 rfl; clear b1))
   | (go_at_call 256; go_must (refine (HQ.out _ (HH.out.grow F1.out) (HU.out.grow F1.out)).mono ?_; rintro e w2 ⟨⟨x, rfl, hx, hs⟩, fr2⟩; have b2 := fr2.keep _ _ B1.out (.inr (by simp [otag])); have d0 := cell_of (o := 0) b2 rfl; have d1 := cell_of (o := 1) b2 rfl; have d2 := cell_of (o := 2) b2 rfl; have HS := hid hs; have FR2 := hid ((F1.out.nil (B' := lo) (T := histT)).trans fr2); rw [HI.out] at hx; subst hx; clear b2 hs c0 c1 c2)))
 ·go_ret
  exact ⟨false, rfl, by rw [HI.out]; rfl, fun s' hs => (by rw [HI.out] at hs; cases hs), FR2.out⟩
 ·have H2 := HS.out s' HI.out
  obtain ⟨w3, hr, hh3, fr3⟩ := (H2.grow (Fr.refl 0 [] w2).drew).store r (.slice ua r.ups.length ucap) (by unfold maxLen; omega) HT.out (HU.out.keep (FR2.out.drew) (Safe.old (Nat.le_refl _))) hul (HIN.out s' HI.out)
  obtain ⟨c4, c5⟩ := hist_more H2.refsAt.1 H2.refsAt.2.1
  have H3 := hid hh3
  clear H2 hh3
  go_region
  go_wp2
  go_ret
  exact ⟨true, rfl, by rw [HI.out]; rfl, fun s'' hs => (by rw [HI.out] at hs; cases hs; exact H3.out), FR2.out.drew.trans fr3⟩

theorem add_any (lo : Nat) (h l m n : Nat) (s : St) (f : Int → Option Rc) (vu : Value) (r : Rc) (w : World) (hh : Hist lo w h l m n s f) (hn : n ≤ 1000000000) (hul : r.ups.length ≤ 1000000000) (hu : UpsR (old lo) w vu r.ups) (hl : NoLock (f r.txn) s r) :
  Calls Tryz.prog 102 #[.pointer (some ⟨h, 0, none⟩), .agg #[.int .i64 r.kind, .int .i64 r.txn, vu]] w (AddP lo h l m n s f r w) := by
 obtain ⟨ua, ucap, rfl, _, _⟩ := hu.shape
 cases hin : inR r.txn 0 11
 ·exact add_none lo h l m n s f _ r w hu (by unfold stepV; rw [if_pos hin]) (by unfold istepO; rw [if_pos hin])
 ·have hne : ¬ inR r.txn 0 11 = false := by rw [hin]; decide
  by_cases k1 : r.kind = 1
  ·have e : istepO (f r.txn) s r = if (f r.txn).isSome = true ∨ updsOk r.ups = false ∨ fits s.refs r.ups = false ∨ isFree s.locks r.ups = false then none else some ⟨s.refs, takeAll s.locks r.txn r.ups⟩ := by
    unfold istepO; rw [if_neg hne, if_pos k1]
   have hok : ∀ s', istepO (f r.txn) s r = some s' → updsOk r.ups = true := fun s' hs => by
    rw [e] at hs
    split at hs
    ·cases hs
    ·rename_i hh
     cases hu : updsOk r.ups with
     | true => rfl
     | false => exact absurd (.inr (.inl hu)) hh
   refine add_prepares lo h l m n s f ua ucap r w hh hn hul hu hin (by unfold stepV; rw [if_neg hne, if_pos k1]) (fun s' hs _ => updsOk_ref (hok s' hs)) (fun w1 h1 hu1 => (prepares_any lo h l m n s f r.txn _ r.ups w1 h1 hin hu1 hul (fun a b c => hl hin k1 a b c)).mono ?_)
   rintro e' w' ⟨⟨x, rfl, hx, hs⟩, fr⟩
   refine ⟨⟨x, rfl, ?_, fun s' hs' => ?_⟩, fr⟩
   ·rw [e]
    cases x with
    | true =>
     obtain ⟨q1, q2, q3⟩ := hx.1 rfl
     have q4 := hl hin k1 q1 q2 q3
     rw [if_neg (by rw [q1, q2, q3, q4]; decide)]; rfl
    | false =>
     rw [if_pos]; rfl
     apply Classical.byContradiction
     intro hc
     have : false = true := hx.2 ⟨by
      cases hf : f r.txn with
      | none => rfl
      | some y => exact absurd (.inl (by rw [hf]; rfl)) hc, by
      cases hf : updsOk r.ups with
      | true => rfl
      | false => exact absurd (.inr (.inl hf)) hc, by
      cases hf : fits s.refs r.ups with
      | true => rfl
      | false => exact absurd (.inr (.inr (.inl hf))) hc⟩
     cases this
   ·rw [e] at hs'
    split at hs'
    ·cases hs'
    ·rename_i hc
     cases hs'
     refine hs (hx.2 ⟨?_, ?_, ?_⟩)
     ·cases hf : f r.txn with
      | none => rfl
      | some y => exact absurd (.inl (by rw [hf]; rfl)) hc
     ·cases hf : updsOk r.ups with
      | true => rfl
      | false => exact absurd (.inr (.inl hf)) hc
     ·cases hf : fits s.refs r.ups with
      | true => rfl
      | false => exact absurd (.inr (.inr (.inl hf))) hc
  ·by_cases k2 : r.kind = 2 ∧ r.ups.length = 0
   ·have e : istepO (f r.txn) s r = match f r.txn with | some x => if x.kind = 1 then some ⟨setAll s.refs x.ups, freed s.locks r.txn⟩ else none | none => none := by
     unfold istepO; rw [if_neg hne, if_neg k1, if_pos k2]; rfl
    refine add_commits lo h l m n s f ua ucap r w hh hn hul hu hin (by unfold stepV; rw [if_neg hne, if_neg k1, if_pos k2]) (fun s' hs hk => absurd hk k1) (fun w1 h1 hu1 => (commits_any lo h l m n s f r.txn w1 h1 hin).mono ?_)
    rintro e' w' ⟨⟨x, rfl, hx, hs⟩, fr⟩
    refine ⟨⟨x, rfl, ?_, fun s' hs' => ?_⟩, fr⟩
    ·rw [e]
     cases x with
     | true =>
      obtain ⟨y, hy, hy1⟩ := hx.1 rfl
      rw [hy]; simp [hy1]
     | false =>
      cases hf : f r.txn with
      | none => rfl
      | some y =>
       by_cases hy : y.kind = 1
       ·exact (hx.2 ⟨y, hf, hy⟩).symm ▸ (by cases hx.2 ⟨y, hf, hy⟩)
       ·simp [hy]
    ·rw [e] at hs'
     cases hf : f r.txn with
     | none => rw [hf] at hs'; cases hs'
     | some y =>
      rw [hf] at hs'
      by_cases hy : y.kind = 1
      ·simp only [hy, if_true] at hs'
       cases hs'
       exact hs y hf (hx.2 ⟨y, hf, hy⟩)
      ·simp [hy] at hs'
   ·by_cases k3 : r.kind = 3 ∧ r.ups.length = 0
    ·have e : istepO (f r.txn) s r = match f r.txn with | some x => if x.kind = 1 then some ⟨s.refs, freed s.locks r.txn⟩ else none | none => some ⟨s.refs, freed s.locks r.txn⟩ := by
      unfold istepO; rw [if_neg hne, if_neg k1, if_neg k2, if_pos k3]; rfl
     refine add_aborts lo h l m n s f ua ucap r w hh hn hul hu hin (by unfold stepV; rw [if_neg hne, if_neg k1, if_neg k2, if_pos k3]) (fun s' hs hk => absurd hk k1) (fun w1 h1 hu1 => (aborts_any lo h l m n s f r.txn w1 h1 hin).mono ?_)
     rintro e' w' ⟨⟨x, rfl, hx, hs⟩, fr⟩
     refine ⟨⟨x, rfl, ?_, fun s' hs' => ?_⟩, fr⟩
     ·rw [e]
      cases x with
      | true =>
       have hy := hx.1 rfl
       cases hf : f r.txn with
       | none => rfl
       | some y => simp [hy y hf]
      | false =>
       cases hf : f r.txn with
       | none => cases hx.2 (fun y hy => by rw [hf] at hy; cases hy)
       | some y =>
        by_cases hy : y.kind = 1
        ·cases hx.2 (fun z hz => by rw [hf] at hz; cases hz; exact hy)
        ·simp [hy]
     ·rw [e] at hs'
      cases hf : f r.txn with
      | none =>
       rw [hf] at hs'
       cases hs'
       exact hs (hx.2 (fun y hy => by rw [hf] at hy; cases hy))
      | some y =>
       rw [hf] at hs'
       by_cases hy : y.kind = 1
       ·simp only [hy, if_true] at hs'
        cases hs'
        exact hs (hx.2 (fun z hz => by rw [hf] at hz; cases hz; exact hy))
       ·simp [hy] at hs'
    ·exact add_none lo h l m n s f _ r w hu (by unfold stepV; rw [if_neg hne, if_neg k1, if_neg k2, if_neg k3]) (by unfold istepO; rw [if_neg hne, if_neg k1, if_neg k2, if_neg k3])

end Go.Proofs.YtknoanpgadecbaaGreatDoor
