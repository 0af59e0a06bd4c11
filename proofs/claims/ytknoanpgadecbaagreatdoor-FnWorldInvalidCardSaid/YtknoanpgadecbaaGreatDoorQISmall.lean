/- The program's small functions of shards: clones, refTable.set, apply, lock, release. -/
import Derived.Test.YtknoanpgadecbaaGreatDoorQHModel
import Derived.Test.YtknoanpgadecbaaGreatDoorQM3
import Derived.WalkSpells
import Derived.Deep.DeepMust
set_option linter.unusedVariables false
set_option linter.unusedSimpArgs false
namespace Go.Proofs.YtknoanpgadecbaaGreatDoor
open Go.RowKit
set_option linter.unusedVariables false

set_option maxRecDepth 20000 in
set_option maxHeartbeats 1000000 in
theorem cloneR_any (K : Nat → Bool → Prop) (E' : Nat) (v : Value) (n : Nat) (cs : List Value) (w : World) (hv : SlR K E' 3 w v n cs) (h1 : ∀ u ∈ cs, u.oneCell' = true) (hn : n ≤ 1000000000) :
  Calls Tryz.prog 90 #[v] w fun e w' => ∃ v', e = .returned v' ∧ w'.ownsRow w.heap.size 94 3 v' n cs ∧ Fr w.heap.size [] w w' := by
 obtain ⟨a, cap, rfl, h2, h3, h4, h5⟩ := id hv
 obtain ⟨iu, hui, huz0, huz1, huz2⟩ := info_parts infoR
 have heq := fun (w : World) (a : Option Addr) (n c : Nat) => Lib.run_eql_slice_nil (P := Tryz.prog) w 79 94 a n c 0 0 Tryz.underlying79
 have HV := hid hv
 clear hv h5
 cases a with
 | none =>
  obtain ⟨rfl, rfl⟩ := h4 rfl
  have hcs : cs = [] := List.eq_nil_of_length_eq_zero (by simpa using h2)
  subst hcs
  clear h4 h2
  go_enter Tryz.func90, Tryz.ntmps90
  go_wp2
  go_ret
  exact ⟨_, rfl, World.ownsRow_nil _ _ _ _, Fr.refl _ _ _⟩
 | some ad =>
  have H2 := hid h2
  clear h4 h2
  go_enter Tryz.func90, Tryz.ntmps90
  go_wp2_with (at_builtin; go_must (refine wpList_clone rfl (.tmp 5) (.tmp 6) 79 rfl 94 iu (.agg #[.int .i64 0, .int .i64 0, .slice none 0 0]) 3 40 Tryz.underlying79 hui huz0 huz1 huz2 rfl (by decide) _ (by rfl) (by simp [World.setCell]) K E' _ _ _ (by rfl) HV.out h1 (by unfold maxLen; omega) (by omega) ?_; intro v2 w2 own2 fr2))
  go_ret
  exact ⟨_, rfl, own2, fr2⟩

set_option maxRecDepth 20000 in
set_option maxHeartbeats 1000000 in
theorem cloneU_any (K : Nat → Bool → Prop) (E' : Nat) (v : Value) (n : Nat) (cs : List Value) (w : World) (hv : SlR K E' 3 w v n cs) (h1 : ∀ u ∈ cs, u.oneCell' = true) (hn : n ≤ 1000000000) :
  Calls Tryz.prog 91 #[v] w fun e w' => ∃ v', e = .returned v' ∧ w'.ownsRow w.heap.size 97 3 v' n cs ∧ Fr w.heap.size [] w w' := by
 obtain ⟨a, cap, rfl, h2, h3, h4, h5⟩ := id hv
 obtain ⟨iu, hui, huz0, huz1, huz2⟩ := info_parts infoU
 have heq := fun (w : World) (a : Option Addr) (n c : Nat) => Lib.run_eql_slice_nil (P := Tryz.prog) w 52 97 a n c 0 0 Tryz.underlying52
 have HV := hid hv
 clear hv h5
 cases a with
 | none =>
  obtain ⟨rfl, rfl⟩ := h4 rfl
  have hcs : cs = [] := List.eq_nil_of_length_eq_zero (by simpa using h2)
  subst hcs
  clear h4 h2
  go_enter Tryz.func91, Tryz.ntmps91
  go_wp2
  go_ret
  exact ⟨_, rfl, World.ownsRow_nil _ _ _ _, Fr.refl _ _ _⟩
 | some ad =>
  have H2 := hid h2
  clear h4 h2
  go_enter Tryz.func91, Tryz.ntmps91
  go_wp2_with (at_builtin; go_must (refine wpList_clone rfl (.tmp 5) (.tmp 6) 52 rfl 97 iu (.agg #[.int .i64 0, .int .i64 0, .int .i64 0]) 3 24 Tryz.underlying52 hui huz0 huz1 huz2 rfl (by decide) _ (by rfl) (by simp [World.setCell]) K E' _ _ _ (by rfl) HV.out h1 (by unfold maxLen; omega) (by omega) ?_; intro v2 w2 own2 fr2))
  go_ret
  exact ⟨_, rfl, own2, fr2⟩

set_option maxRecDepth 20000 in
set_option maxHeartbeats 1000000 in
theorem cloneI_any (K : Nat → Bool → Prop) (E' : Nat) (v : Value) (n : Nat) (cs : List Value) (w : World) (hv : SlR K E' 1 w v n cs) (h1 : ∀ u ∈ cs, u.oneCell' = true) (hn : n ≤ 1000000000) :
  Calls Tryz.prog 38 #[v] w fun e w' => ∃ v', e = .returned v' ∧ w'.ownsRow w.heap.size 3 1 v' n cs ∧ Fr w.heap.size [] w w' := by
 obtain ⟨a, cap, rfl, h2, h3, h4, h5⟩ := id hv
 obtain ⟨iu, hui, huz0, huz1, huz2⟩ := info_parts infoI
 have heq := fun (w : World) (a : Option Addr) (n c : Nat) => Lib.run_eql_slice_nil (P := Tryz.prog) w 24 3 a n c 0 0 Tryz.underlying24
 have HV := hid hv
 clear hv h5
 cases a with
 | none =>
  obtain ⟨rfl, rfl⟩ := h4 rfl
  have hcs : cs = [] := List.eq_nil_of_length_eq_zero (by simpa using h2)
  subst hcs
  clear h4 h2
  go_enter Tryz.func38, Tryz.ntmps38
  go_wp2
  go_ret
  exact ⟨_, rfl, World.ownsRow_nil _ _ _ _, Fr.refl _ _ _⟩
 | some ad =>
  have H2 := hid h2
  clear h4 h2
  go_enter Tryz.func38, Tryz.ntmps38
  go_wp2_with (at_builtin; go_must (refine wpList_clone rfl (.tmp 5) (.tmp 6) 24 rfl 3 iu (.int .i64 0) 1 8 Tryz.underlying24 hui huz0 huz1 huz2 rfl (by decide) _ (by rfl) (by simp [World.setCell]) K E' _ _ _ (by rfl) HV.out h1 (by unfold maxLen; omega) (by omega) ?_; intro v2 w2 own2 fr2))
  go_ret
  exact ⟨_, rfl, own2, fr2⟩

structure FrB (b : Nat) (w w' : World) : Prop where
 os : w'.os = w.os
 tape : w'.tape = w.tape
 output : w'.output = w.output
 size : w.heap.size ≤ w'.heap.size
 keep : ∀ k o, w.heap[k]? = some o → k ≠ b → w'.heap[k]? = some o

theorem FrB.refl (b : Nat) (w : World) : FrB b w w := ⟨rfl, rfl, rfl, Nat.le_refl _, fun _ _ h _ => h⟩
theorem FrB.trans {b : Nat} {x y z : World} (h : FrB b x y) (k : FrB b y z) : FrB b x z :=
 ⟨k.os.trans h.os, k.tape.trans h.tape, k.output.trans h.output, Nat.le_trans h.size k.size, fun i o hi ho => k.keep i o (h.keep i o hi ho) ho⟩
theorem FrB.drew {b : Nat} {a w : World} (h : FrB b a w) : FrB b a w.drew := ⟨h.os, h.tape, h.output, h.size, h.keep⟩
theorem FrB.drewN {b : Nat} {a w : World} (h : FrB b a w) (n : Nat) : FrB b a (w.drewN n) := by
 induction n with
 | zero => exact h
 | succ n ih => exact ⟨h.os, h.tape, h.output, h.size, h.keep⟩
theorem FrB.alloc {b : Nat} {a w : World} (h : FrB b a w) (o : Obj) : FrB b a (w.alloc o) :=
 h.trans ⟨rfl, rfl, rfl, by simp, fun k x hk _ => by rw [Below.heap_alloc _ _ _ (lt_of_get hk)]; exact hk⟩
theorem FrB.set {b : Nat} {a w : World} (h : FrB b a w) {p : Addr} (hp : p.block = b) (u : Value) : FrB b a (w.setCell p u) :=
 h.trans ⟨rfl, rfl, rfl, by simp [World.setCell], fun k x hk hb => by rw [Below.heap_setCell _ _ _ _ (by rw [hp]; exact hb)]; exact hk⟩
theorem FrB.toFr {b B : Nat} {T : List Nat} {w w' : World} {o : Obj} (h : FrB b w w') (ho : w.heap[b]? = some o) (hB : B ≤ b) (hT : otag o ∈ T) : Fr B T w w' :=
 ⟨h.os, h.tape, h.output, h.size, fun k x hk hx => h.keep k x hk (by
  rintro rfl
  rw [ho] at hk
  cases hk
  rcases hx with hx | hx
  ·omega
  ·exact hx hT)⟩
theorem FrB.cell {b : Nat} {w w' : World} (h : FrB b w w') {c off : Nat} {u : Value} (hb : c ≠ b) (hc : w.cell? ⟨c, off, none⟩ = some u) : w'.cell? ⟨c, off, none⟩ = some u := by
 have hl := World.block_lt_of_cell? _ _ hc
 have := h.keep c w.heap[c] (by simp [hl]) hb
 rw [World.cell?_of_block (w := w) (by rw [this]; simp [hl])]; exact hc

def row4 (l : List Int) (tl : List Value) : Array Value := (l.map (Value.int .i64) ++ tl).toArray

theorem row4_get {l : List Int} {tl : List Value} {j : Nat} (h : j < l.length) : (row4 l tl)[j]? = some (.int .i64 l[j]) := by
 unfold row4
 rw [List.getElem?_toArray, List.getElem?_append_left (by simpa using h), List.getElem?_map, List.getElem?_eq_getElem h]; rfl

theorem row4_set {l : List Int} {tl : List Value} {j : Nat} (h : j < l.length) (x : Int) : (row4 l tl).setIfInBounds j (.int .i64 x) = row4 (l.set j x) tl := by
 unfold row4
 rw [List.setIfInBounds_toArray, List.set_append_left _ _ (by simpa using h), List.map_set]

set_option maxRecDepth 20000 in
set_option maxHeartbeats 1000000 in
theorem tabSet_any (b e : Nat) (tl : List Value) (vu : Value) (refs : List Int) (us : List Upd) (w : World) (hb : w.heap[b]? = some (.cells (row4 refs tl) e (0, 0))) (h4 : refs.length = 4) (hv : UpsR (old b) w vu us) (hl : us.length ≤ 1000000000)
  (hin : ∀ k (hk : k < us.length), 0 ≤ us[k].ref ∧ us[k].ref ≤ 3) :
  Calls Tryz.prog 259 #[.pointer (some ⟨b, 0, none⟩), vu] w fun e' w' => e' = .returned (.tuple #[]) ∧ w'.heap[b]? = some (.cells (row4 (setAll refs us) tl) e (0, 0)) ∧ FrB b w w' := by
 obtain ⟨a, cap, hva, h2, h3, hn, h5⟩ := id hv
 have hsh := hv.shape
 obtain ⟨a, cap, rfl, hcap, hcell⟩ := hsh
 cases hva
 have HB := hid hb
 have H4 := hid h4
 have H5 := hid h5
 clear hb h4 hv h5 h2 hn
 go_enter Tryz.func259, Tryz.ntmps259
 go_wp2
 go_loopw [8] (fun i wr => ∃ k : Nat, k ≤ us.length ∧ i = .int .i64 k ∧ wr.heap[b]? = some (.cells (row4 (setTo refs us k) tl) e (0, 0)) ∧ FrB b w wr) (fun i _ => us.length - (intOf i).toNat)
 case atStart => exact ⟨0, Nat.zero_le _, rfl, HB.out, FrB.refl _ _⟩
 case round =>
  obtain ⟨k, hk, rfl, hblk, hfr⟩ := hrel
  have HBL := hid hblk
  by_cases hlt : k < us.length
  ·rcases hcell with rfl | ⟨ub, off, rfl, hbs, hcell⟩
   ·simp at hlt
   ·obtain ⟨b', off', cur, e', fr', g1, g2, g3, g4⟩ := H5.out (by omega)
    have hub : ub ≠ b := by
     have : ub = b' := by simpa using congrArg (fun x => (x.map Addr.block).getD 0) g1
     have g2' : b' < b := g2
     omega
    clear g1 g2 g3 g4
    obtain ⟨h0, h1, h2⟩ := hcell k hlt
    obtain ⟨hi1, hi2⟩ := hin k hlt
    obtain ⟨j, hj⟩ := Int.eq_ofNat_of_zero_le hi1
    have hj3 : (j : Int) < 4 := by omega
    have c0 := hfr.cell hub h0
    have c1 := hfr.cell hub h1
    have c2 := hfr.cell hub h2
    have HS := hid (setTo_succ (refs := refs) hlt)
    rw [hj] at c0 HS
    have hjl : j < (setTo refs us k).length := by rw [setTo_length, H4.out]; omega
    have cg := cell_of hblk (row4_get (tl := tl) hjl)
    have cf := free_of (o := j) hblk
    have hgl := lt_of_get hblk
    clear h0 h1 h2 hi1 hi2 hj hcell hblk
    go_wp2
    go_region
    go_wp2
    go_roundw
    case rel => exact ⟨k + 1, by omega, by go_num, by rw [HS.out]; exact heap_up ((block_set HBL.out j _).trans (by rw [row4_set hjl]; rfl)) _, ((hfr.set (p := ⟨b, j, none⟩) rfl _).alloc _).drew⟩
    case measure => simp [intOf]; omega
  ·obtain rfl : k = us.length := by omega
   go_wp2
   exact bodyPost_end (v := .tuple #[]) (by simp [results, Tryz.results259, go_sem]) rfl ⟨rfl, HBL.out, hfr⟩

set_option maxRecDepth 20000 in
set_option maxHeartbeats 1000000 in
theorem tabApply_any (b e : Nat) (tl : List Value) (vu : Value) (refs : List Int) (us : List Upd) (w : World) (hb : w.heap[b]? = some (.cells (row4 refs tl) e (0, 0))) (h4 : refs.length = 4) (hv : UpsR (old b) w vu us) (hl : us.length ≤ 1000000000)
  (hin : ∀ k (hk : k < us.length), 0 ≤ us[k].ref ∧ us[k].ref ≤ 3) :
  Calls Tryz.prog 257 #[.pointer (some ⟨b, 0, none⟩), vu] w fun e' w' => e' = .returned (.bool (fits refs us)) ∧ FrB b w w' := by
 obtain ⟨a, cap, hva, h2, h3, hn, h5⟩ := id hv
 have hsh := hv.shape
 obtain ⟨a, cap, rfl, hcap, hcell⟩ := hsh
 cases hva
 have HB := hid hb
 have H4 := hid h4
 have H5 := hid h5
 have HV := hid hv
 have HIN := hid hin
 clear hb h4 hv h5 h2 hn
 go_enter Tryz.func257, Tryz.ntmps257
 go_wp2
 go_loopw [9] (fun i wr => ∃ k : Nat, k ≤ us.length ∧ i = .int .i64 k ∧ fitsTo refs us k = true ∧ wr.heap[b]? = some (.cells (row4 refs tl) e (0, 0)) ∧ Fr w.heap.size [] w wr) (fun i _ => us.length - (intOf i).toNat)
 case atStart => exact ⟨0, Nat.zero_le _, rfl, rfl, HB.out, Fr.refl _ _ _⟩
 case round =>
  obtain ⟨k, hk, rfl, hto, hblk, hfr⟩ := hrel
  have HBL := hid hblk
  have HT := hid hto
  clear hto
  by_cases hlt : k < us.length
  ·rcases hcell with rfl | ⟨ub, off, rfl, hbs, hcell⟩
   ·simp at hlt
   ·obtain ⟨h0, h1, h2⟩ := hcell k hlt
    obtain ⟨hi1, hi2⟩ := hin k hlt
    obtain ⟨j, hj⟩ := Int.eq_ofNat_of_zero_le hi1
    have hj3 : j < refs.length := by rw [H4.out]; omega
    have hj4 : (j : Int) < 4 := by omega
    have c0 := hfr.cell hbs h0
    have c1 := hfr.cell hbs h1
    have c2 := hfr.cell hbs h2
    have HS := hid (fitsTo_succ (refs := refs) hlt)
    have HF := hid (fitsTo_false (refs := refs) hlt)
    rw [hj] at c0 HS HF
    rw [at4_nat hj3] at HS HF
    have cg := cell_of hblk (row4_get (tl := tl) hj3)
    have hgl := lt_of_get hblk
    clear h0 h1 h2 hi1 hi2 hj hcell hblk hin
    cases g1 : refs[j] == us[k].old
    ·have g2 : (refs[j] != us[k].old) = true := by simp [bne, g1]
     have hz := hid (HF.out g1)
     clear g1
     go_wp2
     go_quiet (fail)
     go_wp2
     go_ret
     exact ⟨ret_bool hz.out.symm, ⟨hfr.os, hfr.tape, hfr.output, by have := hfr.size; simp; omega, fun x o hx _ => by
      have := (hfr.alloc (.cells #[.int .i64 j, .int .i64 us[k].old, .int .i64 us[k].new] 97)).keep x o hx (.inr (by simp)); simpa using this⟩⟩
    ·have g2 : (refs[j] != us[k].old) = false := by simp [bne, g1]
     have hz := hid (show fitsTo refs us (k + 1) = true by rw [HS.out, HT.out, g1]; rfl)
     clear g1
     go_wp2
     go_quiet (fail)
     go_wp2
     go_roundw
     case rel => exact ⟨k + 1, by omega, by go_num, hz.out, by have := heap_up HBL.out (.cells #[.int .i64 j, .int .i64 us[k].old, .int .i64 us[k].new] 97); simpa using this, (hfr.alloc _).drewN _⟩
     case measure => simp [intOf]; omega
  ·obtain rfl : k = us.length := by omega
   go_wp2_with (go_at_call 259; go_must (refine (tabSet_any b e tl _ refs us _ HBL.out H4.out (HV.out.grow hfr) hl HIN.out).mono ?_; rintro e' w' ⟨rfl, hb', fb⟩))
   go_ret
   exact ⟨ret_bool (show true = fits refs us from HT.out.symm), ⟨fb.os.trans hfr.os, fb.tape.trans hfr.tape, fb.output.trans hfr.output, Nat.le_trans hfr.size fb.size, fun x o hx hxb => fb.keep x o (hfr.keep x o hx (.inr (by simp))) hxb⟩⟩

end Go.Proofs.YtknoanpgadecbaaGreatDoor
