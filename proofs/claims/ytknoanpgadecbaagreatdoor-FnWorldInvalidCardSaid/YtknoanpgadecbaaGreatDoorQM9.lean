/- The reference's l51Parts. -/
import Derived.Test.YtknoanpgadecbaaGreatDoorQCoHear
import Derived.Test.YtknoanpgadecbaaGreatDoorQM3
set_option linter.unusedVariables false
set_option linter.unusedSimpArgs false
namespace Go.Proofs.YtknoanpgadecbaaGreatDoor
open Go.RowKit
set_option linter.unusedVariables false

theorem four_cells {K : Nat → Bool → Prop} {w : World} {v : Value} {l : List Int} (h : IntsR K w v l) (h4 : l.length = 4) :
  ∃ b off cap, v = .slice (some ⟨b, off, none⟩) 4 cap ∧ b < w.heap.size ∧ ∀ i (hi : i < l.length), w.cell? ⟨b, off + i, none⟩ = some (.int .i64 l[i]) := by
 obtain ⟨a, cap, rfl, _, hc⟩ := h.shape
 rcases hc with h | ⟨b, off, rfl, hb, hc⟩
 ·rw [h] at h4; simp at h4
 ·exact ⟨b, off, cap, by rw [h4], hb, hc⟩

set_option maxRecDepth 20000 in
set_option maxHeartbeats 8000000 in
theorem l51Parts_any (lo : Nat) (v1 v2 v3 v4 : Value) (d : Wd) (b0 : Int) (rf : Nat) (id0 : Int) (w : World) (hv : WdR lo w v1 v2 v3 v4 d) (hlo : lo ≤ w.heap.size) (hi : WdI d) (hb0 : 0 ≤ b0) (hb7 : b0 ≤ 7) (hrf : rf ≤ 3) :
  Calls Tryz.prog 155 #[.agg #[v1, v2, v3, v4], .int .i64 b0, .int .i64 rf, .int .i64 id0] w fun e w' =>
   ∃ v ps, e = .returned v ∧ PartsR w.heap.size w' v ps ∧ ps.length ≤ 3 ∧ (∀ p ∈ ps, p.ups.length ≤ 8) ∧ Fr w.heap.size [] w w' := by
 obtain ⟨ta, tcap, rfl, _, _⟩ := hv.1.1.shape
 obtain ⟨oa, ocap, rfl, _, _⟩ := hv.1.2.shape
 obtain ⟨sa, scap, rfl, _, hsc⟩ := hv.2.1.shape
 obtain ⟨na, ncap, rfl, hnc, _⟩ := hv.2.2.shape
 have h3 := hi.2.1
 rcases hsc with h | ⟨sb, soff, rfl, hsb, hscell⟩
 ·rw [h] at h3; simp at h3
 obtain ⟨ip, hpi, hpz0, hpz1, hpz2⟩ := info_parts infoP
 have SC := hid hscell
 have WI := hid hi
 have H3 := hid h3
 have h3i : (d.shards.length : Int) = 3 := by omega
 have FA := hid (((Fr.refl w.heap.size [] w).alloc (.cells #[.slice ta d.co.txns.length tcap, .slice oa d.co.order.length ocap, .slice (some ⟨sb, soff, none⟩) d.shards.length scap, .slice na d.net.length ncap] 30)).alloc (.cells #[] 76))
 have B0 := hid (heap_up (heap_alloc_new w (.cells #[.slice ta d.co.txns.length tcap, .slice oa d.co.order.length ocap, .slice (some ⟨sb, soff, none⟩) d.shards.length scap, .slice na d.net.length ncap] 30)) (.cells #[] 76))
 have PO := hid (show PartsOwn w.heap.size ((w.alloc (.cells #[.slice ta d.co.txns.length tcap, .slice oa d.co.order.length ocap, .slice (some ⟨sb, soff, none⟩) d.shards.length scap, .slice na d.net.length ncap] 30)).alloc (.cells #[] 76)) (.slice (some ⟨w.heap.size + 1, 0, none⟩) 0 0) [] by
  have := World.ownsRow_made (e := 76) (size := 2) (w.alloc (.cells #[.slice ta d.co.txns.length tcap, .slice oa d.co.order.length ocap, .slice (some ⟨sb, soff, none⟩) d.shards.length scap, .slice na d.net.length ncap] 30)) #[] 0 (Nat.le_refl _) (by decide) (by simp)
  exact ⟨[], rfl, by simpa using ownsRow_lo (lo' := w.heap.size) this (by simp), fun z hz => by cases hz⟩)
 clear hv hscell h3 hi
 go_enter Tryz.func155, Tryz.ntmps155
 go_wp2
 go_loopw [1, 9, 10] (fun vb vo vi wr => ∃ (k : Nat) (b : Int) (ps : List Pt), k ≤ 3 ∧ vi = .int .i64 k ∧ vb = .int .i64 b ∧ 0 ≤ b ∧ b ≤ 7 ∧ PartsOwn w.heap.size wr vo ps ∧ ps.length ≤ k ∧ (∀ p ∈ ps, p.ups.length ≤ 8) ∧ wr.heap[w.heap.size]? = some (.cells #[.slice ta d.co.txns.length tcap, .slice oa d.co.order.length ocap, .slice (some ⟨sb, soff, none⟩) d.shards.length scap, .slice na d.net.length ncap] 30 (0, 0)) ∧ Fr w.heap.size [] w wr) (fun _ _ vi _ => 3 - (intOf vi).toNat)
 case atStart => exact ⟨0, b0, [], by omega, rfl, rfl, hb0, hb7, PO.out, by simp, fun p hp => (by cases hp), B0.out, FA.out⟩
 case round =>
  clear FA B0 PO
  obtain ⟨k, b, ps, hk, rfl, rfl, hb, hb', hpo, hpl, hpu, hbx, hfr⟩ := hrel
  obtain ⟨oa', ocap', hoe, _, _⟩ := hpo.reads.shape
  subst hoe
  have PO := hid hpo
  have PU := hid hpu
  have B0 := hid hbx
  have HF := hid hfr
  have hsz := hfr.size
  have q0 := cell_of (o := 2) hbx rfl
  clear hpo hpu hbx hfr
  by_cases hlt : k < 3
  ·have hkl : k < d.shards.length := by rw [H3.out]; exact hlt
   have hki : (k : Int) < 3 := by omega
   have hkd : (k : Int) < (d.shards.length : Int) := by omega
   obtain ⟨ra, rcap, y0, hr⟩ := SC.out k hkl
   have HR := hid (hr.tk HF.out (by simp) (by simp))
   have y1 := HF.out.cell hsb y0
   have SHI := hid (WI.out.2.2.1 _ (List.getElem_mem hkl))
   clear y0 hr
   generalize d.shards[k] = rs at *
   have hrl := SHI.out.small.1
   have hrfi : (rf : Int) < 4 := by omega
   obtain ⟨zs, z1, z2, z3⟩ := PO.out
   have Z1 := hid z1
   have Z2 := hid z2
   have Z3 := hid z3
   clear z1 z2 z3
   go_wp2_with (first
    | (go_at_call 76; go_must (refine (l21Recover_any (new lo) _ rs _ HR.out SHI.out.small.1 SHI.out.small.2).mono ?_; rintro e w1 ⟨r1, r2, s, rfl, hr1, hr2, h41, h42, _, fr1⟩; obtain ⟨rb, roff, acap, rfl, hrb, hrc⟩ := four_cells hr1 h41; obtain ⟨ab, abcap, rfl, _, _⟩ := hr2.shape; have yc := hrc rf (by omega); generalize s.refs[rf]'(by omega) = y at yc; have FR1 := hid fr1; have F97 := hid (FR1.out.alloc (.cells #[.slice (some ⟨rb, roff, none⟩) 4 acap, .slice ab s.locks.length abcap] 133)); have F5 := hid ((FR1.out.alloc (.cells #[.slice (some ⟨rb, roff, none⟩) 4 acap, .slice ab s.locks.length abcap] 133)).alloc (.cells #[.int .i64 rf, .int .i64 y, .int .i64 id0] 97)); clear hr1 hr2 fr1 h41 h42 hrc))
    | (at_builtin; go_must (refine wpList_push rfl (.tmp 40) (.tmp 52) 72 rfl w.heap.size 76 ip (.agg #[.int .i64 0, .slice none 0 0]) 2 32 Tryz.underlying72 hpi hpz0 hpz1 hpz2 rfl (by decide) _ _ _ (ownsRow_grow Z2.out F5.out) rfl (oneP _ _ _ _) (by unfold maxLen; omega) (by omega) (Nat.le_trans hsz F5.out.size) (by rfl) _ (by rfl) (by simp [World.setCell]) ?_; intro v4 w4 own4 fr4 _; have OWN4 := hid own4; have FR4 := hid fr4; clear own4 fr4)))
   ·have hL : UpsR (new w.heap.size) w4 (.slice (some ⟨w1.heap.size + 1, 0, none⟩) 1 1) [⟨(rf : Int), y, id0⟩] := by
     have h := (SlR.lit (w := w1.alloc (.cells #[.slice (some ⟨rb, roff, none⟩) 4 acap, .slice ab s.locks.length abcap] 133)) (e := 97) (sz := 3) (cs := [.int .i64 rf, .int .i64 y, .int .i64 id0]) rfl).weak (new_low (Nat.le_trans hsz F97.out.size))
     have h' : UpsR (new w.heap.size) ((w1.alloc (.cells #[.slice (some ⟨rb, roff, none⟩) 4 acap, .slice ab s.locks.length abcap] 133)).alloc (.cells #[.int .i64 rf, .int .i64 y, .int .i64 id0] 97)) (.slice (some ⟨w1.heap.size + 1, 0, none⟩) 1 1) [⟨(rf : Int), y, id0⟩] := by
      unfold UpsR
      simpa [encU] using h
     exact h'.tk FR4.out (by simp)
    have EN := PartsOwn.snoc (lo := w.heap.size) (p := ⟨(k : Int), [⟨(rf : Int), y, id0⟩]⟩) Z1.out (fun z hz => ((Z3.out z hz).tk F5.out (by simp)).tk FR4.out (by simp)) hL rfl (by simpa using OWN4.out)
    go_roundw
    case rel =>
     refine ⟨k + 1, b / 2, ps ++ [⟨(k : Int), [⟨(rf : Int), y, id0⟩]⟩], by omega, by go_num, by go_num, by omega, by omega, EN, by simp; omega, fun p hp => ?_, FR4.out.keep _ _ (F5.out.keep _ _ B0.out (.inr (by simp))) (.inr (by simp [otag])), (HF.out.trans F5.out.nil).after FR4.out⟩
     rcases List.mem_append.1 hp with hp | hp
     ·exact PU.out p hp
     ·obtain rfl := List.mem_singleton.1 hp
      simp
    case measure => simp [intOf]; omega
   all_goals
    go_roundw
    case rel => exact ⟨k + 1, b / 2, ps, by omega, by go_num, by go_num, by omega, by omega, ⟨zs, Z1.out, ownsRow_grow Z2.out F97.out, fun z hz => (Z3.out z hz).tk F97.out (by simp)⟩, by omega, PU.out, F97.out.keep _ _ B0.out (.inr (by simp)), HF.out.trans F97.out.nil⟩
    case measure => simp [intOf]; omega
  ·obtain rfl : k = 3 := by omega
   go_wp2
   go_ret
   exact ⟨_, ps, rfl, PO.out.reads, hpl, PU.out, HF.out⟩

set_option maxRecDepth 20000 in
set_option maxHeartbeats 8000000 in
theorem l51Begin_any (lo : Nat) (v1 v2 v3 v4 : Value) (d : Wd) (ek ea eb ec : Int) (w : World) (hv : WdR lo w v1 v2 v3 v4 d) (hlo : lo ≤ w.heap.size) (hi : WdI d) :
  Calls Tryz.prog 107 #[.agg #[v1, v2, v3, v4], .agg #[.int .i64 ek, .int .i64 ea, .int .i64 eb, .int .i64 ec]] w (WdOut lo w) := by
 obtain ⟨ta, tcap, rfl, _, _⟩ := hv.1.1.shape
 obtain ⟨oa, ocap, rfl, _, _⟩ := hv.1.2.shape
 obtain ⟨sa, scap, rfl, _, _⟩ := hv.2.1.shape
 obtain ⟨na, ncap, rfl, hnc, _⟩ := hv.2.2.shape
 have HV := hid hv
 have WI := hid hi
 clear hv hi
 have FA := hid ((((Fr.refl w.heap.size [] w).alloc (.cells #[.slice ta d.co.txns.length tcap, .slice oa d.co.order.length ocap, .slice sa d.shards.length scap, .slice na d.net.length ncap] 30)).alloc (.cells #[.int .i64 ek, .int .i64 ea, .int .i64 eb, .int .i64 ec] 36)).alloc (.cells #[.slice none 0 0, .slice none 0 0, .slice none 0 0, .slice none 0 0] 30))
 have B0 := hid (heap_up (heap_up (heap_alloc_new w (.cells #[.slice ta d.co.txns.length tcap, .slice oa d.co.order.length ocap, .slice sa d.shards.length scap, .slice na d.net.length ncap] 30)) (.cells #[.int .i64 ek, .int .i64 ea, .int .i64 eb, .int .i64 ec] 36)) (.cells #[.slice none 0 0, .slice none 0 0, .slice none 0 0, .slice none 0 0] 30))
 have B1 := hid (show (((w.alloc (.cells #[.slice ta d.co.txns.length tcap, .slice oa d.co.order.length ocap, .slice sa d.shards.length scap, .slice na d.net.length ncap] 30)).alloc (.cells #[.int .i64 ek, .int .i64 ea, .int .i64 eb, .int .i64 ec] 36)).alloc (.cells #[.slice none 0 0, .slice none 0 0, .slice none 0 0, .slice none 0 0] 30)).heap[w.heap.size + 1]? = some (.cells #[.int .i64 ek, .int .i64 ea, .int .i64 eb, .int .i64 ec] 36 (0, 0)) by
  have := heap_up (heap_alloc_new (w.alloc (.cells #[.slice ta d.co.txns.length tcap, .slice oa d.co.order.length ocap, .slice sa d.shards.length scap, .slice na d.net.length ncap] 30)) (.cells #[.int .i64 ek, .int .i64 ea, .int .i64 eb, .int .i64 ec] 36)) (.cells #[.slice none 0 0, .slice none 0 0, .slice none 0 0, .slice none 0 0] 30)
  simpa using this)
 have B2 := hid (show (((w.alloc (.cells #[.slice ta d.co.txns.length tcap, .slice oa d.co.order.length ocap, .slice sa d.shards.length scap, .slice na d.net.length ncap] 30)).alloc (.cells #[.int .i64 ek, .int .i64 ea, .int .i64 eb, .int .i64 ec] 36)).alloc (.cells #[.slice none 0 0, .slice none 0 0, .slice none 0 0, .slice none 0 0] 30)).heap[w.heap.size + 2]? = some (.cells #[.slice none 0 0, .slice none 0 0, .slice none 0 0, .slice none 0 0] 30 (0, 0)) by
  have := heap_alloc_new ((w.alloc (.cells #[.slice ta d.co.txns.length tcap, .slice oa d.co.order.length ocap, .slice sa d.shards.length scap, .slice na d.net.length ncap] 30)).alloc (.cells #[.int .i64 ek, .int .i64 ea, .int .i64 eb, .int .i64 ec] 36)) (.cells #[.slice none 0 0, .slice none 0 0, .slice none 0 0, .slice none 0 0] 30)
  simpa using this)
 rcases ga : inR ea 1 7 with _ | _
 ·have GA := hid ga
  have GB := GA
  have GC := GA
  clear ga
  go_enter Tryz.func107, Tryz.ntmps107
  go_wp2_with (first | (go_at_call 22; go_must (refine (l6In_any _ _ _ _).mono ?_; rintro e w4 ⟨rfl, hw4⟩; (first | rw [GA.out] | rw [GB.out]); subst hw4)) | (go_at_call 154; go_must (refine (l11Value_any _ _).mono ?_; rintro e w4 ⟨rfl, hw4⟩; rw [GC.out]; subst hw4)))
  have R2 := (show (((w.alloc (.cells #[.slice ta d.co.txns.length tcap, .slice oa d.co.order.length ocap, .slice sa d.shards.length scap, .slice na d.net.length ncap] 30)).alloc (.cells #[.int .i64 ek, .int .i64 ea, .int .i64 eb, .int .i64 ec] 36)).alloc (.cells #[.slice ta d.co.txns.length tcap, .slice oa d.co.order.length ocap, .slice sa d.shards.length scap, .slice na d.net.length ncap] 30)).heap[w.heap.size + 1 + 1]? = some (.cells #[.slice ta d.co.txns.length tcap, .slice oa d.co.order.length ocap, .slice sa d.shards.length scap, .slice na d.net.length ncap] 30 (0, 0)) by
   have := heap_alloc_new ((w.alloc (.cells #[.slice ta d.co.txns.length tcap, .slice oa d.co.order.length ocap, .slice sa d.shards.length scap, .slice na d.net.length ncap] 30)).alloc (.cells #[.int .i64 ek, .int .i64 ea, .int .i64 eb, .int .i64 ec] 36)) (.cells #[.slice ta d.co.txns.length tcap, .slice oa d.co.order.length ocap, .slice sa d.shards.length scap, .slice na d.net.length ncap] 30)
   simpa using this)
  have g0 := cell_of (o := 0) R2 rfl
  have g1 := cell_of (o := 1) R2 rfl
  have g2 := cell_of (o := 2) R2 rfl
  have g3 := cell_of (o := 3) R2 rfl
  have FR := (((Fr.refl w.heap.size [] w).alloc (.cells #[.slice ta d.co.txns.length tcap, .slice oa d.co.order.length ocap, .slice sa d.shards.length scap, .slice na d.net.length ncap] 30)).alloc (.cells #[.int .i64 ek, .int .i64 ea, .int .i64 eb, .int .i64 ec] 36)).alloc (.cells #[.slice ta d.co.txns.length tcap, .slice oa d.co.order.length ocap, .slice sa d.shards.length scap, .slice na d.net.length ncap] 30)
  exact bodyPost_ret (v := .agg #[.slice ta d.co.txns.length tcap, .slice oa d.co.order.length ocap, .slice sa d.shards.length scap, .slice na d.net.length ncap]) (by simp [results, Tryz.results107, go_sem, g0, g1, g2, g3]) rfl ⟨_, _, _, _, d, rfl, HV.out.grow FR, WI.out, FR⟩
 ·have GA := hid ga
  clear ga
  rcases gb : inR eb 0 3 with _ | _
  ·have GB := hid gb
   have GC := GB
   clear gb
   go_enter Tryz.func107, Tryz.ntmps107
   go_wp2_with (first | (go_at_call 22; go_must (refine (l6In_any _ _ _ _).mono ?_; rintro e w4 ⟨rfl, hw4⟩; (first | rw [GA.out] | rw [GB.out]); subst hw4)) | (go_at_call 154; go_must (refine (l11Value_any _ _).mono ?_; rintro e w4 ⟨rfl, hw4⟩; rw [GC.out]; subst hw4)))
   have R2 := (show (((w.alloc (.cells #[.slice ta d.co.txns.length tcap, .slice oa d.co.order.length ocap, .slice sa d.shards.length scap, .slice na d.net.length ncap] 30)).alloc (.cells #[.int .i64 ek, .int .i64 ea, .int .i64 eb, .int .i64 ec] 36)).alloc (.cells #[.slice ta d.co.txns.length tcap, .slice oa d.co.order.length ocap, .slice sa d.shards.length scap, .slice na d.net.length ncap] 30)).heap[w.heap.size + 1 + 1]? = some (.cells #[.slice ta d.co.txns.length tcap, .slice oa d.co.order.length ocap, .slice sa d.shards.length scap, .slice na d.net.length ncap] 30 (0, 0)) by
    have := heap_alloc_new ((w.alloc (.cells #[.slice ta d.co.txns.length tcap, .slice oa d.co.order.length ocap, .slice sa d.shards.length scap, .slice na d.net.length ncap] 30)).alloc (.cells #[.int .i64 ek, .int .i64 ea, .int .i64 eb, .int .i64 ec] 36)) (.cells #[.slice ta d.co.txns.length tcap, .slice oa d.co.order.length ocap, .slice sa d.shards.length scap, .slice na d.net.length ncap] 30)
    simpa using this)
   have g0 := cell_of (o := 0) R2 rfl
   have g1 := cell_of (o := 1) R2 rfl
   have g2 := cell_of (o := 2) R2 rfl
   have g3 := cell_of (o := 3) R2 rfl
   have FR := (((Fr.refl w.heap.size [] w).alloc (.cells #[.slice ta d.co.txns.length tcap, .slice oa d.co.order.length ocap, .slice sa d.shards.length scap, .slice na d.net.length ncap] 30)).alloc (.cells #[.int .i64 ek, .int .i64 ea, .int .i64 eb, .int .i64 ec] 36)).alloc (.cells #[.slice ta d.co.txns.length tcap, .slice oa d.co.order.length ocap, .slice sa d.shards.length scap, .slice na d.net.length ncap] 30)
   exact bodyPost_ret (v := .agg #[.slice ta d.co.txns.length tcap, .slice oa d.co.order.length ocap, .slice sa d.shards.length scap, .slice na d.net.length ncap]) (by simp [results, Tryz.results107, go_sem, g0, g1, g2, g3]) rfl ⟨_, _, _, _, d, rfl, HV.out.grow FR, WI.out, FR⟩
  ·have GB := hid gb
   clear gb
   rcases gc : inR ec (-1) 990 with _ | _
   ·have GC := hid gc
    clear gc
    go_enter Tryz.func107, Tryz.ntmps107
    go_wp2_with (first | (go_at_call 22; go_must (refine (l6In_any _ _ _ _).mono ?_; rintro e w4 ⟨rfl, hw4⟩; (first | rw [GA.out] | rw [GB.out]); subst hw4)) | (go_at_call 154; go_must (refine (l11Value_any _ _).mono ?_; rintro e w4 ⟨rfl, hw4⟩; rw [GC.out]; subst hw4)))
    have R2 := (show (((w.alloc (.cells #[.slice ta d.co.txns.length tcap, .slice oa d.co.order.length ocap, .slice sa d.shards.length scap, .slice na d.net.length ncap] 30)).alloc (.cells #[.int .i64 ek, .int .i64 ea, .int .i64 eb, .int .i64 ec] 36)).alloc (.cells #[.slice ta d.co.txns.length tcap, .slice oa d.co.order.length ocap, .slice sa d.shards.length scap, .slice na d.net.length ncap] 30)).heap[w.heap.size + 1 + 1]? = some (.cells #[.slice ta d.co.txns.length tcap, .slice oa d.co.order.length ocap, .slice sa d.shards.length scap, .slice na d.net.length ncap] 30 (0, 0)) by
     have := heap_alloc_new ((w.alloc (.cells #[.slice ta d.co.txns.length tcap, .slice oa d.co.order.length ocap, .slice sa d.shards.length scap, .slice na d.net.length ncap] 30)).alloc (.cells #[.int .i64 ek, .int .i64 ea, .int .i64 eb, .int .i64 ec] 36)) (.cells #[.slice ta d.co.txns.length tcap, .slice oa d.co.order.length ocap, .slice sa d.shards.length scap, .slice na d.net.length ncap] 30)
     simpa using this)
    have g0 := cell_of (o := 0) R2 rfl
    have g1 := cell_of (o := 1) R2 rfl
    have g2 := cell_of (o := 2) R2 rfl
    have g3 := cell_of (o := 3) R2 rfl
    have FR := (((Fr.refl w.heap.size [] w).alloc (.cells #[.slice ta d.co.txns.length tcap, .slice oa d.co.order.length ocap, .slice sa d.shards.length scap, .slice na d.net.length ncap] 30)).alloc (.cells #[.int .i64 ek, .int .i64 ea, .int .i64 eb, .int .i64 ec] 36)).alloc (.cells #[.slice ta d.co.txns.length tcap, .slice oa d.co.order.length ocap, .slice sa d.shards.length scap, .slice na d.net.length ncap] 30)
    exact bodyPost_ret (v := .agg #[.slice ta d.co.txns.length tcap, .slice oa d.co.order.length ocap, .slice sa d.shards.length scap, .slice na d.net.length ncap]) (by simp [results, Tryz.results107, go_sem, g0, g1, g2, g3]) rfl ⟨_, _, _, _, d, rfl, HV.out.grow FR, WI.out, FR⟩
   ·have GC := hid gc
    clear gc
    obtain ⟨rf, rfl⟩ := Int.eq_ofNat_of_zero_le (inR_iff.1 GB.out).1
    have hrf : rf ≤ 3 := by have := (inR_iff.1 GB.out).2; omega
    have hea := inR_iff.1 GA.out
    have HEA := hid hea
    have q1 := cell_of (o := 1) B1.out rfl
    go_enter Tryz.func107, Tryz.ntmps107
    clear hea
    go_upto_if 35 with (first | (first | (go_at_call 22; go_must (refine (l6In_any _ _ _ _).mono ?_; rintro e w4 ⟨rfl, hw4⟩; (first | rw [GA.out] | rw [GB.out]); subst hw4)) | (go_at_call 154; go_must (refine (l11Value_any _ _).mono ?_; rintro e w4 ⟨rfl, hw4⟩; rw [GC.out]; subst hw4))) | (go_at_call 155; go_must (refine (l51Parts_any lo _ _ _ _ d ea rf ec _ (HV.out.grow FA.out) (Nat.le_trans hlo FA.out.size) WI.out (Int.le_trans (by decide) HEA.out.1) HEA.out.2 hrf).mono ?_; rintro e w1 ⟨vp, ps, rfl, pr, hpl, hpu, fr1⟩; obtain ⟨pa, pcap, rfl, _, _⟩ := pr.shape; have PR := hid pr; have PU := hid hpu; have FR1 := hid fr1; clear pr hpu fr1)))
    replace B0 := hid (FR1.out.keep _ _ B0.out (.inr (by simp)))
    replace B2 := hid (FR1.out.keep _ _ B2.out (.inr (by simp)))
    have hsA := FA.out.size
    have F1 := hid (FA.out.trans FR1.out.nil)
    clear q1
    have p0 := cell_of (o := 0) B0.out rfl
    have p1 := cell_of (o := 1) B0.out rfl
    have p2 := cell_of (o := 2) B0.out rfl
    have p3 := cell_of (o := 3) B0.out rfl
    have p4 := fun o => free_of (o := o) B2.out
    have p5 := cell_of (o := 0) B2.out rfl
    have p6 := cell_of (o := 1) B2.out rfl
    have p7 := cell_of (o := 2) B2.out rfl
    have p8 := cell_of (o := 3) B2.out rfl
    have hl0 := lt_of_get B0.out
    have hl2 := lt_of_get B2.out
    by_cases hp0 : ps.length = 0
    ·have hpi : (ps.length : Int) = 0 := by omega
     go_wp2
     have h4 := box4 (u1 := .slice ta d.co.txns.length tcap) (u2 := .slice oa d.co.order.length ocap) (u3 := .slice sa d.shards.length scap) (u4 := .slice na d.net.length ncap) B2.out
     have g0 := cell_of (o := 0) h4 rfl
     have g1 := cell_of (o := 1) h4 rfl
     have g2 := cell_of (o := 2) h4 rfl
     have g3 := cell_of (o := 3) h4 rfl
     have FT := box4_fr (u1 := .slice ta d.co.txns.length tcap) (u2 := .slice oa d.co.order.length ocap) (u3 := .slice sa d.shards.length scap) (u4 := .slice na d.net.length ncap) B2.out
     exact bodyPost_ret (v := .agg #[.slice ta d.co.txns.length tcap, .slice oa d.co.order.length ocap, .slice sa d.shards.length scap, .slice na d.net.length ncap]) (by simp [results, Tryz.results107, go_sem, g0, g1, g2, g3]) rfl ⟨_, _, _, _, d, rfl, (HV.out.grow F1.out).tk FT (by simp [Apt]), WI.out, (((F1.out.setNew (p := ⟨w.heap.size + 2, 0, none⟩) (by dsimp only; omega) _).setNew (p := ⟨w.heap.size + 2, 1, none⟩) (by dsimp only; omega) _).setNew (p := ⟨w.heap.size + 2, 2, none⟩) (by dsimp only; omega) _).setNew (by dsimp only; omega) _⟩
    ·have hpi : ¬ (ps.length : Int) = 0 := by omega
     have hpi1 : ((ps.length : Int) == 0) = false := by simpa using hp0
     go_upto_if 45 with (go_at_call 72; go_must (refine (specBegin_any lo _ _ _ d.co ps _ (HV.out.grow F1.out).1 WI.out.1 (PR.out.lower (Nat.le_trans hlo hsA)) (by omega) PU.out).mono ?_; rintro e w2 ⟨u1, u2, c', ok, rfl, cr2, ci2, fr2⟩; obtain ⟨ua, ucap, rfl, _, _⟩ := cr2.1.shape; obtain ⟨ob, obcap, rfl, _, _⟩ := cr2.2.shape; have CR := hid cr2; have CI := hid ci2; have FR2 := hid fr2; clear cr2 ci2 fr2))
     have C0 := hid (FR2.out.keep _ _ B0.out (.inr (by simp)))
     have C2 := hid (FR2.out.keep _ _ B2.out (.inr (by simp)))
     have hc0 := lt_of_get C0.out
     have hc2 := lt_of_get C2.out
     have FB := hid ((Fr.refl w2.heap.size [] w2).alloc (.cells #[.slice ua c'.txns.length ucap, .slice ob c'.order.length obcap] 26))
     have D0 := hid (FB.out.keep _ _ C0.out (.inr (by simp)))
     have D2 := hid (FB.out.keep _ _ C2.out (.inr (by simp)))
     have DX := hid (heap_alloc_new w2 (.cells #[.slice ua c'.txns.length ucap, .slice ob c'.order.length obcap] 26))
     have F2 := hid ((F1.out.trans FR2.out.nil).trans FB.out.nil)
     have CR2 := hid ((CR.out.lower (lo' := lo) (Nat.le_trans hlo F1.out.size)).grow FB.out)
     obtain ⟨W, hW⟩ : ∃ W : World, W = w2.alloc (.cells #[.slice ua c'.txns.length ucap, .slice ob c'.order.length obcap] 26) := ⟨_, rfl⟩
     obtain ⟨X, hX⟩ : ∃ X, X = w2.heap.size := ⟨_, rfl⟩
     rw [← hW] at D0 D2 DX F2 CR2 ⊢
     rw [← hX] at DX ⊢
     have hX0 : X ≠ w.heap.size := by omega
     have hX2 : X ≠ w.heap.size + 2 := by omega
     clear hX hW FB C0 C2 CR F1 hl0 hl2 hc0 hc2 p0 p1 p2 p3 p4 p5 p6 p7 p8 FA B0 B1 B2 FR1 FR2
     have p0 := cell_of (o := 0) D0.out rfl
     have p1 := cell_of (o := 1) D0.out rfl
     have p2 := cell_of (o := 2) D0.out rfl
     have p3 := cell_of (o := 3) D0.out rfl
     have p4 := fun o => free_of (o := o) D2.out
     have p5 := cell_of (o := 0) D2.out rfl
     have p6 := cell_of (o := 1) D2.out rfl
     have p7 := cell_of (o := 2) D2.out rfl
     have p8 := cell_of (o := 3) D2.out rfl
     have hl0 := lt_of_get D0.out
     have hl2 := lt_of_get D2.out
     rcases ok with _ | _
     ·go_wp2
      have h4 := box4 (u1 := .slice ta d.co.txns.length tcap) (u2 := .slice oa d.co.order.length ocap) (u3 := .slice sa d.shards.length scap) (u4 := .slice na d.net.length ncap) D2.out
      have g0 := cell_of (o := 0) h4 rfl
      have g1 := cell_of (o := 1) h4 rfl
      have g2 := cell_of (o := 2) h4 rfl
      have g3 := cell_of (o := 3) h4 rfl
      have FT := box4_fr (u1 := .slice ta d.co.txns.length tcap) (u2 := .slice oa d.co.order.length ocap) (u3 := .slice sa d.shards.length scap) (u4 := .slice na d.net.length ncap) D2.out
      exact bodyPost_ret (v := .agg #[.slice ta d.co.txns.length tcap, .slice oa d.co.order.length ocap, .slice sa d.shards.length scap, .slice na d.net.length ncap]) (by simp [results, Tryz.results107, go_sem, g0, g1, g2, g3]) rfl ⟨_, _, _, _, d, rfl, (HV.out.grow F2.out).tk FT (by simp [Apt]), WI.out, (((F2.out.setNew (p := ⟨w.heap.size + 2, 0, none⟩) (by dsimp only; omega) _).setNew (p := ⟨w.heap.size + 2, 1, none⟩) (by dsimp only; omega) _).setNew (p := ⟨w.heap.size + 2, 2, none⟩) (by dsimp only; omega) _).setNew (by dsimp only; omega) _⟩
     ·have iw : IntKind.i64.wrap ((c'.txns.length : Int) - 1) = (c'.txns.length : Int) - 1 := by have := CI.out.2.1; rw [IntKind.wrap_i64]; omega
      have x0 := cell_of (o := 0) DX.out rfl
      have x1 := cell_of (o := 1) DX.out rfl
      have p9 := fun o => free_of (o := o) D0.out
      have FS := hid (box2p_fr (u1 := .slice ua c'.txns.length ucap) (u2 := .slice ob c'.order.length obcap) D0.out)
      have E2 := hid (block_setne (p := ⟨w.heap.size, 1, none⟩) (u := .slice ob c'.order.length obcap) (block_setne (p := ⟨w.heap.size, 0, none⟩) (u := .slice ua c'.txns.length ucap) D2.out (by dsimp only; omega)) (by dsimp only; omega))
      have FV := hid ((F2.out.setNew (p := ⟨w.heap.size, 0, none⟩) (by dsimp only; omega) (.slice ua c'.txns.length ucap)).setNew (p := ⟨w.heap.size, 1, none⟩) (by dsimp only; omega) (.slice ob c'.order.length obcap))
      have WR := hid (show WdR lo ((W.setCell ⟨w.heap.size, 0, none⟩ (.slice ua c'.txns.length ucap)).setCell ⟨w.heap.size, 1, none⟩ (.slice ob c'.order.length obcap)) (.slice ua c'.txns.length ucap) (.slice ob c'.order.length obcap) (.slice sa d.shards.length scap) (.slice na d.net.length ncap) ⟨c', d.shards, d.net⟩ from
       WdR.tk ⟨CR2.out, (HV.out.grow F2.out).2.1, (HV.out.grow F2.out).2.2⟩ FS.out (by simp [Apt]))
      go_wp2_with (go_at_call 156; go_must (refine (l51Ask_any lo _ _ _ _ ⟨c', d.shards, d.net⟩ _ _ WR.out (Nat.le_trans hlo FV.out.size) CI.out WI.out.2.2.2).mono ?_; rintro e w5 ⟨u4, ms, rfl, nr, ni, fr5⟩; obtain ⟨nb, ncap', rfl, _, _⟩ := nr.shape; have NR := hid nr; have NI := hid ni; have FR5 := hid fr5; have G1 := hid (fr5.keep _ _ E2.out (.inr (by simp))); have s4 := fun o => free_of (o := o) G1.out; have s5 := cell_of (o := 0) G1.out rfl; have s6 := cell_of (o := 1) G1.out rfl; have s7 := cell_of (o := 2) G1.out rfl; have s8 := cell_of (o := 3) G1.out rfl; have hlG := lt_of_get G1.out; clear nr ni fr5))
      have WR2 : WdR lo w5 (.slice ua c'.txns.length ucap) (.slice ob c'.order.length obcap) (.slice sa d.shards.length scap) (.slice nb ms.length ncap') ⟨c', d.shards, ms⟩ := ⟨(WR.out.grow FR5.out).1, (WR.out.grow FR5.out).2.1, NR.out⟩
      have F5 := FV.out.trans FR5.out.nil
      have h4 := box4 (u1 := .slice ua c'.txns.length ucap) (u2 := .slice ob c'.order.length obcap) (u3 := .slice sa d.shards.length scap) (u4 := .slice nb ms.length ncap') G1.out
      have g0 := cell_of (o := 0) h4 rfl
      have g1 := cell_of (o := 1) h4 rfl
      have g2 := cell_of (o := 2) h4 rfl
      have g3 := cell_of (o := 3) h4 rfl
      have FT := box4_fr (u1 := .slice ua c'.txns.length ucap) (u2 := .slice ob c'.order.length obcap) (u3 := .slice sa d.shards.length scap) (u4 := .slice nb ms.length ncap') G1.out
      exact bodyPost_ret (v := .agg #[.slice ua c'.txns.length ucap, .slice ob c'.order.length obcap, .slice sa d.shards.length scap, .slice nb ms.length ncap']) (by simp [results, Tryz.results107, go_sem, g0, g1, g2, g3]) rfl ⟨_, _, _, _, ⟨c', d.shards, ms⟩, rfl, (WR2).tk FT (by simp [Apt]), ⟨CI.out, WI.out.2.1, WI.out.2.2.1, NI.out⟩, (((F5.setNew (p := ⟨w.heap.size + 2, 0, none⟩) (by dsimp only; omega) _).setNew (p := ⟨w.heap.size + 2, 1, none⟩) (by dsimp only; omega) _).setNew (p := ⟨w.heap.size + 2, 2, none⟩) (by dsimp only; omega) _).setNew (by dsimp only; omega) _⟩

end Go.Proofs.YtknoanpgadecbaaGreatDoor
