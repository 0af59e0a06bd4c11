/- container/heap: down, Pop. -/
import Derived.Test.YtjgbconlpolddaaGreatQM6
set_option linter.unusedVariables false
set_option linter.unusedSimpArgs false
namespace Go.Proofs.YtjgbconlpolddaaGreat
open Go.RowKit
set_option linter.unusedVariables false

theorem HeapAt.grow {lo b B : Nat} {w w' : World} {v : Value} {l : List Int} (h : HeapAt lo b w v l) (hf : Fr B [] w w') : HeapAt lo b w' v l := ⟨h.1, hf.keep _ _ h.2.1 (.inr (by simp)), ownsRow_grow h.2.2 hf⟩

theorem HeapAt.cell {lo b : Nat} {w : World} {v : Value} {l : List Int} (h : HeapAt lo b w v l) : w.cell? ⟨b, 0, none⟩ = some v := cell_of (o := 0) h.2.1 rfl

theorem HeapAt.row {lo b : Nat} {w : World} {v : Value} {l : List Int} (h : HeapAt lo b w v l) : OwnI lo w v l := h.2.2

theorem Fx.ofFr {P : Nat → Prop} {B : Nat} {w w' : World} (h : Fr B [] w w') : Fx P w w' := ⟨h.os, h.tape, h.output, h.size, fun k o hk _ => h.keep k o hk (.inr (by simp))⟩

/-- What a round of down keeps. -/
structure Dn (lo b n : Nat) (v : Value) (l : List Int) (w wr : World) (k : Nat) (m : List Int) : Prop where
  ha : HeapAt lo b wr v m
  hd : HD m k n
  len : m.length = n + 1
  perm : m.Perm l
  last : at0 m n = at0 l n
  fx : Fx (hb2 b v) w wr
  le : k ≤ n

/-- What down leaves. -/
structure Dd (lo b n : Nat) (v : Value) (l : List Int) (w wr : World) (m : List Int) : Prop where
  ha : HeapAt lo b wr v m
  hp : HP m n
  perm : m.Perm l
  last : at0 m n = at0 l n
  fx : Fx (hb2 b v) w wr

theorem Dn.grow {lo b n B : Nat} {v : Value} {l : List Int} {w wr wx : World} {k : Nat} {m : List Int} (h : Dn lo b n v l w wr k m) (hf : Fr B [] wr wx) : Dn lo b n v l w wx k m :=
  ⟨h.ha.grow hf, h.hd, h.len, h.perm, h.last, h.fx.trans (Fx.ofFr hf), h.le⟩

theorem Dn.fin {lo b n : Nat} {v : Value} {l : List Int} {w wr : World} {k : Nat} {m : List Int} (h : Dn lo b n v l w wr k m) (hp : HP m n) : Dd lo b n v l w wr m := ⟨h.ha, hp, h.perm, h.last, h.fx⟩

theorem Dn.swap {lo b n : Nat} {v : Value} {l : List Int} {w wr wx : World} {k j : Nat} {m : List Int} (h : Dn lo b n v l w wr k m) (hj : chi k j) (hjn : j < n) (hmin : ∀ c, chi k c → c < n → at0 m j ≤ at0 m c) (hlt : at0 m j < at0 m k)
    {s : List Int} (hs : s = swp m k j) (ho : OwnI lo wx v s) (hg : wr.grownBy wx v.ownBlock) (hf : Fr lo [3] wr wx) : Dn lo b n v l w wx j (swp m k j) := by
  have hk : k < m.length := by have := h.len; unfold chi at hj; omega
  have hjl : j < m.length := by have := h.len; omega
  subst hs
  refine ⟨⟨h.ha.1, hf.keep _ _ h.ha.2.1 (.inr (by simp [otag])), ho⟩, h.hd.step hj hjn (by have := h.len; omega) hmin hlt, by rw [swp_len]; exact h.len, (swp_perm hk hjl).trans h.perm, ?_, h.fx.trans (Fx.ofGrown hg fun k hk => .inr hk), by omega⟩
  rw [swp_at hk hjl, if_neg (by omega), if_neg (by unfold chi at hj; omega)]
  exact h.last

theorem swp_set {m : List Int} {i j : Nat} (hi : i < m.length) (hj : j < m.length) : (m.set i m[j]).set j m[i] = swp m i j := by
  unfold swp
  rw [at0_get hi, at0_get hj]

/-- The smaller child. -/
def childAt (m : List Int) (n c : Nat) : Nat := if c + 1 < n ∧ at0 m (c + 1) < at0 m c then c + 1 else c

theorem childAt_chi {m : List Int} {n k : Nat} (h : 2 * k + 1 < n) : chi k (childAt m n (2 * k + 1)) ∧ childAt m n (2 * k + 1) < n ∧ ∀ c, chi k c → c < n → at0 m (childAt m n (2 * k + 1)) ≤ at0 m c := by
  unfold childAt
  split
  · rename_i h2
    refine ⟨.inr rfl, h2.1, fun c hc hcn => ?_⟩
    rcases hc with rfl | rfl
    · omega
    · exact Int.le_refl _
  · rename_i h2
    refine ⟨.inl rfl, h, fun c hc hcn => ?_⟩
    rcases hc with rfl | rfl
    · exact Int.le_refl _
    · have : ¬ at0 m (2 * k + 1 + 1) < at0 m (2 * k + 1) := fun h3 => h2 ⟨by omega, h3⟩
      have e : 2 * k + 2 = 2 * k + 1 + 1 := by omega
      rw [e]
      omega

set_option maxRecDepth 20000 in
set_option maxHeartbeats 4000000 in
theorem down_any {lo b n : Nat} {w : World} {v : Value} {l : List Int} (h : HeapAt lo b w v l) (hl : l.length = n + 1) (hn : n ≤ 1000000) (hd : HD l 0 n) :
    Calls Tryz.prog 63 #[hv b, .int .i64 0, .int .i64 n] w fun e w' => (∃ r, e = .returned r) ∧ ∃ m, Dd lo b n v l w w' m := by
  obtain ⟨a, cap, rfl⟩ := OwnI.any h.2.2
  rw [hl] at h ⊢
  have H := hid h
  have HDD := hid hd
  have PE := hid (List.Perm.refl l)
  have hme := fun w' h => meth_less b a (n + 1) cap w' h
  have hms := fun w' h => meth_swap b a (n + 1) cap w' h
  clear h hd
  go_enter Tryz.func63, Tryz.ntmps63
  go_wp2
  go_loopw [7] (fun i wr => ∃ (k : Nat) (m : List Int), i = .int .i64 k ∧ Dn lo b n (.slice a (n + 1) cap) l w wr k m) (fun i _ => 1000002 - (intOf i).toNat)
  case atStart => exact ⟨0, l, rfl, H.out, HDD.out, hl, PE.out, rfl, Fx.refl _ _, Nat.zero_le _⟩
  case round =>
    obtain ⟨k, m, rfl, hdn⟩ := hrel
    obtain ⟨c, hc⟩ : ∃ c, c = 2 * k + 1 := ⟨_, rfl⟩
    have hkn := hdn.le
    have i1 : IntKind.i64.wrap (2 * (k : Int)) = 2 * (k : Int) := by rw [IntKind.wrap_i64]; omega
    have i2 : IntKind.i64.wrap (2 * (k : Int) + 1) = (c : Int) := by rw [IntKind.wrap_i64]; omega
    have i3 : ¬ (c : Int) < 0 := by omega
    have ml := hdn.len
    by_cases hcn : n ≤ c
    · have i4 : (n : Int) ≤ (c : Int) := by omega
      have DD := hid (hdn.fin (hdn.hd.last (by omega)))
      clear hdn hc
      go_wp2
      go_ret
      exact ⟨⟨_, rfl⟩, m, DD.out⟩
    · have i4 : ¬ (n : Int) ≤ (c : Int) := by omega
      have i4b : (c : Int) < (n : Int) := by omega
      obtain ⟨d, hdc⟩ : ∃ d, d = c + 1 := ⟨_, rfl⟩
      have i5 : IntKind.i64.wrap ((c : Int) + 1) = (d : Int) := by rw [IntKind.wrap_i64]; omega
      obtain ⟨hch, hchn, hmin⟩ := childAt_chi (m := m) (n := n) (k := k) (by omega)
      obtain ⟨j, hj⟩ : ∃ j, j = childAt m n (2 * k + 1) := ⟨_, rfl⟩
      rw [← hj] at hch hchn hmin
      have hml : m.length = n + 1 := hdn.len
      have DN := hid hdn
      have hcl : c < m.length := by omega
      have hkl : k < m.length := by omega
      have hjl : j < m.length := by omega
      have hcell := hdn.ha.cell
      have hkj : j ≤ 1000000 ∧ k < j := by unfold chi at hch; omega
      have CH := hid hch
      have CN := hid hchn
      have MI := hid hmin
      have key : (¬ d < n ∧ j = c) ∨ (d < n ∧ j = c ∧ ∀ (g1 : d < m.length) (g2 : c < m.length), decide (m[d] < m[c]) = false) ∨ (d < n ∧ j = d ∧ ∀ (g1 : d < m.length) (g2 : c < m.length), decide (m[d] < m[c]) = true) := by
        rw [hj, ← hc]
        unfold childAt
        by_cases e1 : d < n
        · have g1 : d < m.length := by omega
          rw [← hdc, at0_get g1, at0_get hcl]
          by_cases e2 : m[d] < m[c]
          · right; right; simp [e1, e2]
          · right; left; simp [e1, e2]
        · left; rw [← hdc]; simp [e1]
      have key2 : (∀ (g1 : j < m.length) (g2 : k < m.length), decide (m[j] < m[k]) = false ∧ HP m n) ∨ (∀ (g1 : j < m.length) (g2 : k < m.length), decide (m[j] < m[k]) = true ∧ at0 m j < at0 m k) := by
        rw [at0_get hjl, at0_get hkl]
        by_cases e1 : m[j] < m[k]
        · right; intro g1 g2; simp [e1]
        · left; intro g1 g2
          refine ⟨by simp [e1], hdn.hd.stop hch hmin ?_⟩
          rw [at0_get hjl, at0_get hkl]; omega
      clear hdn hch hchn hmin hj hc
      rcases key with ⟨k1, rfl⟩ | ⟨k1, rfl, k2⟩ | ⟨k1, rfl, k2⟩
      · have i6 : ¬ (d : Int) < (n : Int) := by omega
        clear k1 hdc
        rcases key2 with k3 | k3
        · have K3 := hid k3
          clear k3
          go_wp2_with (first
            | (go_at_call 143; go_must (refine (less_any DN.out.ha.row j k hjl hkl).mono ?_; rintro e w2 ⟨rfl, fr2⟩; rw [(K3.out hjl hkl).1]; have D2 := hid (DN.out.grow fr2); have c2 := D2.out.ha.cell; clear fr2)))
          go_ret
          exact ⟨⟨_, rfl⟩, m, D2.out.fin (K3.out hjl hkl).2⟩
        · have K3 := hid k3
          clear k3
          go_wp2_with (first
            | (go_at_call 143; go_must (refine (less_any DN.out.ha.row j k hjl hkl).mono ?_; rintro e w2 ⟨rfl, fr2⟩; rw [(K3.out hjl hkl).1]; have D2 := hid (DN.out.grow fr2); have c2 := D2.out.ha.cell; clear fr2))
            | (go_at_call 146; go_must (refine (swap_any D2.out.ha.row k j hkl hjl).mono ?_; rintro e w3 ⟨rfl, o3, g3, f3⟩; rw [swp_set hkl hjl] at o3; have D3 := hid (D2.out.swap CH.out CN.out MI.out (K3.out hjl hkl).2 rfl o3 g3 f3); clear o3 g3 f3)))
          exact ⟨⟨j, swp m k j, rfl, D3.out⟩, by simp [intOf]; omega⟩
      · have i6 : (d : Int) < (n : Int) := by omega
        have hdl : d < m.length := by omega
        have K2 := hid (k2 hdl hcl)
        clear k1 k2 hdc
        rcases key2 with k3 | k3
        · have K3 := hid k3
          clear k3
          go_wp2_with (first
            | (go_at_call 143; (with_reducible refine (less_any DN.out.ha.row d j hdl hcl).mono ?_); go_must (rintro e w1 ⟨rfl, fr1⟩; rw [K2.out]; have D1 := hid (DN.out.grow fr1); have c1 := D1.out.ha.cell; clear fr1))
            | (go_at_call 143; go_must (refine (less_any D1.out.ha.row j k hjl hkl).mono ?_; rintro e w2 ⟨rfl, fr2⟩; rw [(K3.out hjl hkl).1]; have D2 := hid (D1.out.grow fr2); have c2 := D2.out.ha.cell; clear fr2)))
          go_ret
          exact ⟨⟨_, rfl⟩, m, D2.out.fin (K3.out hjl hkl).2⟩
        · have K3 := hid k3
          clear k3
          go_wp2_with (first
            | (go_at_call 143; (with_reducible refine (less_any DN.out.ha.row d j hdl hcl).mono ?_); go_must (rintro e w1 ⟨rfl, fr1⟩; rw [K2.out]; have D1 := hid (DN.out.grow fr1); have c1 := D1.out.ha.cell; clear fr1))
            | (go_at_call 143; go_must (refine (less_any D1.out.ha.row j k hjl hkl).mono ?_; rintro e w2 ⟨rfl, fr2⟩; rw [(K3.out hjl hkl).1]; have D2 := hid (D1.out.grow fr2); have c2 := D2.out.ha.cell; clear fr2))
            | (go_at_call 146; go_must (refine (swap_any D2.out.ha.row k j hkl hjl).mono ?_; rintro e w3 ⟨rfl, o3, g3, f3⟩; rw [swp_set hkl hjl] at o3; have D3 := hid (D2.out.swap CH.out CN.out MI.out (K3.out hjl hkl).2 rfl o3 g3 f3); clear o3 g3 f3)))
          exact ⟨⟨j, swp m k j, rfl, D3.out⟩, by simp [intOf]; omega⟩
      · have i6 : (j : Int) < (n : Int) := by omega
        have K2 := hid (k2 hjl hcl)
        clear k1 k2 hdc
        rcases key2 with k3 | k3
        · have K3 := hid k3
          clear k3
          go_wp2_with (first
            | (go_at_call 143; (with_reducible refine (less_any DN.out.ha.row j c hjl hcl).mono ?_); go_must (rintro e w1 ⟨rfl, fr1⟩; rw [K2.out]; have D1 := hid (DN.out.grow fr1); have c1 := D1.out.ha.cell; clear fr1))
            | (go_at_call 143; go_must (refine (less_any D1.out.ha.row j k hjl hkl).mono ?_; rintro e w2 ⟨rfl, fr2⟩; rw [(K3.out hjl hkl).1]; have D2 := hid (D1.out.grow fr2); have c2 := D2.out.ha.cell; clear fr2)))
          go_ret
          exact ⟨⟨_, rfl⟩, m, D2.out.fin (K3.out hjl hkl).2⟩
        · have K3 := hid k3
          clear k3
          go_wp2_with (first
            | (go_at_call 143; (with_reducible refine (less_any DN.out.ha.row j c hjl hcl).mono ?_); go_must (rintro e w1 ⟨rfl, fr1⟩; rw [K2.out]; have D1 := hid (DN.out.grow fr1); have c1 := D1.out.ha.cell; clear fr1))
            | (go_at_call 143; go_must (refine (less_any D1.out.ha.row j k hjl hkl).mono ?_; rintro e w2 ⟨rfl, fr2⟩; rw [(K3.out hjl hkl).1]; have D2 := hid (D1.out.grow fr2); have c2 := D2.out.ha.cell; clear fr2))
            | (go_at_call 146; go_must (refine (swap_any D2.out.ha.row k j hkl hjl).mono ?_; rintro e w3 ⟨rfl, o3, g3, f3⟩; rw [swp_set hkl hjl] at o3; have D3 := hid (D2.out.swap CH.out CN.out MI.out (K3.out hjl hkl).2 rfl o3 g3 f3); clear o3 g3 f3)))
          exact ⟨⟨j, swp m k j, rfl, D3.out⟩, by simp [intOf]; omega⟩

set_option maxRecDepth 20000 in
set_option maxHeartbeats 4000000 in
theorem heapPop_any {lo b : Nat} {w : World} {v : Value} {l : List Int} (h : HeapAt lo b w v l) (hh : HP l l.length) (h0 : 0 < l.length) (hl : l.length ≤ 1000000) :
    Calls Tryz.prog 32 #[hv b] w fun e w' => ∃ x, e = .returned (.iface 3 (.int .i64 x)) ∧ ∃ v' r, HeapAt lo b w' v' r ∧ Popped l r x ∧ v'.ownBlock = v.ownBlock ∧ Fx (hb2 b v) w w' := by
  obtain ⟨n, hn⟩ : ∃ n, l.length = n + 1 := ⟨l.length - 1, by omega⟩
  obtain ⟨a, cap, rfl⟩ := OwnI.any h.2.2
  have hnl : n < l.length := by omega
  rw [hn] at h hh ⊢
  have H := hid h
  have HH := hid hh
  have hlen := meth_len b a (n + 1) cap w h.cell
  have hms := fun w' h => meth_swap b a (n + 1) cap w' h
  have hpo := meth_pop b
  have c0 := h.cell
  have i1 : IntKind.i64.wrap (((n + 1 : Nat) : Int) - 1) = (n : Int) := by rw [IntKind.wrap_i64]; omega
  have ST := hid (HD.start hh hn)
  have SL : (swp l 0 n).length = n + 1 := by rw [swp_len]; exact hn
  clear h hh
  go_enter Tryz.func32, Tryz.ntmps32
  go_wp2_with (first
    | (go_at_call 31; (with_reducible refine (len_any _ _ _ _).mono ?_); go_must (rintro e w2 ⟨rfl, he2⟩; obtain rfl := he2.symm))
    | (go_at_call 146; go_must (refine (swap_any H.out.2.2 0 n h0 hnl).mono ?_; rintro e w3 ⟨rfl, o3, g3, f3⟩; rw [swp_set h0 hnl] at o3; have H3 := hid (show HeapAt lo b w3 (.slice a (n + 1) cap) (swp l 0 n) from ⟨H.out.1, f3.keep _ _ H.out.2.1 (.inr (by simp [otag])), o3⟩); have X3 := hid (show Fx (hb2 b (.slice a (n + 1) cap)) w w3 from Fx.ofGrown g3 fun k hk => .inr hk); clear o3 g3 f3))
    | (go_at_call 63; go_must (refine (down_any H3.out SL (by omega) ST.out).mono ?_; rintro e w4 ⟨⟨r4, rfl⟩, m, dd⟩; have D4 := hid dd; have ml : m.length = n + 1 := (by rw [dd.perm.length_eq, SL]); clear dd))
    | (go_at_call 144; go_must (refine (popM_any D4.out.ha ml (by omega)).mono ?_; rintro e w5 ⟨rfl, v5, h5, o5, x5⟩; have H5 := hid h5; have O5 := hid o5; have X5 := hid x5; clear h5 o5 x5)))
  go_ret
  refine ⟨_, rfl, v5, m.take n, H5.out, ?_, O5.out, (X3.out.trans D4.out.fx).trans X5.out⟩
  have e : at0 m n = at0 l 0 := by
    rw [D4.out.last, swp_at h0 hnl, if_pos rfl]
  rw [e]
  exact Popped.of hn HH.out D4.out.hp (D4.out.perm.trans (swp_perm h0 hnl)) e

end Go.Proofs.YtjgbconlpolddaaGreat
