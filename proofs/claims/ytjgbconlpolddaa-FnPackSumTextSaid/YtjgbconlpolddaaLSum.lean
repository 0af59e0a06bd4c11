/- FnPackSumText: the walk. -/
import Derived.Test.YtjgbconlpolddaaPkSumB
namespace Go.Proofs.Ytjgbconlpolddaa
open Go.RowKit
set_option linter.unusedVariables false

set_option maxRecDepth 20000 in
set_option maxHeartbeats 40000000 in
theorem packSum_walk {w : World} {a a' : Option Addr} {n cap n' cap' : Nat} (hb : Bytes w.heap.size w a n cap) (hm : cap ≤ maxLen) (hb' : n' ≤ cap') (hm' : cap' ≤ maxLen) (hg : Glob w) :
    Calls Try.prog 5 #[.slice a n cap, .slice a' n' cap'] w fun e w' => e = .returned (.bool true) ∧ Fr w.heap.size [] w w' := by
  have hnc := hb.1
  have HB := hid hb
  have HG := hid hg
  have hpos : 0 < w.heap.size := by obtain ⟨m, hm⟩ := hg; exact World.block_lt_of_cell? _ _ hm
  obtain ⟨iob, hoi, hoz0, hoz1, hoz2⟩ := info_parts infoOb
  clear hb hg
  unfold maxLen at hm'
  go_enter Try.func5, Try.ntmps5
  by_cases hn1 : n ≤ 1048576
  · have in1 : ¬ (1048576 : Int) < (n : Int) := by omega
    by_cases hn2 : n' ≤ 1048576
    · have in2 : ¬ (1048576 : Int) < (n' : Int) := by omega
      go_upto_region 6 with (first
        | (go_at_call 9; go_must (refine (drawPackMake_any HB.out hm).mono ?_; rintro e w1 ⟨v1, os, rfl, own1, hl, hfew, fr1⟩; have FEW := hid hfew; have OS1 := hid own1.reads; have OSO := hid own1; have F1 := hid fr1; obtain ⟨va, vcap, rfl, hvl, -⟩ := own1.reads.shape; clear own1 fr1))
        | (go_at_call 10; go_must (refine (implPackMake_any (new w.heap.size) _ os _ OS1.out (FEW.out.b hl) (HG.out.keep F1.out hpos)).mono ?_; rintro e w2 ⟨v2, rfl, own2, fr2⟩; have OW2 := hid (own2.lower F1.out.size); have OS2 := hid (OS1.out.grow fr2); have F2 := hid (F1.out.trans fr2.nil); have F12 := hid (fr2.nil (B' := 0) (T := [])); clear own2 fr2))
        | (go_at_call 11; go_must (refine (specPackMake_any (new w.heap.size) _ os _ OS2.out (FEW.out.b hl)).mono ?_; rintro e w3 ⟨v3, rfl, own3, fr3⟩; have OW3 := hid (own3.lower F2.out.size); have OSO3 := hid ((OSO.out.grow F12.out).grow fr3); have OW23 := hid (OW2.out.grow fr3); have F3 := hid (F2.out.trans fr3.nil); clear own3 fr3)))
      have EB := hid (packEn_b FEW.out hl (packOk os))
      obtain ⟨es, hES⟩ : ∃ es, (if packOk os then pack os else []) = es := ⟨_, rfl⟩
      have UPE := hid (show packOk os = true → unpack es = some os ∧ es.length = os.length from fun h => by rw [← hES, if_pos h]; exact ⟨unpack_pack h, pack_len' os⟩)
      have PE := hid (show packOk os = false → es = [] from fun h => by rw [← hES, h]; rfl)
      rw [hES] at EB OW3 OW23
      clear hES OW2
      obtain ⟨ok, hok⟩ : ∃ ok, packOk os = ok := ⟨_, rfl⟩
      have PK := hid hok
      rw [hok]
      clear hok
      obtain ⟨a2, cap2, rfl, hc2, -⟩ := OW23.out.reads.shape
      obtain ⟨a3, cap3, rfl, hc3, -⟩ := OW3.out.reads.shape
      have SM := hid (fun (x : World) (hx : Fr w3.heap.size [] w3 x) => samePack_eq (new w.heap.size) (new w.heap.size) _ _ es x (OW23.out.reads.grow hx) (OW3.out.reads.grow hx) EB.out)
      cases ok
      · obtain rfl := PE.out PK.out
        go_wp2_with (first
          | (go_at_call 12; (refine (SM.out w3 (Fr.refl _ _ _)).mono ?_); go_must (rintro e w4 ⟨rfl, fr4⟩; have F4 := hid (F3.out.trans fr4.nil)))
          | (go_at_call 12; go_must (refine (SM.out w4 fr4).mono ?_; rintro e w5 ⟨rfl, fr5⟩; have F5 := hid (F4.out.trans fr5.nil))))
        go_ret
        exact ⟨rfl, F5.out⟩
      · obtain ⟨hun, heo⟩ := UPE.out PK.out
        have UN := hid hun
        have hp16 := (packOk_all PK.out).1
        clear hun
        by_cases he0 : os.length = 0
        · obtain rfl : es = [] := List.eq_nil_of_length_eq_zero (by omega)
          clear he0 heo
          go_wp2_with (first
            | (go_at_call 12; (refine (SM.out w3 (Fr.refl _ _ _)).mono ?_); go_must (rintro e w4 ⟨rfl, fr4⟩; have F4 := hid (F3.out.trans fr4.nil)))
            | (go_at_call 12; go_must (refine (SM.out w4 fr4).mono ?_; rintro e w5 ⟨rfl, fr5⟩; have F5 := hid (F4.out.trans fr5.nil))))
          go_ret
          exact ⟨rfl, F5.out⟩
        · have hel : 0 < os.length := by omega
          have hel' : 0 < es.length := by omega
          have hz : ((es.length : Int) == 0) = false := by rw [beq_eq_false_iff_ne]; omega
          have hz' : ((os.length : Int) == 0) = false := by rw [beq_eq_false_iff_ne]; omega
          have HEO := hid heo
          clear he0 heo
          go_upto_region 9 with (first
            | (go_at_call 12; (refine (SM.out w3 (Fr.refl _ _ _)).mono ?_); go_must (rintro e w4 ⟨rfl, fr4⟩; have F4 := hid (F3.out.trans fr4.nil); have OSO4 := hid (OSO3.out.grow fr4); have R4 := hid (OW23.out.reads.grow fr4))))
          obtain ⟨k, hk, hkl⟩ : ∃ k : Nat, (n' : Int) % (os.length : Int) = (k : Int) ∧ k < os.length := ⟨n' % os.length, by simp, Nat.mod_lt _ hel⟩
          rw [hk]
          clear hk
          have hki : (k : Int) < (os.length : Int) := by omega
          have LB := hid (fun e he => (EB.out.2 e he).1)
          obtain ⟨_, _, hva, _, hsh⟩ := OSO4.out.reads.shape
          cases hva
          rcases hsh with hh | ⟨bb, off, hva, hbb, hcell⟩
          · rw [hh] at hel; cases hel
          · obtain ⟨_, _, _, hct, _⟩ := hcell k hkl
            cases hva
            clear hcell
            have OKK := hid (show obOk os[k] = true from (packOk_all PK.out).2 _ (List.getElem_mem hkl))
            have hs0 := (sumTo_in (os := os) hp16 os.length).1
            by_cases ht : os[k].text = []
            · have hte : (tx os[k].text).toList.isEmpty = true := by rw [tx_list, ht]; rfl
              clear ht
              go_wp2_with (first
                | (go_at_call 16; go_must (refine (implPackSum_any (new w.heap.size) _ es os _ R4.out (Mild.new _ _) LB.out UN.out).mono ?_; rintro e w5 ⟨rfl, fr5⟩; have F5 := hid (F4.out.trans fr5.nil))))
              go_ret
              exact ⟨by first | rfl | simp [hs0], F5.out⟩
            · have hte : (tx os[k].text).toList.isEmpty = false := by rw [tx_list]; simpa using ht
              obtain ⟨c0, t0, htx⟩ : ∃ c0 t0, os[k].text = c0 :: t0 := by
                cases hx : os[k].text with
                | nil => exact absurd hx ht
                | cons c0 t0 => exact ⟨c0, t0, rfl⟩
              have HTX := hid htx
              clear ht htx
              obtain ⟨zs, z1, z2, z3⟩ := OSO4.out
              have ZS := hid (⟨z1, SlR.ofOwns z2, z3⟩ : zs.map (·.1) = os ∧ SlR (new w.heap.size) 40 3 w4 (.slice (some ⟨bb, off, none⟩) os.length vcap) os.length (zs.flatMap encOb) ∧ ∀ z ∈ zs, IntsR (new w.heap.size) w4 z.2 z.1.links)
              clear z1 z2 z3
              go_wp2_with (first
                | (refine wpList_clone rfl (.tmp 74) (.tmp 75) 23 rfl 40 iob (.agg #[.int .i64 0, .slice none 0 0, .string ⟨#[]⟩]) 3 48 Try.underlying23 hoi hoz0 hoz1 hoz2 rfl (by decide) w4.heap.size (by rfl) rfl (new w.heap.size) 40 _ os.length (zs.flatMap encOb) (by rfl) ZS.out.2.1 (oneObs ZS.out.2.2) (by unfold maxLen; omega) (by omega) ?_; intro v5 w5 own5 fr5; obtain ⟨g5, cap5, rfl, hg5, hg5l, _⟩ := own_shape own5 hel; have OWN5 := hid own5; have FR5 := hid fr5; clear own5 fr5))
              go_cut [11] (fun v11 wx => v11 = .slice (some ⟨g5, 0, none⟩) os.length cap5 ∧ ∃ c1 : UInt8, c1 ≠ c0 ∧ wx = ((w5.setCell ⟨g5, k * 3 + 2, none⟩ (.string (tx (c1 :: t0)))).alloc (.cells #[.int .u8 (c1.toNat : Int)] 5)).drew)
              case first =>
                have hct5 := FR5.out.cell hbb hct
                rw [HTX.out] at hct5
                have hbb5 : bb < w5.heap.size := Nat.lt_of_lt_of_le hbb FR5.out.size
                have hsx := tx_size (c0 :: t0)
                have hll := (obOk_len OKK.out).2
                rw [HTX.out] at hll
                have hll' : t0.length + 1 ≤ 8 := by simpa using hll
                obtain ⟨⟨u5, hu5⟩, hf5, -⟩ := ObsOwn.clonedText OWN5.out F4.out.size ZS.out.1 (fun z hz => (ZS.out.2.2 z hz).grow FR5.out) hkl []
                have hp5 : 0 < (tx (c0 :: t0)).size := by rw [hsx]; simp
                obtain ⟨c1, hc1, hx1, hx2, hx3⟩ := sum_byte c0 t0 n hp5
                have HC1 := hid hc1
                clear hc1
                have hcv := sum_conv w5 c1
                have hs1 := tx_size [c1]
                have hex : (tx (c0 :: t0)).extract 1 (t0.length + 1) = tx t0 := by rw [tx_extract]; simp
                have hst := tx_size t0
                have hap := tx_append [c1] t0
                have hsum : 1 + t0.length ≤ 9223372036854775807 := by omega
                go_region_with fail
                all_goals go_wp2_with fail
                all_goals go_meet
                all_goals exact ⟨rfl, c1, HC1.out, rfl⟩
              case rest =>
                obtain ⟨rfl, c1, hc1, hwc⟩ := hcut
                obtain ⟨-, -, hx6, frs⟩ := ObsOwn.clonedText OWN5.out F4.out.size ZS.out.1 (fun z hz => (ZS.out.2.2 z hz).grow FR5.out) hkl (c1 :: t0)
                obtain ⟨os', hos', hbq, hp', hu', hlb', hsn⟩ := sum_law FEW.out hl PK.out hkl HTX.out hc1
                rw [hos'] at hx6
                have hlo' : os'.length = os.length := by rw [← hos', List.length_set]
                have hlo5 : w.heap.size ≤ g5 := Nat.le_trans F4.out.size hg5
                have F6 := hid (show Fr w.heap.size [] w wc from by rw [hwc]; exact (((F4.out.trans FR5.out.nil).setNew (p := ⟨g5, k * 3 + 2, none⟩) hlo5 (.string (tx (c1 :: t0)))).alloc (.cells #[.int .u8 (c1.toNat : Int)] 5)).drew)
                have X6 := hid (show ObsR (new w.heap.size) wc (.slice (some ⟨g5, 0, none⟩) os.length cap5) os' from by rw [hwc]; exact hx6.grow (((Fr.refl 0 [] _).alloc (.cells #[.int .u8 (c1.toNat : Int)] 5)).drew))
                have R6 := hid (show EnsR (new w.heap.size) wc (.slice a2 es.length cap2) es from by rw [hwc]; exact ((R4.out.grow FR5.out).keep frs (Safe.new (by simp)) (Safe.new (by simp)) (Safe.new (by simp))).grow (((Fr.refl 0 [] _).alloc (.cells #[.int .u8 (c1.toNat : Int)] 5)).drew))
                have BB := hid hbq
                have PP := hid hp'
                obtain ⟨es', hes'⟩ : ∃ es', pack os' = es' := ⟨_, rfl⟩
                rw [hes'] at hu' hlb'
                have HE' := hid hes'
                have UU := hid hu'
                have LL := hid hlb'
                clear hes'
                obtain ⟨s, hs⟩ : ∃ s, sumTo os os.length = s := ⟨_, rfl⟩
                obtain ⟨s', hs'⟩ : ∃ s, sumTo os' os'.length = s := ⟨_, rfl⟩
                rw [hs, hs'] at hsn
                have HS := hid hs
                have HS' := hid hs'
                have hne : (s' == s) = false := by rw [beq_eq_false_iff_ne]; exact hsn
                obtain ⟨W6, rfl⟩ : ∃ W : World, W = wc := ⟨_, rfl⟩
                clear hwc hx6 frs hos' hbq hp' hu' hlb' hlo' hs hs' hs0
                go_wp2_with (first
                  | (go_at_call 10; go_must (refine (implPackMake_any (new w.heap.size) _ os' _ X6.out BB.out (HG.out.keep F6.out hpos)).mono ?_; rintro e w7 ⟨v7, rfl, own7, fr7⟩; rw [PP.out]; rw [PP.out, if_pos rfl, HE'.out] at own7; have R7 := hid (R6.out.grow fr7); have F7 := hid (F6.out.trans fr7.nil); have OW7 := hid (own7.lower F6.out.size); clear own7 fr7))
                  | (go_at_call 16; ((with_reducible refine (implPackSum_any (new w.heap.size) _ es' os' _ OW7.out.reads (Mild.new _ _) LL.out UU.out).mono ?_)); go_must (rintro e w8 ⟨rfl, fr8⟩; rw [HS'.out]; have R8 := hid (R7.out.grow fr8); have F8 := hid (F7.out.trans fr8.nil); clear fr8))
                  | (go_at_call 16; go_must (refine (implPackSum_any (new w.heap.size) _ es os _ R8.out (Mild.new _ _) LB.out UN.out).mono ?_; rintro e w9 ⟨rfl, fr9⟩; rw [HS.out]; have F9 := hid (F8.out.trans fr9.nil); clear fr9)))
                go_ret
                exact ⟨by first | rfl | (simp; exact hsn), F9.out⟩
    · have in2 : (1048576 : Int) < (n' : Int) := by omega
      go_wp2
      go_ret
      exact ⟨rfl, Fr.refl _ _ _⟩
  · have in1 : (1048576 : Int) < (n : Int) := by omega
    go_wp2
    go_ret
    exact ⟨rfl, Fr.refl _ _ _⟩

end Go.Proofs.Ytjgbconlpolddaa
