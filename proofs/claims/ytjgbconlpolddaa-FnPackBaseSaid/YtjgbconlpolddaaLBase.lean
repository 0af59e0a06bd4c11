/- FnPackBase: the walk. -/
import Derived.Test.YtjgbconlpolddaaPkBase
namespace Go.Proofs.Ytjgbconlpolddaa
open Go.RowKit
set_option linter.unusedVariables false

set_option maxRecDepth 20000 in
set_option maxHeartbeats 4000000 in
theorem packBase_walk {w : World} {a a' : Option Addr} {n cap n' cap' : Nat} (hb : Bytes w.heap.size w a n cap) (hm : cap ≤ maxLen) (hb' : n' ≤ cap') (hm' : cap' ≤ maxLen) (hg : Glob w) :
    Calls Try.prog 3 #[.slice a n cap, .slice a' n' cap'] w fun e w' => e = .returned (.bool true) ∧ Fr w.heap.size [] w w' := by
  have hnc := hb.1
  have HB := hid hb
  have HG := hid hg
  have hpos : 0 < w.heap.size := by obtain ⟨m, hm⟩ := hg; exact World.block_lt_of_cell? _ _ hm
  obtain ⟨ien, hei, hez0, hez1, hez2⟩ := info_parts infoEn
  clear hb hg
  unfold maxLen at hm'
  go_enter Try.func3, Try.ntmps3
  by_cases hn1 : n ≤ 1048576
  · have in1 : ¬ (1048576 : Int) < (n : Int) := by omega
    by_cases hn2 : n' ≤ 1048576
    · have in2 : ¬ (1048576 : Int) < (n' : Int) := by omega
      go_upto_region 6 with (first
        | (go_at_call 9; go_must (refine (drawPackMake_any HB.out hm).mono ?_; rintro e w1 ⟨v1, os, rfl, own1, hl, hfew, fr1⟩; have FEW := hid hfew; have OS1 := hid own1.reads; have F1 := hid fr1; obtain ⟨va, vcap, rfl, hvl, -⟩ := own1.reads.shape; clear own1 fr1))
        | (go_at_call 10; go_must (refine (implPackMake_any (new w.heap.size) _ os _ OS1.out (FEW.out.b hl) (HG.out.keep F1.out hpos)).mono ?_; rintro e w2 ⟨v2, rfl, own2, fr2⟩; have OW2 := hid (own2.lower F1.out.size); have OS2 := hid (OS1.out.grow fr2); have F2 := hid (F1.out.trans fr2.nil); clear own2 fr2))
        | (go_at_call 11; go_must (refine (specPackMake_any (new w.heap.size) _ os _ OS2.out (FEW.out.b hl)).mono ?_; rintro e w3 ⟨v3, rfl, own3, fr3⟩; have OW3 := hid (own3.lower F2.out.size); have OW23 := hid (OW2.out.grow fr3); have F3 := hid (F2.out.trans fr3.nil); clear own3 fr3)))
      have EB := hid (packEn_b FEW.out hl (packOk os))
      have hlen : (if packOk os then pack os else []).length = if packOk os then os.length else 0 := by split <;> simp [pack_len]
      have h16 : packOk os = true → os.length ≤ 16 := fun h => by unfold packOk at h; simp at h; exact h.1
      clear OW2
      revert EB OW3 OW23 hlen h16
      generalize packOk os = ok
      intro OW3 OW23 EB hlen h16
      generalize hES : (if ok then pack os else []) = es at *
      obtain ⟨a2, cap2, rfl, hc2, -⟩ := OW23.out.reads.shape
      obtain ⟨a3, cap3, rfl, hc3, -⟩ := OW3.out.reads.shape
      have SM := hid (fun (x : World) (hx : Fr w3.heap.size [] w3 x) => samePack_eq (new w.heap.size) (new w.heap.size) _ _ es x (OW23.out.reads.grow hx) (OW3.out.reads.grow hx) EB.out)
      cases ok
      · obtain rfl : es = [] := by simpa using hES.symm
        clear hES hlen h16
        go_wp2_with (first
          | (go_at_call 12; (refine (SM.out w3 (Fr.refl _ _ _)).mono ?_); go_must (rintro e w4 ⟨rfl, fr4⟩; have F4 := hid (F3.out.trans fr4.nil)))
          | (go_at_call 12; go_must (refine (SM.out w4 fr4).mono ?_; rintro e w5 ⟨rfl, fr5⟩; have F5 := hid (F4.out.trans fr5.nil))))
        go_ret
        exact ⟨rfl, F5.out⟩
      · have hel2 : es.length ≤ 16 := by rw [hlen, if_pos rfl]; exact h16 rfl
        by_cases he0 : es.length = 0
        · obtain rfl : es = [] := List.eq_nil_of_length_eq_zero he0
          clear hES hlen h16 he0 hel2
          go_wp2_with (first
            | (go_at_call 12; (refine (SM.out w3 (Fr.refl _ _ _)).mono ?_); go_must (rintro e w4 ⟨rfl, fr4⟩; have F4 := hid (F3.out.trans fr4.nil)))
            | (go_at_call 12; go_must (refine (SM.out w4 fr4).mono ?_; rintro e w5 ⟨rfl, fr5⟩; have F5 := hid (F4.out.trans fr5.nil))))
          go_ret
          exact ⟨rfl, F5.out⟩
        · have hel : 0 < es.length := by omega
          clear he0 hES hlen h16
          have hz : ((es.length : Int) == 0) = false := by rw [beq_eq_false_iff_ne]; omega
          go_upto_region 9 with (first
            | (go_at_call 12; (refine (SM.out w3 (Fr.refl _ _ _)).mono ?_); go_must (rintro e w4 ⟨rfl, fr4⟩; have F4 := hid (F3.out.trans fr4.nil))))
          obtain ⟨zs, z1, z2, z3⟩ := OW23.out
          have ZS := hid (⟨z1, SlR.ofOwns z2, z3⟩ : zs.map (·.1) = es ∧ SlR (new w.heap.size) 32 4 w3 (.slice a2 es.length cap2) es.length (zs.flatMap encEn) ∧ ∀ z ∈ zs, IntsR (new w.heap.size) w3 z.2.1 z.1.links ∧ OpsR (new w.heap.size) w3 z.2.2 z.1.ops)
          clear z1 z2 z3 OW23
          go_upto_region 10 with (first
            | (refine wpList_clone rfl (.tmp 65) (.tmp 66) 25 rfl 32 ien (.agg #[.int .i64 0, .slice none 0 0, .int .i64 0, .slice none 0 0]) 4 64 Try.underlying25 hei hez0 hez1 hez2 rfl (by decide) w4.heap.size (by rfl) rfl (new w.heap.size) 32 _ es.length (zs.flatMap encEn) (by rfl) (ZS.out.2.1.grow fr4) (oneEn ZS.out.2.2) (by unfold maxLen; omega) (by omega) ?_; intro v5 w5 own5 fr5; obtain ⟨g5, cap5, rfl, hg5, hg5l, _⟩ := own_shape own5 hel; have OWN5 := hid own5; have FR5 := hid fr5; clear own5 fr5))
          obtain ⟨k, hk, hkl⟩ : ∃ k : Nat, (n' : Int) % (es.length : Int) = (k : Int) ∧ k < es.length := ⟨n' % es.length, by simp, Nat.mod_lt _ hel⟩
          rw [hk]
          clear hk
          have hlo5 : w.heap.size ≤ g5 := Nat.le_trans F4.out.size hg5
          obtain ⟨⟨u5, hu5⟩, hf5, hes⟩ := EnsOwn.clonedSet OWN5.out F4.out.size ZS.out.1 (fun z hz => ⟨((ZS.out.2.2 z hz).1.grow fr4).grow FR5.out, ((ZS.out.2.2 z hz).2.grow fr4).grow FR5.out⟩) hkl (k : Int)
          have ES6 := hid hes
          have NO6 := hid (link_bad hkl)
          have hl6 : (es.set k { es[k] with base := (k : Int) }).length = es.length := List.length_set
          clear hes
          revert hl6 NO6 ES6
          generalize es.set k { es[k] with base := (k : Int) } = es6
          intro ES6 NO6 hl6
          have hki : (k : Int) < (es.length : Int) := by omega
          have F6 := hid ((F4.out.trans FR5.out.nil).setNew (p := ⟨g5, k * 4 + 2, none⟩) hlo5 (.int .i64 k))
          go_wp2_with (first
            | (go_at_call 13; go_must (refine (packObjects_no (new w.heap.size) _ es6 _ ES6.out (by omega) (Safe.new (by simp)) (Safe.new (by simp)) NO6.out).mono ?_; rintro e w7 ⟨fr7, rfl⟩; have F7 := hid (F6.out.trans fr7.nil); have ES7 := hid (ES6.out.grow fr7); clear fr7))
            | (go_at_call 14; go_must (refine (packDepth_no (new w.heap.size) _ es6 _ _ ES7.out (by omega) (Safe.new (by simp)) (Safe.new (by simp)) NO6.out).mono ?_; rintro e w8 ⟨fr8, rfl⟩; have F8 := hid (F7.out.trans fr8.nil); clear fr8)))
          go_ret
          exact ⟨rfl, F8.out⟩
    · have in2 : (1048576 : Int) < (n' : Int) := by omega
      go_wp2
      go_ret
      exact ⟨rfl, Fr.refl _ _ _⟩
  · have in1 : (1048576 : Int) < (n : Int) := by omega
    go_wp2
    go_ret
    exact ⟨rfl, Fr.refl _ _ _⟩

end Go.Proofs.Ytjgbconlpolddaa
