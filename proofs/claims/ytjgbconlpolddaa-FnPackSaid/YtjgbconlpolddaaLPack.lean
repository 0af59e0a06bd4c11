/- FnPack: the walk. -/
import Derived.Test.YtjgbconlpolddaaPkBase
import Derived.Test.YtjgbconlpolddaaPkObjI
import Derived.Test.YtjgbconlpolddaaPkSameO
namespace Go.Proofs.Ytjgbconlpolddaa
open Go.RowKit
set_option linter.unusedVariables false

set_option maxRecDepth 20000 in
set_option maxHeartbeats 4000000 in
theorem pack_walk {w : World} {a : Option Addr} {n cap : Nat} (hb : Bytes w.heap.size w a n cap) (hm : cap ≤ maxLen) (hg : Glob w) :
    Calls Try.prog 4 #[.slice a n cap] w fun e w' => e = .returned (.bool true) ∧ Fr w.heap.size [] w w' := by
  have hnc := hb.1
  have HB := hid hb
  have HG := hid hg
  have hpos : 0 < w.heap.size := by obtain ⟨m, hm⟩ := hg; exact World.block_lt_of_cell? _ _ hm
  clear hb hg
  go_enter Try.func4, Try.ntmps4
  by_cases hn1 : n ≤ 1048576
  · have in1 : ¬ (1048576 : Int) < (n : Int) := by omega
    go_upto_region 6 with (first
      | (go_at_call 9; go_must (refine (drawPackMake_any HB.out hm).mono ?_; rintro e w1 ⟨v1, os, rfl, own1, hl, hfew, fr1⟩; have FEW := hid hfew; have OS1 := hid own1.reads; have F1 := hid fr1; obtain ⟨va, vcap, rfl, hvl, -⟩ := own1.reads.shape; clear own1 fr1))
      | (go_at_call 10; go_must (refine (implPackMake_any (new w.heap.size) _ os _ OS1.out (FEW.out.b hl) (HG.out.keep F1.out hpos)).mono ?_; rintro e w2 ⟨v2, rfl, own2, fr2⟩; have OW2 := hid (own2.lower F1.out.size); have OS2 := hid (OS1.out.grow fr2); have F2 := hid (F1.out.trans fr2.nil); clear own2 fr2))
      | (go_at_call 11; go_must (refine (specPackMake_any (new w.heap.size) _ os _ OS2.out (FEW.out.b hl)).mono ?_; rintro e w3 ⟨v3, rfl, own3, fr3⟩; have OW3 := hid (own3.lower F2.out.size); have OS3 := hid (OS2.out.grow fr3); have OW23 := hid (OW2.out.grow fr3); have F3 := hid (F2.out.trans fr3.nil); clear own3 fr3)))
    have EB := hid (packEn_b FEW.out hl (packOk os))
    have UP := hid (fun h : packOk os = true => unpack_pack h)
    clear OW2
    obtain ⟨es, hES⟩ : ∃ es, (if packOk os then pack os else []) = es := ⟨_, rfl⟩
    have UPE := hid (show packOk os = true → unpack es = some os from fun h => by rw [← hES, if_pos h]; exact UP.out h)
    rw [hES] at EB OW3 OW23
    clear hES UP
    revert UPE
    generalize packOk os = ok
    intro UPE
    obtain ⟨a2, cap2, rfl, hc2, -⟩ := OW23.out.reads.shape
    obtain ⟨a3, cap3, rfl, hc3, -⟩ := OW3.out.reads.shape
    have SM := hid (fun (x : World) (hx : Fr w3.heap.size [] w3 x) => samePack_eq (new w.heap.size) (new w.heap.size) _ _ es x (OW23.out.reads.grow hx) (OW3.out.reads.grow hx) EB.out)
    cases ok
    · go_wp2_with (first
        | (go_at_call 12; (refine (SM.out w3 (Fr.refl _ _ _)).mono ?_); go_must (rintro e w4 ⟨rfl, fr4⟩; have F4 := hid (F3.out.trans fr4.nil)))
        | (go_at_call 12; go_must (refine (SM.out w4 fr4).mono ?_; rintro e w5 ⟨rfl, fr5⟩; have F5 := hid (F4.out.trans fr5.nil))))
      go_ret
      exact ⟨rfl, F5.out⟩
    · have US := hid (UPE.out rfl)
      have OB := hid (FEW.out.b hl)
      go_wp2_with (first
        | (go_at_call 12; (refine (SM.out w3 (Fr.refl _ _ _)).mono ?_); go_must (rintro e w4 ⟨rfl, fr4⟩; have F4 := hid (F3.out.trans fr4.nil); have R4 := hid (OW23.out.reads.grow fr4); have OS4 := hid (OS3.out.grow fr4)))
        | (go_at_call 13; go_must (refine (implPackObjects_any (new w.heap.size) _ es _ R4.out (Mild.new _ _) (fun e he => (EB.out.2 e he).1)).mono ?_; rintro e w5 ⟨fr5, hres⟩; obtain ⟨v5, rfl, own5⟩ := unpacked_of US.out hres; have OW5 := hid (own5.lower F4.out.size); have OS5 := hid (OS4.out.grow fr5); have F5 := hid (F4.out.trans fr5.nil); clear fr5 hres own5))
        | (go_at_call 15; go_must (refine (sameObjects_eq (new w.heap.size) (new w.heap.size) _ _ os _ OW5.out.reads OS5.out OB.out).mono ?_; rintro e w6 ⟨rfl, fr6⟩; have F6 := hid (F5.out.trans fr6.nil))))
      go_ret
      exact ⟨rfl, F6.out⟩
  · have in1 : (1048576 : Int) < (n : Int) := by omega
    go_wp2
    go_ret
    exact ⟨rfl, Fr.refl _ _ _⟩

end Go.Proofs.Ytjgbconlpolddaa
