/- The program's Op.part and DeltaApply. -/
import Derived.Test.YtjgbconlpolddaaPkApply
namespace Go.Proofs.Ytjgbconlpolddaa
open Go.RowKit
set_option linter.unusedVariables false

set_option maxRecDepth 20000 in
set_option maxHeartbeats 4000000 in
theorem part_any (o : Opn) (b : Tx) (w : World) (hb : b.length ≤ 8) :
    Calls Try.prog 81 #[.agg #[.int .i64 o.pos, .int .i64 o.size, .string (tx o.text)], .string (tx b)] w fun e w' => ∃ s, e = .returned (.tuple #[.string s, .bool (opOk b o)]) ∧ (opOk b o = true → s = tx (opPart b o)) ∧ Fr w.heap.size [] w w' := by
  have hsz := tx_size o.text
  have hsb := tx_size b
  have F0 := hid ((Fr.refl w.heap.size [] w).alloc (.cells #[.int .i64 o.pos, .int .i64 o.size, .string (tx o.text)] 109))
  by_cases h0 : o.size = 0
  · have hz : (o.size == 0) = true := by simp [h0]
    have R := hid (show opOk b o = (decide (o.pos = 0) && inR o.text.length 1 8) by unfold opOk; rw [if_pos h0])
    have P := hid (show opPart b o = o.text by unfold opPart; rw [if_pos h0])
    cases hp : (o.pos == 0)
    all_goals have HP := hid hp
    all_goals
      go_enter Try.func81, Try.ntmps81
      go_wp2
      go_quiet (first | (go_at_call 50; exact quiet_eq (inRange_any _ _ _ _)))
      go_wp2
      go_ret2
      refine ⟨_, ?_, fun _ => by rw [P.out], ((Fr.refl w.heap.size [] w).alloc _).drewN _⟩
      rw [R.out]
      have := HP.out
      simp_all
  · have hz : (o.size == 0) = false := by simp [h0]
    by_cases ht : o.text = []
    · have hte : (tx o.text).toList = [] := by rw [tx_list]; exact ht
      by_cases h1 : 1 ≤ o.size
      · by_cases h2 : o.size ≤ (b.length : Int)
        · by_cases h3 : 0 ≤ o.pos
          · by_cases h4 : o.pos ≤ (b.length : Int) - o.size
            · have R := hid (show opOk b o = true by unfold opOk; rw [if_neg h0]; simp [ht, inR]; omega)
              have P := hid (show (tx b).extract o.pos.toNat (o.pos + o.size).toNat = tx (opPart b o) by
                rw [tx_extract]
                unfold opPart
                rw [if_neg h0, show (o.pos + o.size).toNat - o.pos.toNat = o.size.toNat by omega])
              clear ht
              go_enter Try.func81, Try.ntmps81
              go_wp2
              go_ret2
              refine ⟨_, ?_, fun _ => P.out, (Fr.refl _ _ _).alloc _⟩
              rw [R.out]
              try rfl
            · have R := hid (show opOk b o = false by unfold opOk; rw [if_neg h0]; simp [ht, inR]; omega)
              clear ht
              go_enter Try.func81, Try.ntmps81
              go_wp2
              go_ret2
              refine ⟨⟨#[]⟩, ?_, fun h => absurd (R.out.symm.trans h) (by decide), (Fr.refl _ _ _).alloc _⟩
              rw [R.out]
              try rfl
          · have R := hid (show opOk b o = false by unfold opOk; rw [if_neg h0]; simp [ht, inR]; omega)
            clear ht
            go_enter Try.func81, Try.ntmps81
            go_wp2
            go_ret2
            refine ⟨⟨#[]⟩, ?_, fun h => absurd (R.out.symm.trans h) (by decide), (Fr.refl _ _ _).alloc _⟩
            rw [R.out]
            try rfl
        · have R := hid (show opOk b o = false by unfold opOk; rw [if_neg h0]; simp [ht, inR]; omega)
          clear ht
          go_enter Try.func81, Try.ntmps81
          go_wp2
          go_ret2
          refine ⟨⟨#[]⟩, ?_, fun h => absurd (R.out.symm.trans h) (by decide), (Fr.refl _ _ _).alloc _⟩
          rw [R.out]
          try rfl
      · have R := hid (show opOk b o = false by unfold opOk; rw [if_neg h0]; simp [ht, inR]; omega)
        clear ht
        go_enter Try.func81, Try.ntmps81
        go_wp2
        go_ret2
        refine ⟨⟨#[]⟩, ?_, fun h => absurd (R.out.symm.trans h) (by decide), (Fr.refl _ _ _).alloc _⟩
        rw [R.out]
        try rfl
    · have hte : ¬ (tx o.text).toList = [] := by rw [tx_list]; exact ht
      have R := hid (show opOk b o = false by unfold opOk; rw [if_neg h0]; simp [ht])
      clear ht
      go_enter Try.func81, Try.ntmps81
      go_wp2
      go_ret2
      refine ⟨⟨#[]⟩, ?_, fun h => absurd (R.out.symm.trans h) (by decide), (Fr.refl _ _ _).alloc _⟩
      rw [R.out]
      try rfl

end Go.Proofs.Ytjgbconlpolddaa
