/- The program's DeltaApply. -/
import Derived.Test.YtjgbconlpolddaaPkPart
namespace Go.Proofs.Ytjgbconlpolddaa
open Go.RowKit
set_option linter.unusedVariables false

theorem opPart_le {b : Tx} {o : Opn} (hb : b.length ≤ 8) (h : opOk b o = true) : (opPart b o).length ≤ 8 := by
  unfold opOk at h
  unfold opPart
  split at h
  · rename_i h0
    rw [if_pos h0]
    simp [inR] at h
    omega
  · rename_i h0
    rw [if_neg h0]
    simp
    omega

set_option maxRecDepth 20000 in
set_option maxHeartbeats 4000000 in
theorem implDeltaApply_any (K : Nat → Bool → Prop) (b : Tx) (v : Value) (ops : List Opn) (w : World) (hv : OpsR K w v ops) :
    Calls Try.prog 48 #[.string (tx b), v] w fun e w' => e = .returned (.tuple #[.string (tx ((dapp b ops).getD [])), .bool (dapp b ops).isSome]) ∧ Fr w.heap.size [] w w' := by
  obtain ⟨a, cap, rfl, hcap, hcell⟩ := hv.shape
  have hsb := tx_size b
  generalize hD : dapp b ops = D
  have HD := hid hD
  clear hD hv
  by_cases hb : b.length ≤ 8
  · by_cases ho : ops.length ≤ 8
    · have ib : ¬ (8 : Int) < (b.length : Int) := by omega
      have io : ¬ (8 : Int) < (ops.length : Int) := by omega
      have HD2 := hid (show D = dappTo b ops ops.length by rw [← HD.out]; unfold dapp; rw [if_pos ⟨hb, ho⟩])
      clear HD
      go_enter Try.func48, Try.ntmps48
      go_wp2
      go_loopw [6, 21] (fun vt vi wx => ∃ (k : Nat) (t : Tx), k ≤ ops.length ∧ vi = .int .i64 k ∧ vt = .string (tx t) ∧ t.length ≤ 8 ∧ dappTo b ops k = some t ∧ Fr w.heap.size [] w wx) (fun _ vi _ => ops.length - (intOf vi).toNat)
      case atStart => exact ⟨0, [], Nat.zero_le _, rfl, rfl, by decide, rfl, Fr.refl _ _ _⟩
      case round =>
        obtain ⟨k, t, hk, rfl, rfl, ht, hto, hfr⟩ := hrel
        have TO := hid hto
        have hst := tx_size t
        clear hto
        by_cases hlt : k < ops.length
        · rcases hcell with hh | ⟨bb, off, rfl, hbs, hcell⟩
          · rw [hh] at hlt; cases hlt
          · obtain ⟨h0, h1, h2⟩ := hcell k hlt
            have c0 := hfr.cell hbs h0
            have c1 := hfr.cell hbs h1
            have c2 := hfr.cell hbs h2
            have hbr : bb < wr.heap.size := Nat.lt_of_lt_of_le hbs hfr.size
            have hki : (k : Int) < (ops.length : Int) := by omega
            have SU := hid (dappTo_succ hlt TO.out)
            clear h0 h1 h2 hcell
            cases gk : opOk b ops[k]
            · have NO := hid (show D = none by
                rw [HD2.out]
                refine dappTo_none (k := k + 1) ?_ _ hlt
                rw [SU.out, if_neg (by rw [gk]; simp)])
              have GK := hid gk
              clear gk
              go_wp2_with (go_at_call 81; go_must (refine (part_any ops[k] b _ hb).mono ?_; rintro e w1 ⟨s, rfl, hs, fr1⟩; rw [GK.out]; have F1 := hid ((hfr.alloc (.cells #[.int .i64 ops[k].pos, .int .i64 ops[k].size, .string (tx ops[k].text)] 109)).trans fr1.nil); clear fr1 hs))
              go_ret2
              rw [NO.out]
              exact ⟨rfl, F1.out⟩
            · have hpl := opPart_le hb gk
              have GK := hid gk
              clear gk
              generalize hp : opPart b ops[k] = p at *
              have HP := hid hp
              have hsp := tx_size p
              clear hp
              by_cases hs8 : t.length + p.length ≤ 8
              · have i8 : ¬ (8 : Int) < (t.length : Int) + (p.length : Int) := by omega
                have N1 := hid (show dappTo b ops (k + 1) = some (t ++ p) by rw [SU.out, if_pos ⟨GK.out, hs8⟩])
                go_wp2_with (go_at_call 81; go_must (refine (part_any ops[k] b _ hb).mono ?_; rintro e w1 ⟨s, rfl, hs, fr1⟩; obtain rfl := hs GK.out; rw [GK.out, HP.out]; have F1 := hid ((hfr.alloc (.cells #[.int .i64 ops[k].pos, .int .i64 ops[k].size, .string (tx ops[k].text)] 109)).trans fr1.nil); clear fr1 hs))
                go_roundw
                case rel => exact ⟨k + 1, t ++ p, by omega, by go_num, by rw [tx_append], by simp; omega, N1.out, F1.out⟩
                case measure => simp [intOf]; omega
              · have i8 : (8 : Int) < (t.length : Int) + (p.length : Int) := by omega
                have NO := hid (show D = none by
                  rw [HD2.out]
                  refine dappTo_none (k := k + 1) ?_ _ hlt
                  rw [SU.out, if_neg (fun h => hs8 h.2)])
                go_wp2_with (go_at_call 81; go_must (refine (part_any ops[k] b _ hb).mono ?_; rintro e w1 ⟨s, rfl, hs, fr1⟩; obtain rfl := hs GK.out; rw [GK.out, HP.out]; have F1 := hid ((hfr.alloc (.cells #[.int .i64 ops[k].pos, .int .i64 ops[k].size, .string (tx ops[k].text)] 109)).trans fr1.nil); clear fr1 hs))
                go_ret2
                rw [NO.out]
                exact ⟨rfl, F1.out⟩
        · obtain rfl : k = ops.length := by omega
          clear hcell
          have DS := hid (HD2.out.trans TO.out)
          go_wp2
          go_ret2
          rw [DS.out]
          exact ⟨rfl, hfr⟩
    · have ib : ¬ (8 : Int) < (b.length : Int) := by omega
      have io : (8 : Int) < (ops.length : Int) := by omega
      have NO := hid (show D = none by rw [← HD.out]; unfold dapp; rw [if_neg (fun h => ho h.2)])
      clear HD
      go_enter Try.func48, Try.ntmps48
      go_wp2
      go_ret2
      rw [NO.out]
      exact ⟨rfl, Fr.refl _ _ _⟩
  · have ib : (8 : Int) < (b.length : Int) := by omega
    have NO := hid (show D = none by rw [← HD.out]; unfold dapp; rw [if_neg (fun h => hb h.1)])
    clear HD
    go_enter Try.func48, Try.ntmps48
    go_wp2
    go_ret2
    rw [NO.out]
    exact ⟨rfl, Fr.refl _ _ _⟩

end Go.Proofs.Ytjgbconlpolddaa
