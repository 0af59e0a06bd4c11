/- The reference's l21Updates and l21Begin. -/
import Derived.Test.YtkcpecihgldflaaRefs
import Derived.Test.YtkcpecihgldflaaValid
namespace Go.Proofs.Ytkcpecihgldflaa
open Go.RowKit
set_option linter.unusedVariables false

theorem upsOf_drop {rs : List Rc} {t : Int} {k : Nat} (h : k < rs.length) : upsOf (rs.drop k) t = if rs[k].txn = t ∧ rs[k].kind = 1 then rs[k].ups else upsOf (rs.drop (k + 1)) t := by
  rw [List.drop_eq_getElem_cons h]; rfl

theorem UpsR.empty (K : Nat → Bool → Prop) (w : World) (b cap : Nat) : UpsR K w (.slice (some ⟨b, 0, none⟩) 0 cap) [] :=
  ⟨_, cap, rfl, rfl, Nat.zero_le _, fun h => (by cases h), fun h => absurd h (Nat.lt_irrefl _)⟩

set_option maxHeartbeats 1000000 in
theorem l21Updates_any (K : Nat → Bool → Prop) (v : Value) (rs : List Rc) (t : Int) (w : World) (hv : RecsR K w v rs) (hb : rs.length ≤ 1000000000) :
    Calls Try.prog 79 #[v, .int .i64 t] w fun e w' => ∃ v', e = .returned v' ∧ UpsR K w' v' (upsOf rs t) ∧ Fr w.heap.size [] w w' := by
  obtain ⟨a, cap, rfl, hcap, hcell⟩ := hv.shape
  go_enter Try.func79, Try.ntmps79
  go_wp2
  go_loop [5] (fun i => ∃ k : Nat, k ≤ rs.length ∧ i = .int .i64 k ∧ upsOf (rs.drop k) t = upsOf rs t) (fun i => rs.length - (intOf i).toNat)
  case atStart => exact ⟨0, Nat.zero_le _, rfl, rfl⟩
  case round =>
    obtain ⟨k, hk, rfl, hto⟩ := hrel
    have HT := hid hto
    clear hto
    by_cases hlt : k < rs.length
    · rcases hcell with rfl | ⟨b, off, rfl, hbs, hcell⟩
      · simp at hlt
      · obtain ⟨u, h0, h1, h2, h3⟩ := hcell k hlt
        have HS := hid (upsOf_drop (t := t) hlt)
        have H3 := hid h3
        clear hcell h3
        cases g1 : rs[k].txn == t
        · have hz := hid (show upsOf (rs.drop (k + 1)) t = upsOf rs t by rw [← HT.out, HS.out, if_neg (by simp at g1; simp [g1])])
          go_wp2
          go_round
          case rel => exact ⟨k + 1, by omega, by go_num, hz.out⟩
          case measure => simp [intOf]; omega
        · cases g2 : rs[k].kind == 1
          · have hz := hid (show upsOf (rs.drop (k + 1)) t = upsOf rs t by rw [← HT.out, HS.out, if_neg (by simp at g2; simp [g2])])
            go_wp2
            go_round
            case rel => exact ⟨k + 1, by omega, by go_num, hz.out⟩
            case measure => simp [intOf]; omega
          · have hz := hid (show upsOf rs t = rs[k].ups by rw [← HT.out, HS.out, if_pos (by simp at g1 g2; exact ⟨g1, g2⟩)])
            go_wp2
            go_ret
            exact ⟨_, rfl, by rw [hz.out]; exact H3.out, Fr.refl _ _ _⟩
    · obtain rfl : k = rs.length := by omega
      have hz := hid (show upsOf rs t = [] by rw [← HT.out, List.drop_length]; rfl)
      go_wp2
      go_ret
      exact ⟨_, rfl, by rw [hz.out]; exact UpsR.empty _ _ _ _, (Fr.refl _ _ _).alloc _⟩

/-- Two rows of ints of the call's own, that lie apart. -/
def TwoOwn (lo : Nat) (w : World) (v1 v2 : Value) (l1 l2 : List Int) : Prop :=
  w.ownsRow lo 3 1 v1 l1.length (l1.map (Value.int .i64)) ∧ w.ownsRow lo 3 1 v2 l2.length (l2.map (Value.int .i64)) ∧ (∀ k, v1.ownBlock = some k → v2.ownBlock ≠ some k)

/-- The loop's step: the first of two rows has grown. -/
theorem TwoOwn.first {lo : Nat} {w w' : World} {v1 v2 v1' : Value} {l1 l2 : List Int} {n : Int} (h : TwoOwn lo w v1 v2 l1 l2)
    (hown : w'.ownsRow lo 3 1 v1' (l1.length + 1) (l1.map (Value.int .i64) ++ [.int .i64 n])) (hg : w.grownBy w' v1.ownBlock)
    (hw : v1'.ownBlock = v1.ownBlock ∨ ∀ k, v1'.ownBlock = some k → w.heap.size ≤ k) : TwoOwn lo w' v1' v2 (l1 ++ [n]) l2 := by
  obtain ⟨h1, h2, h3⟩ := h
  refine ⟨by simpa using hown, h2.kept hg ?_, ?_⟩
  · by_cases e : v2.ownBlock = none
    · exact .inl e
    · right; intro e2; cases e3 : v1.ownBlock with
      | none => rw [e3] at e2; exact e e2
      | some k => exact h3 k e3 (by rw [e2, e3])
  · intro k hk e
    rcases hw with hw | hw
    · rw [hw] at hk; exact h3 k hk e
    · have := hw k hk; have := (h2.lt k e).2; omega

theorem TwoOwn.second {lo : Nat} {w w' : World} {v1 v2 v2' : Value} {l1 l2 : List Int} {n : Int} (h : TwoOwn lo w v1 v2 l1 l2)
    (hown : w'.ownsRow lo 3 1 v2' (l2.length + 1) (l2.map (Value.int .i64) ++ [.int .i64 n])) (hg : w.grownBy w' v2.ownBlock)
    (hw : v2'.ownBlock = v2.ownBlock ∨ ∀ k, v2'.ownBlock = some k → w.heap.size ≤ k) : TwoOwn lo w' v1 v2' l1 (l2 ++ [n]) := by
  have h' : TwoOwn lo w v2 v1 l2 l1 := ⟨h.2.1, h.1, fun k hk e => h.2.2 k e hk⟩
  obtain ⟨g1, g2, g3⟩ := h'.first hown hg hw
  exact ⟨g2, g1, fun k hk e => g3 k e hk⟩

end Go.Proofs.Ytkcpecihgldflaa
