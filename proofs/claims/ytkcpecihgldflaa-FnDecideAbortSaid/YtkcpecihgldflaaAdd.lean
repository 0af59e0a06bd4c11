/- The reference's l21Add. -/
import Derived.Test.YtkcpecihgldflaaCopy
namespace Go.Proofs.Ytkcpecihgldflaa
open Go.RowKit
set_option linter.unusedVariables false

theorem own_size {w w1 : World} {a b c : Obj} {E sz n : Nat} {v : Value} {cs : List Value} (h : w1.ownsRow (((w.alloc a).alloc b).alloc c).heap.size E sz v n cs) : w1.ownsRow (w.heap.size + 1 + 1 + 1) E sz v n cs := by
  have : (((w.alloc a).alloc b).alloc c).heap.size = w.heap.size + 1 + 1 + 1 := by simp
  rw [this] at h; exact h

def AddPost (w : World) (rs : List Rc) (r : Rc) (e : Ending) (w' : World) : Prop :=
  ∃ v', e = .returned (.tuple #[.agg #[v'], .bool (valid (rs ++ [r]))]) ∧ RecsOwn w.heap.size w' v' (if valid (rs ++ [r]) then rs ++ [r] else rs) ∧ Fr w.heap.size [] w w'

theorem Small.snoc {rs : List Rc} {r : Rc} (h : Small rs) (hl : rs.length ≤ 999999999) (hr : r.ups.length ≤ 1000000000) : Small (rs ++ [r]) :=
  ⟨by simp; omega, fun x hx => by
    rcases List.mem_append.1 hx with hx | hx
    · exact h.2 x hx
    · simp at hx; subst hx; exact hr⟩

set_option maxRecDepth 20000 in
set_option maxHeartbeats 2000000 in
theorem l21Add_any (K K3 : Nat → Bool → Prop) (v vu : Value) (rs : List Rc) (r : Rc) (w : World) (hv : RecsR K w v rs) (hs : Small rs) (hl : rs.length ≤ 999999999) (h3 : UpsR K3 w vu r.ups) (hu : r.ups.length ≤ 1000000000) :
    Calls Try.prog 47 #[.agg #[v], .agg #[.int .i64 r.kind, .int .i64 r.txn, vu]] w (AddPost w rs r) := by
  obtain ⟨a, cap, rfl, hcap, -⟩ := hv.shape
  obtain ⟨ua, ucap, rfl, hucap, -⟩ := h3.shape
  obtain ⟨iu, hui, huz0, huz1, huz2⟩ := info_parts infoU
  obtain ⟨ir, hri, hrz0, hrz1, hrz2⟩ := info_parts infoR
  have HV := hid hv
  have HS := hid hs
  have H3 := hid h3
  have hW := Boxes3.made w (.cells #[.slice a rs.length cap] 25) (.cells #[.int .i64 r.kind, .int .i64 r.txn, .slice ua r.ups.length ucap] 72) (.cells #[.slice none 0 0] 25)
  have F0 := hid ((((Fr.refl w.heap.size [] w).alloc (.cells #[.slice a rs.length cap] 25)).alloc (.cells #[.int .i64 r.kind, .int .i64 r.txn, .slice ua r.ups.length ucap] 72)).alloc (.cells #[.slice none 0 0] 25))
  have HW := hid hW
  clear hv hs h3 hW
  cases g1 : valid (rs ++ [r])
  all_goals
    have G1 := hid g1
    go_enter Try.func47, Try.ntmps47
    go_wp2_with (first
      | (go_at_call 46; (with_reducible refine (l21Copy_any K _ rs _ (HV.out.grow F0.out) HS.out).mono ?_); go_must (rintro e w1 ⟨v1, rfl, own1, fr1⟩; obtain ⟨a1, cap1, rfl, _, _⟩ := own1.reads.shape; obtain ⟨zs, z1, z2, z3⟩ := id own1; have Z1 := hid z1; have Z2 := hid z2; have Z3 := hid z3; have F1 := hid (F0.out.trans fr1.nil); have W1 := hid (HW.out.grow fr1); have hs1 := fr1.size; have c0 := cell_of (o := 0) W1.out.1 rfl; have c1 := cell_of (o := 0) W1.out.2.1 rfl; have c2 := cell_of (o := 1) W1.out.2.1 rfl; have c3 := cell_of (o := 2) W1.out.2.1 rfl; have hb2 := lt_of_get W1.out.2.2; have hb1 := lt_of_get W1.out.2.1; have hb0 := lt_of_get W1.out.1; clear own1 z1 z2 z3 fr1))
      | ((at_builtin; refine wpList_clone rfl (.tmp 9) (.tmp 11) 26 rfl 39 iu (.agg #[.int .i64 0, .int .i64 0, .int .i64 0]) 3 24 Try.underlying26 hui huz0 huz1 huz2 rfl (by decide) _ (by rfl) (by simp [World.setCell]) K3 39 _ _ _ (by rfl) (H3.out.grow (F1.out.alloc _)) (oneU _) (by unfold maxLen; omega) (by omega) ?_; intro v2 w2 own2 fr2); go_must (obtain ⟨a2, cap2, rfl⟩ := own_any own2; have FW := hid (((Fr.refl w1.heap.size [] w1).alloc _).trans fr2.nil); have OWN2 := hid own2; have W2 := hid (W1.out.grow FW.out); have BX := hid (fr2.keep _ _ (heap_alloc_new w1 (.cells #[.slice a1 rs.length cap1] 25)) (.inr (by simp))); have hs2 := FW.out.size; have d0 := cell_of (o := 0) W2.out.1 rfl; have d1 := cell_of (o := 0) W2.out.2.1 rfl; have d2 := cell_of (o := 1) W2.out.2.1 rfl; have d3 := cell_of (o := 2) W2.out.2.1 rfl; have d4 := free_of (o := 2) W2.out.2.1; have d5 := cell_of (o := 0) BX.out rfl; have d6 := free_of (o := 0) BX.out; have hbx := lt_of_get BX.out; have hb2 := lt_of_get W2.out.2.2; have hb1 := lt_of_get W2.out.2.1; have hb0 := lt_of_get W2.out.1; clear own2 fr2 c0 c1 c2 c3))
      | ((at_builtin; go_must (refine wpList_push rfl (.tmp 15) (.tmp 17) 23 rfl (w.heap.size + 1 + 1 + 1) 72 ir (.agg #[.int .i64 0, .int .i64 0, .slice none 0 0]) 3 40 Try.underlying23 hri hrz0 hrz1 hrz2 rfl (by decide) _ _ _ (ownsRow_setCell_below (a := ⟨w.heap.size + 1, 2, none⟩) (ownsRow_grow (own_size Z2.out) FW.out) (by dsimp only; omega) _) rfl (oneR (UpsR.ofOwn OWN2.out rfl (Nat.le_refl _)) _ _) (by unfold maxLen; omega) (by omega) (by simp [World.setCell]; omega) (by rfl) _ (by rfl) (by simp [World.setCell]) ?_; intro v4 w4 own4 fr4 _)); go_must (obtain ⟨g4, cap4, rfl, _, _, _⟩ := own_shape own4 (by omega); have FS := hid ((Fr.refl 0 [72] w2).setOld (p := ⟨w.heap.size + 1, 2, none⟩) W2.out.2.1 (Nat.zero_le _) (by simp [otag]) (.slice a2 r.ups.length cap2)); have F14 := hid (((FW.out.nil (B' := 0) (T := [72])).trans FS.out).trans (fr4.mono (Nat.zero_le _) (fun _ h => h))); have F24 := hid (FS.out.trans (fr4.mono (Nat.zero_le _) (fun _ h => h))); have OWN4 := hid (RecsOwn.snoc (lo := w.heap.size + 1 + 1 + 1) (r := r) Z1.out (fun z hz => ((Z3.out z hz).weak (fun b t _ hb => new_le (by simp) b t hb)).keep F14.out (Safe.new (by simp))) ((UpsR.ofOwn (lo' := w.heap.size + 1 + 1 + 1) OWN2.out rfl (by simp; omega)).keep F24.out (Safe.new (by simp))) rfl own4); have F4 := hid (((F1.out.trans FW.out.nil).setNew (p := ⟨w.heap.size + 1, 2, none⟩) (by dsimp only; omega) (.slice a2 r.ups.length cap2)).after (fr4.mono (by omega) (fun _ h => h))); have A4 := hid (fr4.keep _ _ (block_setne (p := ⟨w.heap.size + 1, 2, none⟩) W2.out.1 (by dsimp only; omega)) (.inl (by omega))); have C4 := hid (fr4.keep _ _ (block_setne (p := ⟨w.heap.size + 1, 2, none⟩) W2.out.2.2 (by dsimp only; omega)) (.inl (by omega))); have X4 := hid (fr4.keep _ _ (block_setne (p := ⟨w.heap.size + 1, 2, none⟩) BX.out (by dsimp only; omega)) (.inr (by simp [otag]))); have e0 := cell_of (o := 0) X4.out rfl; have e1 := free_of (o := 0) X4.out; have hb4 := fr4.size; clear own4 fr4 d0 d1 d2 d3 d4 d5 d6))
      | (go_at_call 43; (with_reducible refine (specShardValid_any (new (w.heap.size + 1 + 1 + 1)) _ (rs ++ [r]) _ ((OWN4.out.keep ((Fr.refl 0 [25] w4).setOld (p := ⟨w1.heap.size, 0, none⟩) X4.out (Nat.zero_le _) (by simp [otag]) _) (by simp) (by simp)).reads) (HS.out.snoc hl hu)).mono ?_); go_must (rintro e w6 ⟨rfl, fr6⟩; have FX := hid ((Fr.refl 0 [25] w4).setOld (p := ⟨w1.heap.size, 0, none⟩) X4.out (Nat.zero_le _) (by simp [otag]) (.slice (some ⟨g4, 0, none⟩) (rs.length + 1) cap4)); have F6 := hid ((F4.out.setNew (p := ⟨w1.heap.size, 0, none⟩) (by dsimp only; omega) (.slice (some ⟨g4, 0, none⟩) (rs.length + 1) cap4)).trans fr6.nil); have OWN6 := hid ((OWN4.out.keep FX.out (by simp) (by simp)).grow fr6); have A6 := hid (fr6.keep _ _ (block_setne (p := ⟨w1.heap.size, 0, none⟩) A4.out (by dsimp only; omega)) (.inr (by simp))); have C6 := hid (fr6.keep _ _ (block_setne (p := ⟨w1.heap.size, 0, none⟩) C4.out (by dsimp only; omega)) (.inr (by simp))); have X6 := hid (fr6.keep _ _ (block_set X4.out 0 _) (.inr (by simp))); have r0 := cell_of (o := 0) A6.out rfl; have r1 := cell_of (o := 0) C6.out rfl; have r2 := free_of (o := 0) C6.out; have r3 := cell_of (o := 0) X6.out rfl; clear fr6 e0 e1))
      | (go_at_call 46; (with_reducible refine (l21Copy_any K _ rs _ (HV.out.grow F6.out) HS.out).mono ?_); go_must (rintro e w7 ⟨v7, rfl, own7, fr7⟩; obtain ⟨a7, cap7, rfl, _, _⟩ := own7.reads.shape; have OWN7 := hid own7; have C7 := hid (fr7.keep _ _ C6.out (.inr (by simp))); have s1 := cell_of (o := 0) C7.out rfl; have s2 := free_of (o := 0) C7.out; have F7 := hid (F6.out.trans fr7.nil); have hs6 := F6.out.size; clear own7 fr7)))
  · have FT := ((Fr.refl 0 [25] w7).setOld (p := ⟨w.heap.size + 1 + 1, 0, none⟩) C7.out (Nat.zero_le _) (by simp [otag]) (.slice a7 rs.length cap7))
    exact bodyPost_ret (v := .tuple #[.agg #[.slice a7 rs.length cap7], .bool false]) (by simp [results, Try.results47, go_sem, s1]) rfl
      ⟨_, by rw [G1.out], by rw [G1.out]; exact ((OWN7.out.lower hs6).keep FT (by simp) (by simp)), F7.out.setNew (by dsimp only; omega) _⟩
  · have FT := ((Fr.refl 0 [25] w6).setOld (p := ⟨w.heap.size + 1 + 1, 0, none⟩) C6.out (Nat.zero_le _) (by simp [otag]) (.slice (some ⟨g4, 0, none⟩) (rs.length + 1) cap4))
    exact bodyPost_ret (v := .tuple #[.agg #[.slice (some ⟨g4, 0, none⟩) (rs.length + 1) cap4], .bool true]) (by simp [results, Try.results47, go_sem, r1]) rfl
      ⟨_, by rw [G1.out], by rw [G1.out]; exact ((OWN6.out.lower (by omega)).keep FT (by simp) (by simp)), F6.out.setNew (by dsimp only; omega) _⟩

end Go.Proofs.Ytkcpecihgldflaa
