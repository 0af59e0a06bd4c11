/- The reference's l21Step: commits. -/
import Derived.Test.YtkcpecihgldflaaStep
namespace Go.Proofs.Ytkcpecihgldflaa
open Go.RowKit
set_option linter.unusedVariables false

set_option maxRecDepth 20000 in
set_option maxHeartbeats 2000000 in
theorem l21Step_2 (K K3 : Nat → Bool → Prop) (lo : Nat) (v v1 v2 vu : Value) (rs : List Rc) (s : St) (r : Rc) (w : World) (hlo : lo ≤ w.heap.size)
    (hv : RecsR K w v rs) (hrs : rs.length ≤ 1000000000) (h1 : IntsR (new lo) w v1 s.refs) (h2 : IntsR (new lo) w v2 s.locks) (h3 : UpsR K3 w vu r.ups) (hus : r.ups.length ≤ 1000000000)
    (hl1 : s.refs.length = 4) (hl2 : s.locks.length = 4) (hup : (upsOf rs r.txn).length ≤ 1000000000) (hin : ∀ k (hk : k < (upsOf rs r.txn).length), 0 ≤ (upsOf rs r.txn)[k].ref ∧ (upsOf rs r.txn)[k].ref ≤ 3) (g1 : (r.kind == 1) = false) (g2 : (r.kind == 2) = true) :
    Calls Try.prog 61 #[v, .agg #[v1, v2], .agg #[.int .i64 r.kind, .int .i64 r.txn, vu]] w (StepPost lo w rs s r) := by
  obtain ⟨ra, rcap, hrv, hrcap, -⟩ := h1.shape
  obtain ⟨la, lcap, hlv, hlcap, -⟩ := h2.shape
  obtain ⟨ua, ucap, huv, hucap, -⟩ := h3.shape
  rw [hl1] at hrv
  rw [hl2] at hlv
  subst hrv hlv huv
  clear hrcap hlcap hucap
  have f0 : Fr w.heap.size [] w (((w.alloc (.cells #[.slice ra 4 rcap, .slice la 4 lcap] 35)).alloc (.cells #[.int .i64 r.kind, .int .i64 r.txn, .slice ua r.ups.length ucap] 72)).alloc (.cells #[.slice none 0 0, .slice none 0 0] 35)) := (((Fr.refl _ _ _).alloc _).alloc _).alloc _
  have hW := Boxes3.made w (.cells #[.slice ra 4 rcap, .slice la 4 lcap] 35) (.cells #[.int .i64 r.kind, .int .i64 r.txn, .slice ua r.ups.length ucap] 72) (.cells #[.slice none 0 0, .slice none 0 0] 35)
  have F0 := hid f0
  have HW := hid hW
  clear f0 hW
  have n1 : ¬ r.kind = 1 := by simpa using g1
  have N1 := hid n1
  clear n1
  have n2 := hid (show r.kind = 2 by simpa using g2)
  cases g3 : ask rs r.txn != 1
  case true =>
    have hz := hid (show step rs s r = none by have := n2.out; simp only [bne_iff_ne] at g3; simp [step, this, g3])
    go_enter Try.func61, Try.ntmps61
    go_wp2_with (go_at_call 45; go_must (refine (l21Ask_any K _ rs _ _ (hv.grow F0.out) hrs).mono ?_; rintro e w' ⟨rfl, rfl⟩))
    exact bodyPost_ret (v := .tuple #[.agg #[.slice ra 4 rcap, .slice la 4 lcap], .bool false]) (by simp [results, Try.results61, go_sem]) rfl
      ⟨_, _, false, s, rfl, h1.grow ((((Fr.refl 0 _ _).alloc _).alloc _).alloc _), h2.grow ((((Fr.refl 0 _ _).alloc _).alloc _).alloc _), by rw [hz.out]; rfl, (((Fr.refl _ _ _).alloc _).alloc _).alloc _⟩
  case false =>
  have n3 := hid (show ask rs r.txn = 1 by simpa using g3)
  by_cases hu : (0 : Int) < (r.ups.length : Int)
  · have hz := hid (show step rs s r = none by have := n2.out; have h3 : 0 < r.ups.length := (by omega); simp only [step, this]; simp [h3])
    go_enter Try.func61, Try.ntmps61
    go_wp2_with (go_at_call 45; go_must (refine (l21Ask_any K _ rs _ _ (hv.grow F0.out) hrs).mono ?_; rintro e w' ⟨rfl, rfl⟩))
    exact bodyPost_ret (v := .tuple #[.agg #[.slice ra 4 rcap, .slice la 4 lcap], .bool false]) (by simp [results, Try.results61, go_sem]) rfl
      ⟨_, _, false, s, rfl, h1.grow ((((Fr.refl 0 _ _).alloc _).alloc _).alloc _), h2.grow ((((Fr.refl 0 _ _).alloc _).alloc _).alloc _), by rw [hz.out]; rfl, (((Fr.refl _ _ _).alloc _).alloc _).alloc _⟩
  · have hz := hid (show step rs s r = some ⟨setAll s.refs (upsOf rs r.txn), freed s.locks r.txn⟩ by have := n2.out; have h3 : ¬ 0 < r.ups.length := (by omega); simp only [step, this]; simp [n3.out, h3])
    have Hin := hid hin
    clear hin
    go_enter Try.func61, Try.ntmps61
    go_wp2_with (go_at_call 45; go_must (refine (l21Ask_any K _ rs _ _ (hv.grow F0.out) hrs).mono ?_; rintro e w' ⟨rfl, rfl⟩))
    revert F0 HW
    generalize ((w.alloc (.cells #[.slice ra 4 rcap, .slice la 4 lcap] 35)).alloc (.cells #[.int .i64 r.kind, .int .i64 r.txn, .slice ua r.ups.length ucap] 72)).alloc (.cells #[.slice none 0 0, .slice none 0 0] 35) = W
    intro F0 HW
    have HWd := HW.out.grow ((Fr.refl 0 [] W).drew)
    have HFd := F0.out.drew
    go_region_held3 (fun x => x.cell? ⟨w.heap.size, 0, none⟩ = some (.slice ra 4 rcap) ∧ x.cell? ⟨w.heap.size, 1, none⟩ = some (.slice la 4 lcap) ∧ x.cell? ⟨w.heap.size + 1, 1, none⟩ = some (.int .i64 r.txn) ∧ Fr w.heap.size [] w x)
      (first
        | exact ⟨cell_of HWd.1 rfl, cell_of HWd.1 rfl, cell_of HWd.2.1 rfl, HFd⟩
        | exact ⟨cell_of HB3.1 rfl, cell_of HB3.1 rfl, cell_of HB3.2.1 rfl, FR3⟩
        | exact ⟨cell_of HB2.1 rfl, cell_of HB2.1 rfl, cell_of HB2.2.1 rfl, FR2⟩
        | exact ⟨cell_of HB1.1 rfl, cell_of HB1.1 rfl, cell_of HB1.2.1 rfl, FR1⟩
        | exact ⟨cell_of (block_setne (block_setne HB3.1 (by dsimp only; omega)) (by dsimp only; omega)) rfl, cell_of (block_setne (block_setne HB3.1 (by dsimp only; omega)) (by dsimp only; omega)) rfl, cell_of (block_setne (block_setne HB3.2.1 (by dsimp only; omega)) (by dsimp only; omega)) rfl, (FR3.setNew (by dsimp only; omega) _).setNew (by dsimp only; omega) _⟩
        | exact ⟨cell_of (block_setne (block_setne HB2.1 (by dsimp only; omega)) (by dsimp only; omega)) rfl, cell_of (block_setne (block_setne HB2.1 (by dsimp only; omega)) (by dsimp only; omega)) rfl, cell_of (block_setne (block_setne HB2.2.1 (by dsimp only; omega)) (by dsimp only; omega)) rfl, (FR2.setNew (by dsimp only; omega) _).setNew (by dsimp only; omega) _⟩
        | fail)
      (first
        | (go_at_call 79; go_must (refine (l21Updates_any K _ _ _ _ (hv.grow (by assumption)) hrs).mono ?_; rintro e w1 ⟨v1, rfl, own1, fr1⟩; have HB1 := Boxes3.grow (n := w.heap.size) (by assumption) fr1; have FR1 := Fr.trans (a := w) (by assumption) (Fr.nil (B' := w.heap.size) (T := []) fr1); have OWN1 := hid own1; clear own1))
        | (go_at_call 78; go_must (refine (l11Set_any (new lo) K _ _ _ _ _ (h1.grow (by assumption)) (OWN1.out.grow (by first | exact Fr.refl 0 [] _ | assumption)) hup hl1 Hin.out).mono ?_; rintro e w2 ⟨v2, rfl, own2, fr2⟩; obtain ⟨g2, cap2, rfl, _, _, _⟩ := own_shape own2 (by omega); have HB2 := Boxes3.grow (n := w.heap.size) (by assumption) fr2; have FR2 := Fr.trans (a := w) (by assumption) (Fr.nil (B' := w.heap.size) (T := []) fr2); have OWN2 := hid own2; clear own2; have p6 := cell_of (o := 0) HB2.2.2 rfl; have p7 := cell_of (o := 1) HB2.2.2 rfl; have p8 := free_of (o := 0) HB2.2.2; have p9 := free_of (o := 1) HB2.2.2))
        | (go_at_call 80; go_must (refine (l12Free_any (new lo) _ _ _ _ (h2.grow (by assumption)) hl2).mono ?_; rintro e w3 ⟨v3, rfl, own3, fr3⟩; obtain ⟨g3, cap3, rfl, _, _, _⟩ := own_shape own3 (by omega); have HB3 := Boxes3.grow (n := w.heap.size) (by assumption) fr3; have FR3 := Fr.trans (a := w) (by assumption) (Fr.nil (B' := w.heap.size) (T := []) fr3); have OWN3 := hid own3; clear own3; have q6 := cell_of (o := 0) HB3.2.2 rfl; have q7 := cell_of (o := 1) HB3.2.2 rfl; have q8 := free_of (o := 0) HB3.2.2; have q9 := free_of (o := 1) HB3.2.2)))
    go_wp2
    have FE := hid ((FR3.setNew (p := ⟨w.heap.size + 1 + 1, 0, none⟩) (by dsimp only; omega) (.slice (some ⟨g2, 0, none⟩) 4 cap2)).setNew (p := ⟨w.heap.size + 1 + 1, 1, none⟩) (by dsimp only; omega) (.slice (some ⟨g3, 0, none⟩) 4 cap3))
    have FT := hid (((Fr.refl 0 [35] w3).setOld (p := ⟨w.heap.size + 1 + 1, 0, none⟩) HB3.2.2 (Nat.zero_le _) (by simp [otag]) (.slice (some ⟨g2, 0, none⟩) 4 cap2)).setOld (p := ⟨w.heap.size + 1 + 1, 1, none⟩) (block_set HB3.2.2 0 _) (Nat.zero_le _) (by simp [otag]) (.slice (some ⟨g3, 0, none⟩) 4 cap3))
    exact bodyPost_ret (v := .tuple #[.agg #[.slice (some ⟨g2, 0, none⟩) 4 cap2, .slice (some ⟨g3, 0, none⟩) 4 cap3], .bool true]) (by simp [results, Try.results61, go_sem, q6, q7]) rfl
      ⟨_, _, true, ⟨setAll s.refs (upsOf rs r.txn), freed s.locks r.txn⟩, rfl, ((IntsR.ofOwn OWN2.out (by simp [setAll, setTo_length, hl1]) (by have := FR1.size; omega)).grow fr3).keep FT.out (Safe.new (by simp)),
        (IntsR.ofOwn OWN3.out (by simp [freed, hl2]) (by have := FR2.size; omega)).keep FT.out (Safe.new (by simp)), hz.out, FE.out⟩

end Go.Proofs.Ytkcpecihgldflaa
