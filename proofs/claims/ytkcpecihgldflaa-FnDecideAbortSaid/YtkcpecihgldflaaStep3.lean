/- The reference's l21Step: aborts. -/
import Derived.Test.YtkcpecihgldflaaStep2
namespace Go.Proofs.Ytkcpecihgldflaa
open Go.RowKit
set_option linter.unusedVariables false

set_option maxRecDepth 20000 in
set_option maxHeartbeats 2000000 in
theorem l21Step_3 (K K3 : Nat → Bool → Prop) (lo : Nat) (v v1 v2 vu : Value) (rs : List Rc) (s : St) (r : Rc) (w : World) (hlo : lo ≤ w.heap.size)
    (hv : RecsR K w v rs) (hrs : rs.length ≤ 1000000000) (h1 : IntsR (new lo) w v1 s.refs) (h2 : IntsR (new lo) w v2 s.locks) (h3 : UpsR K3 w vu r.ups) (hus : r.ups.length ≤ 1000000000)
    (hl1 : s.refs.length = 4) (hl2 : s.locks.length = 4) (hup : (upsOf rs r.txn).length ≤ 1000000000) (hin : ∀ k (hk : k < (upsOf rs r.txn).length), 0 ≤ (upsOf rs r.txn)[k].ref ∧ (upsOf rs r.txn)[k].ref ≤ 3) (g1 : (r.kind == 1) = false) (g2 : (r.kind == 2) = false) :
    Calls Try.prog 61 #[v, .agg #[v1, v2], .agg #[.int .i64 r.kind, .int .i64 r.txn, vu]] w (StepPost lo w rs s r) := by
  obtain ⟨ra, rcap, hrv, hrcap, -⟩ := h1.shape
  obtain ⟨la, lcap, hlv, hlcap, -⟩ := h2.shape
  obtain ⟨ua, ucap, huv, hucap, -⟩ := h3.shape
  rw [hl1] at hrv
  rw [hl2] at hlv
  subst hrv hlv huv
  clear hrcap hlcap hucap
  have f0 : Fr w.heap.size [] w (((w.alloc (.cells #[.slice ra 4 rcap, .slice la 4 lcap] 35)).alloc (.cells #[.int .i64 r.kind, .int .i64 r.txn, .slice ua r.ups.length ucap] 72)).alloc (.cells #[.slice none 0 0, .slice none 0 0] 35)) := (((Fr.refl _ _ _).alloc _).alloc _).alloc _
  have hW := Boxes3.made w (.cells #[.slice ra 4 rcap, .slice la 4 lcap] 35) (.cells #[.int .i64 r.kind, .int .i64 r.txn, .slice ua r.ups.length ucap] 72) (.cells #[.slice none 0 0, .slice none 0 0] 35)
  have F0 := hid f0
  have HW := hid hW
  clear f0 hW
  have n1 : ¬ r.kind = 1 := by simpa using g1
  have N1 := hid n1
  clear n1
  have n2 := hid (show ¬ r.kind = 2 by simpa using g2)
  cases g3 : r.kind == 3
  case false =>
    have n3 := hid (show ¬ r.kind = 3 by simpa using g3)
    have hz := hid (show step rs s r = none by simp [step, N1.out, n2.out, n3.out])
    go_enter Try.func61, Try.ntmps61
    go_wp2_with (go_at_call 45; go_must (refine (l21Ask_any K _ rs _ _ (hv.grow F0.out) hrs).mono ?_; rintro e w' ⟨rfl, rfl⟩))
    exact bodyPost_ret (v := .tuple #[.agg #[.slice ra 4 rcap, .slice la 4 lcap], .bool false]) (by simp [results, Try.results61, go_sem]) rfl
      ⟨_, _, false, s, rfl, h1.grow ((((Fr.refl 0 _ _).alloc _).alloc _).alloc _), h2.grow ((((Fr.refl 0 _ _).alloc _).alloc _).alloc _), by rw [hz.out]; rfl, (((Fr.refl _ _ _).alloc _).alloc _).alloc _⟩
  case true =>
    have n3 := hid (show r.kind = 3 by simpa using g3)
    cases g4 : ask rs r.txn != 0
    all_goals cases g5 : ask rs r.txn != 1
    case true.true =>
      have hz := hid (show step rs s r = none by simp only [bne_iff_ne] at g4 g5; simp [step, n3.out, g4, g5])
      go_enter Try.func61, Try.ntmps61
      go_wp2_with (go_at_call 45; go_must (refine (l21Ask_any K _ rs _ _ (hv.grow F0.out) hrs).mono ?_; rintro e w' ⟨rfl, rfl⟩))
      exact bodyPost_ret (v := .tuple #[.agg #[.slice ra 4 rcap, .slice la 4 lcap], .bool false]) (by simp [results, Try.results61, go_sem]) rfl
        ⟨_, _, false, s, rfl, h1.grow ((((Fr.refl 0 _ _).alloc _).alloc _).alloc _), h2.grow ((((Fr.refl 0 _ _).alloc _).alloc _).alloc _), by rw [hz.out]; rfl, (((Fr.refl _ _ _).alloc _).alloc _).alloc _⟩
    all_goals
      have n4 := hid (show ¬ (ask rs r.txn ≠ 0 ∧ ask rs r.txn ≠ 1) by simp only [bne_iff_ne, bne_eq_false_iff_eq] at g4 g5; simp [g4, g5])
      by_cases hu : (0 : Int) < (r.ups.length : Int)
      · have hz := hid (show step rs s r = none by have h3 : 0 < r.ups.length := (by omega); simp [step, n3.out, h3])
        go_enter Try.func61, Try.ntmps61
        go_wp2_with (go_at_call 45; go_must (refine (l21Ask_any K _ rs _ _ (hv.grow F0.out) hrs).mono ?_; rintro e w' ⟨rfl, rfl⟩))
        exact bodyPost_ret (v := .tuple #[.agg #[.slice ra 4 rcap, .slice la 4 lcap], .bool false]) (by simp [results, Try.results61, go_sem]) rfl
          ⟨_, _, false, s, rfl, h1.grow ((((Fr.refl 0 _ _).alloc _).alloc _).alloc _), h2.grow ((((Fr.refl 0 _ _).alloc _).alloc _).alloc _), by rw [hz.out]; rfl, (((Fr.refl _ _ _).alloc _).alloc _).alloc _⟩
      · have hz := hid (show step rs s r = some ⟨s.refs, freed s.locks r.txn⟩ by have h3 : ¬ 0 < r.ups.length := (by omega); simp only [step, n3.out]; simp [n4.out, h3])
        go_enter Try.func61, Try.ntmps61
        go_wp2_with (go_at_call 45; go_must (refine (l21Ask_any K _ rs _ _ (hv.grow F0.out) hrs).mono ?_; rintro e w' ⟨rfl, rfl⟩))
        revert F0 HW
        generalize ((w.alloc (.cells #[.slice ra 4 rcap, .slice la 4 lcap] 35)).alloc (.cells #[.int .i64 r.kind, .int .i64 r.txn, .slice ua r.ups.length ucap] 72)).alloc (.cells #[.slice none 0 0, .slice none 0 0] 35) = W
        intro F0 HW
        have HWd := HW.out.grow ((Fr.refl 0 [] W).drew)
        have HFd := F0.out.drew
        go_region_held3 (fun x => x.cell? ⟨w.heap.size, 0, none⟩ = some (.slice ra 4 rcap) ∧ x.cell? ⟨w.heap.size, 1, none⟩ = some (.slice la 4 lcap) ∧ x.cell? ⟨w.heap.size + 1, 1, none⟩ = some (.int .i64 r.txn) ∧ Fr w.heap.size [] w x)
          (first
            | exact ⟨cell_of HWd.1 rfl, cell_of HWd.1 rfl, cell_of HWd.2.1 rfl, HFd⟩
            | exact ⟨cell_of HB1.1 rfl, cell_of HB1.1 rfl, cell_of HB1.2.1 rfl, FR1⟩
            | exact ⟨cell_of (block_setne (block_setne HB1.1 (by dsimp only; omega)) (by dsimp only; omega)) rfl, cell_of (block_setne (block_setne HB1.1 (by dsimp only; omega)) (by dsimp only; omega)) rfl, cell_of (block_setne (block_setne HB1.2.1 (by dsimp only; omega)) (by dsimp only; omega)) rfl, (FR1.setNew (by dsimp only; omega) _).setNew (by dsimp only; omega) _⟩)
          (first | (go_at_call 80; go_must (refine (l12Free_any (new lo) _ _ _ _ (h2.grow HFd) hl2).mono ?_; rintro e w1 ⟨v1, rfl, own1, fr1⟩; obtain ⟨g1, cap1, rfl, _, _, _⟩ := own_shape own1 (by omega); have HB1 := HWd.grow fr1; have FR1 := HFd.trans fr1.nil; have OWN1 := hid own1; clear own1; have e6 := cell_of (o := 0) HB1.2.2 rfl; have e7 := cell_of (o := 1) HB1.2.2 rfl; have e8 := free_of (o := 0) HB1.2.2; have e9 := free_of (o := 1) HB1.2.2)))
        go_wp2
        have FE := hid ((FR1.setNew (p := ⟨w.heap.size + 1 + 1, 0, none⟩) (by dsimp only; omega) (.slice ra 4 rcap)).setNew (p := ⟨w.heap.size + 1 + 1, 1, none⟩) (by dsimp only; omega) (.slice (some ⟨g1, 0, none⟩) 4 cap1))
        have FT := hid (((Fr.refl 0 [35] w1).setOld (p := ⟨w.heap.size + 1 + 1, 0, none⟩) HB1.2.2 (Nat.zero_le _) (by simp [otag]) (.slice ra 4 rcap)).setOld (p := ⟨w.heap.size + 1 + 1, 1, none⟩) (block_set HB1.2.2 0 _) (Nat.zero_le _) (by simp [otag]) (.slice (some ⟨g1, 0, none⟩) 4 cap1))
        exact bodyPost_ret (v := .tuple #[.agg #[.slice ra 4 rcap, .slice (some ⟨g1, 0, none⟩) 4 cap1], .bool true]) (by simp [results, Try.results61, go_sem, e6, e7]) rfl
          ⟨_, _, true, ⟨s.refs, freed s.locks r.txn⟩, rfl, h1.grow FE.out, (IntsR.ofOwn OWN1.out (by simp [freed, hl2]) (by have := HFd.size; omega)).keep FT.out (Safe.new (by simp)), hz.out, FE.out⟩

set_option maxRecDepth 20000 in
set_option maxHeartbeats 2000000 in
theorem l21Step_any (K K3 : Nat → Bool → Prop) (lo : Nat) (v v1 v2 vu : Value) (rs : List Rc) (s : St) (r : Rc) (w : World) (hlo : lo ≤ w.heap.size)
    (hv : RecsR K w v rs) (hrs : rs.length ≤ 1000000000) (h1 : IntsR (new lo) w v1 s.refs) (h2 : IntsR (new lo) w v2 s.locks) (h3 : UpsR K3 w vu r.ups) (hus : r.ups.length ≤ 1000000000)
    (hl1 : s.refs.length = 4) (hl2 : s.locks.length = 4) (hup : (upsOf rs r.txn).length ≤ 1000000000) (hin : ∀ k (hk : k < (upsOf rs r.txn).length), 0 ≤ (upsOf rs r.txn)[k].ref ∧ (upsOf rs r.txn)[k].ref ≤ 3) :
    Calls Try.prog 61 #[v, .agg #[v1, v2], .agg #[.int .i64 r.kind, .int .i64 r.txn, vu]] w (StepPost lo w rs s r) := by
  cases g1 : r.kind == 1
  case true => exact l21Step_1 K K3 lo v v1 v2 vu rs s r w hlo hv hrs h1 h2 h3 hus hl1 hl2 hup hin g1
  cases g2 : r.kind == 2
  case true => exact l21Step_2 K K3 lo v v1 v2 vu rs s r w hlo hv hrs h1 h2 h3 hus hl1 hl2 hup hin g1 g2
  exact l21Step_3 K K3 lo v v1 v2 vu rs s r w hlo hv hrs h1 h2 h3 hus hl1 hl2 hup hin g1 g2

end Go.Proofs.Ytkcpecihgldflaa
