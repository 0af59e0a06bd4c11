/- The reference's l21Step. -/
import Derived.Test.YtkcpecihgldflaaBegin
import Derived.Deep.RegionHeld3
import Derived.Deep.DeepMust
namespace Go.Proofs.Ytkcpecihgldflaa
open Go.RowKit
set_option linter.unusedVariables false

/-- What l21Step says. -/
def StepPost (lo : Nat) (w : World) (rs : List Rc) (s : St) (r : Rc) (e : Ending) (w' : World) : Prop :=
  ∃ v1 v2 ok s', e = .returned (.tuple #[.agg #[v1, v2], .bool ok]) ∧ IntsR (new lo) w' v1 s'.refs ∧ IntsR (new lo) w' v2 s'.locks ∧
    step rs s r = (if ok then some s' else none) ∧ Fr w.heap.size [] w w'

theorem new_le {lo lo' : Nat} (h : lo' ≤ lo) : ∀ b t, new lo b t → new lo' b t := fun _ _ hb => ⟨Nat.le_trans h hb.1, hb.2⟩

theorem IntsR.ofOwn {lo lo' n : Nat} {w : World} {v : Value} {l : List Int} (h : w.ownsRow lo 3 1 v n (l.map (Value.int .i64))) (hn : n = l.length) (hl : lo' ≤ lo) : IntsR (new lo') w v l := by
  subst hn
  exact (SlR.ofOwns h).weak fun b t _ hb => new_le hl b t hb

theorem taken_length (locks : List Int) (t : Int) (us : List Upd) : (taken locks t us).length = locks.length := by
  unfold taken takeAll; split
  · exact takeTo_length _ _ _ _
  · rfl

def Boxes3 (w : World) (n : Nat) (a b c : Obj) : Prop := w.heap[n]? = some a ∧ w.heap[n + 1]? = some b ∧ w.heap[n + 1 + 1]? = some c

theorem Boxes3.made (w : World) (a b c : Obj) : Boxes3 (((w.alloc a).alloc b).alloc c) w.heap.size a b c := by
  refine ⟨?_, ?_, ?_⟩
  · rw [Below.heap_alloc _ _ _ (by simp; omega), Below.heap_alloc _ _ _ (by simp)]; exact heap_alloc_new w a
  · rw [Below.heap_alloc _ _ _ (by simp)]; have := heap_alloc_new (w.alloc a) b; simpa using this
  · have := heap_alloc_new ((w.alloc a).alloc b) c; simpa using this

theorem Boxes3.grow {w w' : World} {n B : Nat} {a b c : Obj} (h : Boxes3 w n a b c) (hf : Fr B [] w w') : Boxes3 w' n a b c :=
  ⟨hf.keep _ _ h.1 (.inr (by simp)), hf.keep _ _ h.2.1 (.inr (by simp)), hf.keep _ _ h.2.2 (.inr (by simp))⟩

set_option maxRecDepth 20000 in
set_option maxHeartbeats 2000000 in
theorem l21Step_1 (K K3 : Nat → Bool → Prop) (lo : Nat) (v v1 v2 vu : Value) (rs : List Rc) (s : St) (r : Rc) (w : World) (hlo : lo ≤ w.heap.size)
    (hv : RecsR K w v rs) (hrs : rs.length ≤ 1000000000) (h1 : IntsR (new lo) w v1 s.refs) (h2 : IntsR (new lo) w v2 s.locks) (h3 : UpsR K3 w vu r.ups) (hus : r.ups.length ≤ 1000000000)
    (hl1 : s.refs.length = 4) (hl2 : s.locks.length = 4) (hup : (upsOf rs r.txn).length ≤ 1000000000) (hin : ∀ k (hk : k < (upsOf rs r.txn).length), 0 ≤ (upsOf rs r.txn)[k].ref ∧ (upsOf rs r.txn)[k].ref ≤ 3) (g1 : (r.kind == 1) = true) :
    Calls Try.prog 61 #[v, .agg #[v1, v2], .agg #[.int .i64 r.kind, .int .i64 r.txn, vu]] w (StepPost lo w rs s r) := by
  obtain ⟨ra, rcap, hrv, hrcap, -⟩ := h1.shape
  obtain ⟨la, lcap, hlv, hlcap, -⟩ := h2.shape
  obtain ⟨ua, ucap, huv, hucap, -⟩ := h3.shape
  rw [hl1] at hrv
  rw [hl2] at hlv
  subst hrv hlv huv
  clear hrcap hlcap hucap
  have f0 : Fr w.heap.size [] w (((w.alloc (.cells #[.slice ra 4 rcap, .slice la 4 lcap] 35)).alloc (.cells #[.int .i64 r.kind, .int .i64 r.txn, .slice ua r.ups.length ucap] 72)).alloc (.cells #[.slice none 0 0, .slice none 0 0] 35)) := (((Fr.refl _ _ _).alloc _).alloc _).alloc _
  have hW := Boxes3.made w (.cells #[.slice ra 4 rcap, .slice la 4 lcap] 35) (.cells #[.int .i64 r.kind, .int .i64 r.txn, .slice ua r.ups.length ucap] 72) (.cells #[.slice none 0 0, .slice none 0 0] 35)
  have F0 := hid f0
  have HW := hid hW
  clear f0 hW
  cases g2 : ask rs r.txn != 0
  case true =>
    have hz := hid (show step rs s r = none by simp only [beq_iff_eq, bne_iff_ne] at g1 g2; simp [step, g1, g2])
    go_enter Try.func61, Try.ntmps61
    go_wp2_with (go_at_call 45; go_must (refine (l21Ask_any K _ rs _ _ (hv.grow F0.out) hrs).mono ?_; rintro e w' ⟨rfl, rfl⟩))
    exact bodyPost_ret (v := .tuple #[.agg #[.slice ra 4 rcap, .slice la 4 lcap], .bool false]) (by simp [results, Try.results61, go_sem]) rfl
      ⟨_, _, false, s, rfl, h1.grow ((((Fr.refl 0 _ _).alloc _).alloc _).alloc _), h2.grow ((((Fr.refl 0 _ _).alloc _).alloc _).alloc _), by rw [hz.out]; rfl, (((Fr.refl _ _ _).alloc _).alloc _).alloc _⟩
  case false =>
  cases g3 : updsOk r.ups
  case false =>
    have hz := hid (show step rs s r = none by simp only [beq_iff_eq] at g1; simp [step, g1, g3])
    go_enter Try.func61, Try.ntmps61
    go_wp2_with (first | (go_at_call 45; go_must (refine (l21Ask_any K _ rs _ _ (hv.grow F0.out) hrs).mono ?_; rintro e w' ⟨rfl, rfl⟩)) | (go_at_call 16; go_must (refine (specUpdatesValid_any K3 _ _ _ (h3.grow F0.out) hus).mono ?_; rintro e w1 ⟨rfl, fr1⟩; have FR1 := hid (F0.out.trans fr1.nil); have HB1 := hid (HW.out.grow fr1); have c1 := cell_of (o := 0) HB1.out.1 rfl; have c2 := cell_of (o := 1) HB1.out.1 rfl; have c3 := cell_of (o := 0) HB1.out.2.1 rfl; have c4 := cell_of (o := 1) HB1.out.2.1 rfl; have c5 := cell_of (o := 2) HB1.out.2.1 rfl; have c6 := cell_of (o := 0) HB1.out.2.2 rfl; have c7 := cell_of (o := 1) HB1.out.2.2 rfl; have c8 := free_of (o := 0) HB1.out.2.2; have c9 := free_of (o := 1) HB1.out.2.2; clear fr1)))
    have FE := hid ((FR1.out.setNew (p := ⟨w.heap.size + 1 + 1, 0, none⟩) (by simp; omega) (.slice ra 4 rcap)).setNew (p := ⟨w.heap.size + 1 + 1, 1, none⟩) (by simp; omega) (.slice la 4 lcap))
    exact bodyPost_ret (v := .tuple #[.agg #[.slice ra 4 rcap, .slice la 4 lcap], .bool false]) (by simp [results, Try.results61, go_sem, c6, c7]) rfl
      ⟨_, _, false, s, rfl, h1.grow FE.out, h2.grow FE.out, by rw [hz.out]; rfl, FE.out⟩
  case true =>
  have G3 := hid g3
  cases g4 : fits s.refs r.ups
  case false =>
    have hz := hid (show step rs s r = none by simp only [beq_iff_eq] at g1; simp [step, g1, g4])
    go_enter Try.func61, Try.ntmps61
    go_wp2_with (first | (go_at_call 45; go_must (refine (l21Ask_any K _ rs _ _ (hv.grow F0.out) hrs).mono ?_; rintro e w' ⟨rfl, rfl⟩)) | (go_at_call 16; go_must (refine (specUpdatesValid_any K3 _ _ _ (h3.grow F0.out) hus).mono ?_; rintro e w1 ⟨rfl, fr1⟩; have FR1 := hid (F0.out.trans fr1.nil); have HB1 := hid (HW.out.grow fr1); have c1 := cell_of (o := 0) HB1.out.1 rfl; have c2 := cell_of (o := 1) HB1.out.1 rfl; have c3 := cell_of (o := 0) HB1.out.2.1 rfl; have c4 := cell_of (o := 1) HB1.out.2.1 rfl; have c5 := cell_of (o := 2) HB1.out.2.1 rfl; have c6 := cell_of (o := 0) HB1.out.2.2 rfl; have c7 := cell_of (o := 1) HB1.out.2.2 rfl; have c8 := free_of (o := 0) HB1.out.2.2; have c9 := free_of (o := 1) HB1.out.2.2; clear fr1)) | (go_at_call 76; go_must (refine (l11Fits_any (new lo) K3 _ _ _ _ _ (h1.grow FR1.out) (h3.grow FR1.out) hus hl1 (updsOk_ref G3.out)).mono ?_; rintro e w2 ⟨rfl, fr2⟩; have FR2 := hid (FR1.out.trans fr2.nil); have HB2 := hid (HB1.out.grow fr2); have d1 := cell_of (o := 0) HB2.out.1 rfl; have d2 := cell_of (o := 1) HB2.out.1 rfl; have d3 := cell_of (o := 0) HB2.out.2.1 rfl; have d4 := cell_of (o := 1) HB2.out.2.1 rfl; have d5 := cell_of (o := 2) HB2.out.2.1 rfl; have d6 := cell_of (o := 0) HB2.out.2.2 rfl; have d7 := cell_of (o := 1) HB2.out.2.2 rfl; have d8 := free_of (o := 0) HB2.out.2.2; have d9 := free_of (o := 1) HB2.out.2.2; clear fr2)))
    have FE := hid ((FR2.out.setNew (p := ⟨w.heap.size + 1 + 1, 0, none⟩) (by simp; omega) (.slice ra 4 rcap)).setNew (p := ⟨w.heap.size + 1 + 1, 1, none⟩) (by simp; omega) (.slice la 4 lcap))
    exact bodyPost_ret (v := .tuple #[.agg #[.slice ra 4 rcap, .slice la 4 lcap], .bool false]) (by simp [results, Try.results61, go_sem, d6, d7]) rfl
      ⟨_, _, false, s, rfl, h1.grow FE.out, h2.grow FE.out, by rw [hz.out]; rfl, FE.out⟩
  case true =>
    have hz := hid (show step rs s r = if isFree s.locks r.ups then some ⟨s.refs, taken s.locks r.txn r.ups⟩ else none by
      simp only [beq_iff_eq] at g1
      have g2' : ask rs r.txn = 0 := by simpa using g2
      unfold taken
      cases g5 : isFree s.locks r.ups <;> simp [step, g1, g2', g3, g4, g5])
    cases g5 : isFree s.locks r.ups
    all_goals
      have G5 := hid g5
      go_enter Try.func61, Try.ntmps61
      go_wp2_with (first | (go_at_call 45; go_must (refine (l21Ask_any K _ rs _ _ (hv.grow F0.out) hrs).mono ?_; rintro e w' ⟨rfl, rfl⟩)) | (go_at_call 16; go_must (refine (specUpdatesValid_any K3 _ _ _ (h3.grow F0.out) hus).mono ?_; rintro e w1 ⟨rfl, fr1⟩; have FR1 := hid (F0.out.trans fr1.nil); have HB1 := hid (HW.out.grow fr1); have c1 := cell_of (o := 0) HB1.out.1 rfl; have c2 := cell_of (o := 1) HB1.out.1 rfl; have c3 := cell_of (o := 0) HB1.out.2.1 rfl; have c4 := cell_of (o := 1) HB1.out.2.1 rfl; have c5 := cell_of (o := 2) HB1.out.2.1 rfl; have c6 := cell_of (o := 0) HB1.out.2.2 rfl; have c7 := cell_of (o := 1) HB1.out.2.2 rfl; have c8 := free_of (o := 0) HB1.out.2.2; have c9 := free_of (o := 1) HB1.out.2.2; clear fr1)) | (go_at_call 76; go_must (refine (l11Fits_any (new lo) K3 _ _ _ _ _ (h1.grow FR1.out) (h3.grow FR1.out) hus hl1 (updsOk_ref G3.out)).mono ?_; rintro e w2 ⟨rfl, fr2⟩; have FR2 := hid (FR1.out.trans fr2.nil); have HB2 := hid (HB1.out.grow fr2); have d1 := cell_of (o := 0) HB2.out.1 rfl; have d2 := cell_of (o := 1) HB2.out.1 rfl; have d3 := cell_of (o := 0) HB2.out.2.1 rfl; have d4 := cell_of (o := 1) HB2.out.2.1 rfl; have d5 := cell_of (o := 2) HB2.out.2.1 rfl; have d6 := cell_of (o := 0) HB2.out.2.2 rfl; have d7 := cell_of (o := 1) HB2.out.2.2 rfl; have d8 := free_of (o := 0) HB2.out.2.2; have d9 := free_of (o := 1) HB2.out.2.2; clear fr2)) | (go_at_call 77; go_must (refine (l12Take_any (new lo) K3 _ _ _ _ _ _ (h2.grow FR2.out) (h3.grow FR2.out) hus hl2 (updsOk_ref G3.out)).mono ?_; rintro e w3 ⟨v3, rfl, own3, fr3⟩; have FR3 := hid (FR2.out.trans fr3.nil); have HB3 := hid (HB2.out.grow fr3); have hz3 := fr3.size; obtain ⟨g3, cap3, rfl, _, _, _⟩ := own_shape own3 (by omega); have OWN3 := hid own3; have e1 := cell_of (o := 0) HB3.out.1 rfl; have e2 := cell_of (o := 1) HB3.out.1 rfl; have e3 := cell_of (o := 0) HB3.out.2.1 rfl; have e4 := cell_of (o := 1) HB3.out.2.1 rfl; have e5 := cell_of (o := 2) HB3.out.2.1 rfl; have e6 := cell_of (o := 0) HB3.out.2.2 rfl; have e7 := cell_of (o := 1) HB3.out.2.2 rfl; have e8 := free_of (o := 0) HB3.out.2.2; have e9 := free_of (o := 1) HB3.out.2.2; clear fr3 own3)))
      have FE := hid ((FR3.out.setNew (p := ⟨w.heap.size + 1 + 1, 0, none⟩) (by simp; omega) (.slice ra 4 rcap)).setNew (p := ⟨w.heap.size + 1 + 1, 1, none⟩) (by simp; omega) (.slice (some ⟨g3, 0, none⟩) 4 cap3))
      have FT := hid (((Fr.refl 0 [35] w3).setOld (p := ⟨w.heap.size + 1 + 1, 0, none⟩) HB3.out.2.2 (Nat.zero_le _) (by simp [otag]) (.slice ra 4 rcap)).setOld (p := ⟨w.heap.size + 1 + 1, 1, none⟩) (block_set HB3.out.2.2 0 _) (Nat.zero_le _) (by simp [otag]) (.slice (some ⟨g3, 0, none⟩) 4 cap3))
      exact bodyPost_ret (v := .tuple #[.agg #[.slice ra 4 rcap, .slice (some ⟨g3, 0, none⟩) 4 cap3], .bool (isFree s.locks r.ups)]) (by simp [results, Try.results61, go_sem, e6, e7, G5.out]) rfl
        ⟨_, _, _, ⟨s.refs, taken s.locks r.txn r.ups⟩, rfl, h1.grow FE.out, (IntsR.ofOwn OWN3.out (by rw [taken_length]; exact hl2.symm) (by have := FR2.out.size; omega)).keep FT.out (Safe.new (by simp)), hz.out, FE.out⟩

end Go.Proofs.Ytkcpecihgldflaa
