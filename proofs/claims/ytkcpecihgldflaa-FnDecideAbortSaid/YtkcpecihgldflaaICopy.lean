/- The program's copyShard. -/
import Derived.Test.YtkcpecihgldflaaIRead
import Derived.Test.YtkcpecihgldflaaPrep
namespace Go.Proofs.Ytkcpecihgldflaa
open Go.RowKit
set_option linter.unusedVariables false

theorem fmR_set2 (zs : List (Rc × Value)) {k : Nat} (hk : k < zs.length) (u : Value) : (zs.flatMap encR).set (k * 3 + 2) u = (zs.set k (zs[k].1, u)).flatMap encR := by
  induction zs generalizing k with
  | nil => simp at hk
  | cons z zs ih =>
    cases k with
    | zero => simp [encR]
    | succ k =>
      have h3 : (k + 1) * 3 + 2 = k * 3 + 2 + 1 + 1 + 1 := by omega
      rw [h3]
      have := ih (k := k) (by simpa using hk)
      simp [encR] at this ⊢
      exact this

theorem own_tag {lo E sz g n cap : Nat} {w : World} {cs : List Value} (h : w.ownsRow lo E sz (.slice (some ⟨g, 0, none⟩) n cap) n cs) : ∃ cur, w.heap[g]? = some (.cells cur E (0, 0)) := by
  rcases h.2 with ⟨h1, _⟩ | ⟨g', cap', cur, h1, hg, hh, _⟩
  · cases h1
  · cases h1; exact ⟨cur, hh⟩

theorem Fr.free {B : Nat} {T : List Nat} {w w' : World} (h : Fr B T w w') {b off : Nat} {u : Value} (hb : b < B) (hc : w.cell? ⟨b, off, none⟩ = some u) (hf : w.frozen? ⟨b, off, none⟩ = false) : w'.frozen? ⟨b, off, none⟩ = false := by
  have hl := World.block_lt_of_cell? _ _ hc
  have := h.keep b w.heap[b] (by simp [hl]) (.inl hb)
  unfold World.frozen? at hf ⊢
  rw [this]
  simpa [hl] using hf

theorem map_set_fst (zs : List (Rc × Value)) {k : Nat} (hk : k < zs.length) (u : Value) : (zs.set k (zs[k].1, u)).map (·.1) = zs.map (·.1) := by
  rw [List.map_set]
  apply List.ext_getElem (by simp)
  intro i h1 h2
  rw [List.getElem_set]
  split
  · rename_i e; subst e; simp
  · rfl

/-- Records of which the first k have their updates in memory of the call's own. -/
def HalfOwn (lo k : Nat) (w : World) (v : Value) (rs : List Rc) : Prop :=
  ∃ zs : List (Rc × Value), zs.map (·.1) = rs ∧ w.ownsRow lo 72 3 v rs.length (zs.flatMap encR) ∧ ∀ j (hj : j < zs.length), (j < k → UpsR (new lo) w zs[j].2 zs[j].1.ups) ∧ (k ≤ j → UpsR (old lo) w zs[j].2 zs[j].1.ups)

theorem HalfOwn.grow {lo k B : Nat} {w w' : World} {v : Value} {rs : List Rc} (h : HalfOwn lo k w v rs) (hf : Fr B [] w w') : HalfOwn lo k w' v rs := by
  obtain ⟨zs, h1, h2, h3⟩ := h
  exact ⟨zs, h1, ownsRow_grow h2 hf, fun j hj => ⟨fun h => ((h3 j hj).1 h).grow hf, fun h => ((h3 j hj).2 h).grow hf⟩⟩

theorem HalfOwn.all {lo k : Nat} {w : World} {v : Value} {rs : List Rc} (h : HalfOwn lo k w v rs) (hk : k = rs.length) : RecsOwn lo w v rs := by
  obtain ⟨zs, h1, h2, h3⟩ := h
  refine ⟨zs, h1, h2, fun z hz => ?_⟩
  obtain ⟨j, hj, rfl⟩ := List.mem_iff_getElem.1 hz
  exact (h3 j hj).1 (by rw [hk, ← h1]; simpa using hj)

/-- Record k's updates, and the row behind a store there. -/
theorem HalfOwn.step {lo k g cap : Nat} {w : World} {rs : List Rc} (h : HalfOwn lo k w (.slice (some ⟨g, 0, none⟩) rs.length cap) rs) (hk : k < rs.length) :
    ∃ u : Value, w.cell? ⟨g, k * 3 + 2, none⟩ = some u ∧ w.frozen? ⟨g, k * 3 + 2, none⟩ = false ∧ UpsR (old lo) w u rs[k].ups ∧ lo ≤ g ∧ g < w.heap.size ∧
      ∀ (w1 : World) (u' : Value), Fr w.heap.size [] w w1 → UpsR (new lo) w1 u' rs[k].ups → HalfOwn lo (k + 1) (w1.setCell ⟨g, k * 3 + 2, none⟩ u') (.slice (some ⟨g, 0, none⟩) rs.length cap) rs := by
  obtain ⟨zs, h1, h2, h3⟩ := h
  have hl : zs.length = rs.length := by rw [← h1]; simp
  have hkz : k < zs.length := by omega
  have e : rs[k] = zs[k].1 := by
    have : (zs.map (·.1))[k]? = rs[k]? := by rw [h1]
    rw [List.getElem?_map, List.getElem?_eq_getElem hkz, List.getElem?_eq_getElem hk] at this
    simpa using this.symm
  refine ⟨zs[k].2, ?_, h2.frozenAt _, by rw [e]; exact (h3 k hkz).2 (Nat.le_refl _), (h2.lt g rfl).1, (h2.lt g rfl).2, fun w1 u' hf hu => ?_⟩
  · rw [h2.cellAt (k * 3 + 2) (by omega)]
    have := fmR zs k 2 (by omega) hkz
    simpa [encR] using this
  · have h2' := ownsRow_grow h2 hf
    obtain ⟨cur, hcur⟩ := own_tag h2'
    have hT := (Fr.refl lo [72] w1).setOld (p := ⟨g, k * 3 + 2, none⟩) hcur ((h2.lt g rfl).1) (by simp [otag]) u'
    have ⟨st1, _⟩ := h2'.stored (k * 3 + 2) u'
    rw [fmR_set2 zs hkz] at st1
    refine ⟨_, (map_set_fst zs hkz u').trans h1, st1, fun j hj => ?_⟩
    have hj' : j < zs.length := by simpa using hj
    rw [List.getElem_set]
    by_cases ej : k = j
    · subst ej
      simp only [if_true]
      refine ⟨fun _ => ?_, fun h => by omega⟩
      rw [← e]
      exact hu.keep hT (Safe.new (by simp))
    · simp only [if_neg ej]
      exact ⟨fun h => (((h3 j hj').1 (by omega)).grow hf).keep hT (Safe.new (by simp)), fun h => (((h3 j hj').2 (by omega)).grow hf).keep hT (Safe.old (Nat.le_refl _))⟩

set_option maxRecDepth 20000 in
set_option maxHeartbeats 1000000 in
theorem copyShard_any (K : Nat → Bool → Prop) (v : Value) (rs : List Rc) (w : World) (hv : RecsR K w v rs) (hs : Small rs) :
    Calls Try.prog 40 #[.agg #[v]] w fun e w' => ∃ v', e = .returned (.agg #[v']) ∧ RecsOwn w.heap.size w' v' rs ∧ Fr w.heap.size [] w w' := by
  have hv' := hv.weak (K' := old w.heap.size) (fun b t hb _ => hb)
  obtain ⟨a, cap, rfl, hcap, -⟩ := hv'.shape
  obtain ⟨zs, z1, z2, z3⟩ := hv'
  have Z1 := hid z1
  have Z2 := hid z2
  have Z3 := hid z3
  have HS := hid hs
  have hsl := hs.1
  have hone : ∀ u ∈ zs.flatMap encR, u.oneCell' = true := by
    intro u hu
    obtain ⟨x, hx, hx'⟩ := List.mem_flatMap.1 hu
    simp [encR] at hx'
    rcases hx' with rfl | rfl | rfl
    · rfl
    · rfl
    · exact (z3 x hx).one
  clear hv z1 z2 z3 hs
  have F0 := hid (((Fr.refl w.heap.size [] w).alloc (.cells #[.slice a rs.length cap] 25)).alloc (.cells #[.slice none 0 0] 25))
  have B0 := hid (two_boxes w (.cells #[.slice a rs.length cap] 25) (.cells #[.slice none 0 0] 25))
  go_enter Try.func40, Try.ntmps40
  go_wp2_with (go_at_call 66; go_must (refine (cloneR_any (old w.heap.size) _ _ _ _ _ (Z2.out.grow F0.out) hone hsl).mono ?_; rintro e w1 ⟨v1, rfl, own1, fr1⟩; obtain ⟨a1, cap1, rfl⟩ := own_any own1; have O1 := hid (ownsRow_lo own1 (lo' := w.heap.size) (by simp; omega)); have F1 := hid (F0.out.trans fr1.nil); have B1 := hid (fr1.keep _ _ B0.out.2 (.inr (by simp))); clear own1 fr1))
  have H1 : HalfOwn w.heap.size 0 (w1.alloc (.cells #[.slice a1 rs.length cap1] 25)) (.slice a1 rs.length cap1) rs :=
    ⟨zs, Z1.out, ownsRow_grow O1.out ((Fr.refl 0 [] w1).alloc _), fun j hj => ⟨fun h => absurd h (Nat.not_lt_zero _), fun _ => (Z3.out _ (List.getElem_mem hj)).grow (F1.out.alloc _)⟩⟩
  have HH1 := hid H1
  have hw1 := F1.out.size
  clear H1
  go_loopw [12] (fun i wr => ∃ k : Nat, k ≤ rs.length ∧ i = .int .i64 k ∧ HalfOwn w.heap.size k wr (.slice a1 rs.length cap1) rs ∧ wr.heap[w.heap.size + 1]? = some (.cells #[.slice none 0 0] 25 (0, 0)) ∧ wr.heap[w1.heap.size]? = some (.cells #[.slice a1 rs.length cap1] 25 (0, 0)) ∧ Fr w.heap.size [] w wr) (fun i _ => rs.length - (intOf i).toNat)
  case atStart => exact ⟨0, Nat.zero_le _, rfl, HH1.out, heap_up B1.out _, heap_alloc_new _ _, F1.out.alloc _⟩
  case round =>
    obtain ⟨k, hk, rfl, hh, b2, b3, hfr⟩ := hrel
    have HH := hid hh
    have B2 := hid b2
    have B3 := hid b3
    have c3 := cell_of (o := 0) b3 rfl
    have c2 := cell_of (o := 0) b2 rfl
    have f2 := free_of (o := 0) b2
    have l3 := lt_of_get b3
    clear hh b2 b3
    by_cases hlt : k < rs.length
    · obtain ⟨g, gcap, hg⟩ : ∃ g gcap, Value.slice a1 rs.length cap1 = .slice (some ⟨g, 0, none⟩) rs.length gcap := by
        obtain ⟨zs', y1, y2, y3⟩ := HH.out
        obtain ⟨g, gcap, hg, _⟩ := own_shape y2 (by omega)
        exact ⟨g, gcap, hg⟩
      cases hg
      obtain ⟨u, u1, u2, u3, u4, u5, u6⟩ := HH.out.step hlt
      obtain ⟨ua, ucap, rfl, _, _⟩ := u3.shape
      have hul := HS.out.2 _ (List.getElem_mem hlt)
      have hgne : w1.heap.size ≠ g := by
        obtain ⟨zs', y1, y2, y3⟩ := HH.out
        obtain ⟨cur, hcur⟩ := own_tag y2
        rintro rfl
        rw [B3.out] at hcur
        simp at hcur
      have hgne2 : w.heap.size + 1 ≠ g := by
        obtain ⟨zs', y1, y2, y3⟩ := HH.out
        obtain ⟨cur, hcur⟩ := own_tag y2
        rintro rfl
        rw [B2.out] at hcur
        simp at hcur
      have U3 := hid u3
      have U6 := hid u6
      have hki : (k : Int) < (rs.length : Int) := by omega
      have hwr := hfr.size
      clear u3 u6
      go_wp2
      go_region_with
        (first
          | (go_at_call 67; go_must (refine (cloneU_any (old w.heap.size) _ _ _ _ _ (SlR.grow U3.out (Fr.refl 0 [] wr).drew) (oneU _) hul).mono ?_; rintro e w2 ⟨v2, rfl, own2, fr2⟩; obtain ⟨a2, cap2, rfl⟩ := own_any own2; have FW := hid ((Fr.refl wr.heap.size [] wr).drew.trans fr2); have OWN2 := hid own2; have d3 := FW.out.cell l3 c3; have d1 := FW.out.cell u5 u1; have d2 := FW.out.free u5 u1 u2; have d4 := Nat.lt_of_lt_of_le u5 FW.out.size; clear own2 fr2)))
      all_goals
        go_wp2
        go_roundw
        case rel =>
          have ST := U6.out w2 (.slice a2 rs[k].ups.length cap2) FW.out (UpsR.ofOwn OWN2.out rfl hwr)
          exact ⟨k + 1, by omega, by go_num, ST, block_setne (FW.out.keep _ _ B2.out (.inr (by simp))) hgne2, block_setne (FW.out.keep _ _ B3.out (.inr (by simp))) hgne, (hfr.trans FW.out.nil).setNew u4 _⟩
        case measure => simp [intOf]; omega
    · obtain rfl : k = rs.length := by omega
      have RO := HH.out.all rfl
      go_wp2
      have FT := (Fr.refl 0 [25] wr).setOld (p := ⟨w.heap.size + 1, 0, none⟩) B2.out (Nat.zero_le _) (by simp [otag]) (.slice a1 rs.length cap1)
      exact bodyPost_ret (v := .agg #[.slice a1 rs.length cap1]) (by simp [results, Try.results40, go_sem, c2]) rfl ⟨_, rfl, RO.keep FT (by simp) (by simp), hfr.setNew (by dsimp only; omega) _⟩

end Go.Proofs.Ytkcpecihgldflaa
