/- The program's copyObjects. -/
import Derived.Test.YtjgbconlpolddaaQM6
set_option linter.unusedVariables false
set_option linter.unusedSimpArgs false
namespace Go.Proofs.Ytjgbconlpolddaa
open Go.RowKit
set_option linter.unusedVariables false

set_option maxRecDepth 20000 in
set_option maxHeartbeats 1000000 in
theorem cloneOb_any (K : Nat → Bool → Prop) (E' : Nat) (v : Value) (n : Nat) (cs : List Value) (w : World) (hv : SlR K E' 3 w v n cs) (h1 : ∀ u ∈ cs, u.oneCell' = true) (hn : n ≤ 1000000000) :
    Calls Try.prog 93 #[v] w fun e w' => ∃ v', e = .returned v' ∧ w'.ownsRow w.heap.size 40 3 v' n cs ∧ Fr w.heap.size [] w w' := by
  obtain ⟨a, cap, rfl, h2, h3, h4, h5⟩ := id hv
  obtain ⟨iu, hui, huz0, huz1, huz2⟩ := info_parts infoOb
  have heq := fun (w : World) (a : Option Addr) (n c : Nat) => Lib.run_eql_slice_nil (P := Try.prog) w 23 40 a n c 0 0 Try.underlying23
  have HV := hid hv
  clear hv h5
  cases a with
  | none =>
    obtain ⟨rfl, rfl⟩ := h4 rfl
    have hcs : cs = [] := List.eq_nil_of_length_eq_zero (by simpa using h2)
    subst hcs
    clear h4 h2
    go_enter Try.func93, Try.ntmps93
    go_wp2
    go_ret
    exact ⟨_, rfl, World.ownsRow_nil _ _ _ _, Fr.refl _ _ _⟩
  | some ad =>
    have H2 := hid h2
    clear h4 h2
    go_enter Try.func93, Try.ntmps93
    go_wp2_with (at_builtin; go_must (refine wpList_clone rfl (.tmp 5) (.tmp 6) 23 rfl 40 iu (.agg #[.int .i64 0, .slice none 0 0, .string ⟨#[]⟩]) 3 48 Try.underlying23 hui huz0 huz1 huz2 rfl (by decide) _ (by rfl) (by simp [World.setCell]) K E' _ _ _ (by rfl) HV.out h1 (by unfold maxLen; omega) (by omega) ?_; intro v2 w2 own2 fr2))
    go_ret
    exact ⟨_, rfl, own2, fr2⟩

theorem fmOb_set1 (zs : List (Ob × Value)) {k : Nat} (hk : k < zs.length) (u : Value) : (zs.flatMap encOb).set (k * 3 + 1) u = (zs.set k (zs[k].1, u)).flatMap encOb := by
  induction zs generalizing k with
  | nil => simp at hk
  | cons z zs ih =>
    cases k with
    | zero => simp [encOb]
    | succ k =>
      have h3 : (k + 1) * 3 + 1 = k * 3 + 1 + 1 + 1 + 1 := by omega
      rw [h3]
      have := ih (k := k) (by simpa using hk)
      simp [encOb] at this ⊢
      exact this

theorem fmOb (zs : List (Ob × Value)) (i j : Nat) (hj : j < 3) (hi : i < zs.length) : (zs.flatMap encOb)[i * 3 + j]? = (encOb zs[i])[j]? := fm_get encOb 3 (fun _ => rfl) zs i j hj hi

theorem own_tag {lo E sz g n cap : Nat} {w : World} {cs : List Value} (h : w.ownsRow lo E sz (.slice (some ⟨g, 0, none⟩) n cap) n cs) : ∃ cur, w.heap[g]? = some (.cells cur E (0, 0)) := by
  rcases h.2 with ⟨h1, _⟩ | ⟨g', cap', cur, h1, hg, hh, _⟩
  · cases h1
  · cases h1; exact ⟨cur, hh⟩

theorem Fr.free {B : Nat} {T : List Nat} {w w' : World} (h : Fr B T w w') {b off : Nat} {u : Value} (hb : b < B) (hc : w.cell? ⟨b, off, none⟩ = some u) (hf : w.frozen? ⟨b, off, none⟩ = false) : w'.frozen? ⟨b, off, none⟩ = false := by
  have hl := World.block_lt_of_cell? _ _ hc
  have := h.keep b w.heap[b] (by simp [hl]) (.inl hb)
  unfold World.frozen? at hf ⊢
  rw [this]
  simpa [hl] using hf

theorem map_set_fstOb (zs : List (Ob × Value)) {k : Nat} (hk : k < zs.length) (u : Value) : (zs.set k (zs[k].1, u)).map (·.1) = zs.map (·.1) := by
  rw [List.map_set]
  apply List.ext_getElem (by simp)
  intro i h1 h2
  rw [List.getElem_set]
  split
  · rename_i e; subst e; simp
  · rfl

/-- Objects of which the first k have their links in memory of the call's own. -/
def HalfOb (lo k : Nat) (w : World) (v : Value) (os : List Ob) : Prop :=
  ∃ zs : List (Ob × Value), zs.map (·.1) = os ∧ w.ownsRow lo 40 3 v os.length (zs.flatMap encOb) ∧ ∀ j (hj : j < zs.length), (j < k → IntsR (new lo) w zs[j].2 zs[j].1.links) ∧ (k ≤ j → IntsR (old lo) w zs[j].2 zs[j].1.links)

theorem HalfOb.grow {lo k B : Nat} {w w' : World} {v : Value} {os : List Ob} (h : HalfOb lo k w v os) (hf : Fr B [] w w') : HalfOb lo k w' v os := by
  obtain ⟨zs, h1, h2, h3⟩ := h
  exact ⟨zs, h1, ownsRow_grow h2 hf, fun j hj => ⟨fun h => ((h3 j hj).1 h).grow hf, fun h => ((h3 j hj).2 h).grow hf⟩⟩

theorem HalfOb.all {lo k : Nat} {w : World} {v : Value} {os : List Ob} (h : HalfOb lo k w v os) (hk : k = os.length) : ObsOwn lo w v os := by
  obtain ⟨zs, h1, h2, h3⟩ := h
  refine ⟨zs, h1, h2, fun z hz => ?_⟩
  obtain ⟨j, hj, rfl⟩ := List.mem_iff_getElem.1 hz
  exact (h3 j hj).1 (by rw [hk, ← h1]; simpa using hj)

/-- Object k's links, and the row behind a store there. -/
theorem HalfOb.step {lo k g cap : Nat} {w : World} {os : List Ob} (h : HalfOb lo k w (.slice (some ⟨g, 0, none⟩) os.length cap) os) (hk : k < os.length) :
    ∃ u : Value, w.cell? ⟨g, k * 3 + 1, none⟩ = some u ∧ w.frozen? ⟨g, k * 3 + 1, none⟩ = false ∧ IntsR (old lo) w u os[k].links ∧ lo ≤ g ∧ g < w.heap.size ∧
      ∀ (w1 : World) (u' : Value), Fr w.heap.size [] w w1 → IntsR (new lo) w1 u' os[k].links → HalfOb lo (k + 1) (w1.setCell ⟨g, k * 3 + 1, none⟩ u') (.slice (some ⟨g, 0, none⟩) os.length cap) os := by
  obtain ⟨zs, h1, h2, h3⟩ := h
  have hl : zs.length = os.length := by rw [← h1]; simp
  have hkz : k < zs.length := by omega
  have e : os[k] = zs[k].1 := by
    have : (zs.map (·.1))[k]? = os[k]? := by rw [h1]
    rw [List.getElem?_map, List.getElem?_eq_getElem hkz, List.getElem?_eq_getElem hk] at this
    simpa using this.symm
  refine ⟨zs[k].2, ?_, h2.frozenAt _, by rw [e]; exact (h3 k hkz).2 (Nat.le_refl _), (h2.lt g rfl).1, (h2.lt g rfl).2, fun w1 u' hf hu => ?_⟩
  · rw [h2.cellAt (k * 3 + 1) (by omega)]
    have := fmOb zs k 1 (by omega) hkz
    simpa [encOb] using this
  · have h2' := ownsRow_grow h2 hf
    obtain ⟨cur, hcur⟩ := own_tag h2'
    have hT := (Fr.refl lo [40] w1).setOld (p := ⟨g, k * 3 + 1, none⟩) hcur ((h2.lt g rfl).1) (by simp [otag]) u'
    have ⟨st1, _⟩ := h2'.stored (k * 3 + 1) u'
    rw [fmOb_set1 zs hkz] at st1
    refine ⟨_, (map_set_fstOb zs hkz u').trans h1, st1, fun j hj => ?_⟩
    have hj' : j < zs.length := by simpa using hj
    rw [List.getElem_set]
    by_cases ej : k = j
    · subst ej
      simp only [if_true]
      refine ⟨fun _ => ?_, fun h => by omega⟩
      rw [← e]
      exact hu.keep hT (Safe.new (by simp))
    · simp only [if_neg ej]
      exact ⟨fun h => (((h3 j hj').1 (by omega)).grow hf).keep hT (Safe.new (by simp)), fun h => (((h3 j hj').2 (by omega)).grow hf).keep hT (Safe.old (Nat.le_refl _))⟩

set_option maxRecDepth 20000 in
set_option maxHeartbeats 2000000 in
theorem copyObjects_any (K : Nat → Bool → Prop) (v : Value) (os : List Ob) (w : World) (hv : ObsR K w v os) (hb : ∀ o ∈ os, o.links.length ≤ 1000000000) (hl : os.length ≤ 1000000000) :
    Calls Try.prog 60 #[v] w fun e w' => ∃ v', e = .returned v' ∧ ObsOwn w.heap.size w' v' os ∧ Fr w.heap.size [] w w' := by
  have hv' := hv.weak (K' := old w.heap.size) (fun b t hb _ => hb)
  obtain ⟨a, cap, rfl, hcap, -⟩ := hv'.shape
  obtain ⟨zs, z1, z2, z3⟩ := hv'
  have Z1 := hid z1
  have Z2 := hid z2
  have Z3 := hid z3
  have HB := hid hb
  have hone := oneObs z3
  clear hv z1 z2 z3 hb
  go_enter Try.func60, Try.ntmps60
  go_wp2_with (go_at_call 93; go_must (refine (cloneOb_any (old w.heap.size) _ _ _ _ _ Z2.out hone hl).mono ?_; rintro e w1 ⟨v1, rfl, own1, fr1⟩; obtain ⟨a1, cap1, rfl⟩ := own_any own1; have O1 := hid own1; have F1 := hid fr1; clear own1 fr1))
  have H1 : HalfOb w.heap.size 0 w1 (.slice a1 os.length cap1) os :=
    ⟨zs, Z1.out, O1.out, fun j hj => ⟨fun h => absurd h (Nat.not_lt_zero _), fun _ => (Z3.out _ (List.getElem_mem hj)).grow F1.out⟩⟩
  have HH1 := hid H1
  have hw1 := F1.out.size
  clear H1
  go_loopw [9] (fun i wr => ∃ k : Nat, k ≤ os.length ∧ i = .int .i64 k ∧ HalfOb w.heap.size k wr (.slice a1 os.length cap1) os ∧ Fr w.heap.size [] w wr) (fun i _ => os.length - (intOf i).toNat)
  case atStart => exact ⟨0, Nat.zero_le _, rfl, HH1.out, F1.out⟩
  case round =>
    obtain ⟨k, hk, rfl, hh, hfr⟩ := hrel
    have HH := hid hh
    clear hh
    by_cases hlt : k < os.length
    · obtain ⟨g, gcap, hg⟩ : ∃ g gcap, Value.slice a1 os.length cap1 = .slice (some ⟨g, 0, none⟩) os.length gcap := by
        obtain ⟨zs', y1, y2, y3⟩ := HH.out
        obtain ⟨g, gcap, hg, _⟩ := own_shape y2 (by omega)
        exact ⟨g, gcap, hg⟩
      cases hg
      obtain ⟨u, u1, u2, u3, u4, u5, u6⟩ := HH.out.step hlt
      obtain ⟨ua, ucap, rfl, _, _⟩ := u3.shape
      have hul := HB.out _ (List.getElem_mem hlt)
      have U3 := hid u3
      have U6 := hid u6
      have hki : (k : Int) < (os.length : Int) := by omega
      have hwr := hfr.size
      clear u3 u6
      go_wp2_with (go_at_call 38; go_must (refine (cloneI_any (old w.heap.size) _ _ _ _ _ U3.out (oneI _) hul).mono ?_; rintro e w2 ⟨v2, rfl, own2, fr2⟩; obtain ⟨a2, cap2, rfl⟩ := own_any own2; have FW := hid fr2; have OWN2 := hid own2; have d1 := FW.out.cell u5 u1; have d2 := FW.out.free u5 u1 u2; have d4 := Nat.lt_of_lt_of_le u5 FW.out.size; clear own2 fr2))
      go_roundw
      case rel =>
        have ST := U6.out w2 (.slice a2 os[k].links.length cap2) FW.out (SlR.ofOwns (ownsRow_lo OWN2.out hwr))
        exact ⟨k + 1, by omega, by go_num, ST, (hfr.trans FW.out.nil).setNew u4 _⟩
      case measure => simp [intOf]; omega
    · obtain rfl : k = os.length := by omega
      have RO := HH.out.all rfl
      go_wp2
      go_ret
      exact ⟨_, rfl, RO, hfr⟩

end Go.Proofs.Ytjgbconlpolddaa
