/- slices.Insert at objects: the end, and a new row; all roads. -/
import Derived.Test.YtjgbconlpolddaaGreatQM6
set_option linter.unusedVariables false
set_option linter.unusedSimpArgs false
namespace Go.Proofs.YtjgbconlpolddaaGreat
open Go.RowKit
set_option linter.unusedVariables false
set_option linter.unusedSimpArgs false

set_option maxRecDepth 100000 in
set_option maxHeartbeats 4000000 in
/-- At the end. -/
theorem insert_end {lo : Nat} (v : Value) (n vb : Nat) (cs vs : List Value) (w : World) (hown : w.ownsRow lo 37 3 v n cs) (hlo : lo ≤ w.heap.size) (hn : n ≤ 1000)
    (hv : w.heap[vb]? = some (.cells vs.toArray 37 (0, 0))) (hvl : vs.length = 3) (h1v : ∀ v ∈ vs, v.oneCell' = true) :
    Calls Tryz.prog 86 #[v, .int .i64 n, .slice (some ⟨vb, 0, none⟩) 1 1] w fun e w' =>
      ∃ v', e = .returned v' ∧ w'.ownsRow lo 37 3 v' (n + 1) (cs ++ vs) ∧ Fr lo [37] w w' := by
  obtain ⟨i0, hi0, hz0, hz1, hz2⟩ := info_parts infoOb
  have SRC := hid (show SlR (new 0) 37 3 w (.slice (some ⟨vb, 0, none⟩) 1 1) 1 vs from SlR.ofOwns ⟨by simp [hvl], .inr ⟨vb, 1, vs.toArray, rfl, Nat.zero_le _, hv, Nat.le_refl _, by decide, by simp [hvl], by simp [List.take_of_length_le, hvl]⟩⟩)
  have OWN := hid hown
  rcases hown.2 with ⟨rfl, rfl⟩ | ⟨g, cap, cur, rfl, hg, hcur, hnc, hcm, hcs, htake⟩
  · clear hown
    go_enter Tryz.func86, Tryz.ntmps86
    go_wp2_with (at_builtin; go_must (refine wpList_ap rfl (.tmp 23) (.tmp 24) 23 rfl lo 37 i0 (.agg #[.int .i64 0, .slice none 0 0, .string ⟨#[]⟩]) 3 48 Tryz.underlying23 hi0 hz0 hz1 hz2 rfl (by decide) _ 0 cs (by rfl) OWN.out (new 0) 37 _ 1 vs (by rfl) SRC.out h1v (by decide) (by decide) hlo ?_; intro v1 w1 own1 gr1 _; have O1 := hid own1; have F1 := hid (Fr.ofOwnGrown OWN.out gr1 (Nat.le_refl _) (List.mem_singleton.2 rfl)); clear own1 gr1))
    go_ret
    exact ⟨_, rfl, O1.out, F1.out⟩
  · have hc63 : cap ≤ 9223372036854775807 := by unfold maxLen at hcm; omega
    clear hown hcs htake
    go_enter Tryz.func86, Tryz.ntmps86
    go_wp2_with (at_builtin; go_must (refine wpList_ap rfl (.tmp 23) (.tmp 24) 23 rfl lo 37 i0 (.agg #[.int .i64 0, .slice none 0 0, .string ⟨#[]⟩]) 3 48 Tryz.underlying23 hi0 hz0 hz1 hz2 rfl (by decide) _ n cs (by rfl) OWN.out (new 0) 37 _ 1 vs (by rfl) SRC.out h1v (by unfold maxLen; omega) (by omega) hlo ?_; intro v1 w1 own1 gr1 _; have O1 := hid own1; have F1 := hid (Fr.ofOwnGrown OWN.out gr1 (Nat.le_refl _) (List.mem_singleton.2 rfl)); clear own1 gr1))
    all_goals
      go_ret
      exact ⟨_, rfl, O1.out, F1.out⟩

set_option maxRecDepth 100000 in
set_option maxHeartbeats 4000000 in
/-- There is no room, and the place is not the end: a new row. -/
theorem insert_grow {lo : Nat} (b n c i vb : Nat) (cs vs : List Value) (w : World) (hown : w.ownsRow lo 37 3 (.slice (some ⟨b, 0, none⟩) n c) n cs) (hi : i < n) (hroom : c < n + 1) (hn : n ≤ 1000)
    (hv : w.heap[vb]? = some (.cells vs.toArray 37 (0, 0))) (hvl : vs.length = 3) (hvb : vb ≠ b) (h1c : ∀ v ∈ cs, v.oneCell' = true) (h1v : ∀ v ∈ vs, v.oneCell' = true) :
    Calls Tryz.prog 86 #[.slice (some ⟨b, 0, none⟩) n c, .int .i64 i, .slice (some ⟨vb, 0, none⟩) 1 1] w fun e w' => ∃ G ROW, e = .returned (.slice (some ⟨w.heap.size, 0, none⟩) (n + 1) G) ∧ n + 1 ≤ G ∧ G ≤ maxLen ∧ ROW.size = G * 3 ∧ ROW.toList.take (i * 3) = cs.take (i * 3) ∧
      w' = (((w.alloc (.cells ROW 37)).drew.setCells w.heap.size (i * 3) vs).drew).setCells w.heap.size ((i + 1) * 3) (cs.drop (i * 3)) := by
  obtain ⟨hcl, hsh⟩ := hown
  rcases hsh with ⟨hh, _⟩ | ⟨g', cap', cur, hh, hlo, hcur, hnc, hcm, hcs, htake⟩
  · cases hh
  cases hh
  obtain ⟨i0, hi0, hz0, hzs, hzb⟩ := info_parts infoOb
  obtain rfl : c = n := by omega
  have hc63 : c ≤ 9223372036854775807 := by unfold maxLen at hcm; omega
  have hcell : ∀ j v, cs[j]? = some v → w.cell? ⟨b, j, none⟩ = some v := fun j v hj => by
    rw [← htake, List.getElem?_take] at hj
    split at hj
    · exact cell_of hcur (by simpa using hj)
    · cases hj
  have hvs : ∀ j v, vs[j]? = some v → w.cell? ⟨vb, j, none⟩ = some v := fun j v hj => cell_of hv (by simpa using hj)
  have hbw : b < w.heap.size := lt_of_get hcur
  have hvw : vb < w.heap.size := lt_of_get hv
  have hkk : (c : Int) + 1 - (i : Int) = ((c + 1 - i : Nat) : Int) := by omega
  have hik : i + (c + 1 - i) = c + 1 := by omega
  have hold : (Builtin.firstCells i0.size i (.slice (some ⟨b, 0, none⟩) i c)).run Tryz.prog w.drew = .ok (cs.take (i * 3)).toArray w.drew := by
    rw [hzs]
    exact run_firstCells_some w.drew 3 i ⟨b, 0, none⟩ i c (cs.take (i * 3)) (by rw [List.length_take]; omega) (fun j v hj => by
      rw [Addr.add_lit, Nat.zero_add]
      rw [List.getElem?_take] at hj
      split at hj
      · exact hcell j v hj
      · cases hj)
  have hrz : ∀ ty, (Builtin.append_ #[23, 3] ty #[.slice (some ⟨b, 0, none⟩) i c, .int .i64 ((c : Int) + 1 - (i : Int))]).run Tryz.prog w =
      .ok (.slice (some ⟨w.heap.size, 0, none⟩) (c + 1) (grownCap w (c + 1) c 37)) (w.drew.alloc (.cells ((cs.take (i * 3)).toArray ++ Builtin.zeroCells (Value.agg #[.int .i64 0, .slice none 0 0, .string ⟨#[]⟩]).cells (c + 1 - i) ++ Builtin.zeroCells (Value.agg #[.int .i64 0, .slice none 0 0, .string ⟨#[]⟩]).cells (grownCap w (c + 1) c 37 - (c + 1))) 37)) := fun ty => by
    have h := Lib.run_append_grow_zeros w 23 3 ty 37 i0 _ .i64 .i64 Tryz.underlying23 Tryz.underlying3 hi0 hz0 (some ⟨b, 0, none⟩) i c (cs.take (i * 3)) hold (c + 1 - i) (by omega) (by rw [hzs]; decide) (by omega) (by omega) (by rw [hzb]; omega) (by rw [hzb, hik]; exact growslice_fits hroom (by omega))
    rw [hik] at h
    rw [hkk]
    exact h
  have hGn : c + 1 ≤ grownCap w (c + 1) c 37 := grownCap_ge w _ _ _
  have hGm : grownCap w (c + 1) c 37 ≤ maxLen := grownCap_le_maxLen w (c + 1) c 37 (by unfold maxLen; omega)
  obtain ⟨G, hG⟩ : ∃ G, G = grownCap w (c + 1) c 37 := ⟨_, rfl⟩
  obtain ⟨ROW, hROW⟩ : ∃ ROW : Array Value, ROW = (cs.take (i * 3)).toArray ++ Builtin.zeroCells (Value.agg #[.int .i64 0, .slice none 0 0, .string ⟨#[]⟩]).cells (c + 1 - i) ++ Builtin.zeroCells (Value.agg #[.int .i64 0, .slice none 0 0, .string ⟨#[]⟩]).cells (G - (c + 1)) := ⟨_, rfl⟩
  rw [← hG] at hrz hGn hGm
  rw [← hROW] at hrz
  have htl : (cs.take (i * 3)).length = i * 3 := by rw [List.length_take]; omega
  have hRs : ROW.size = G * 3 := by
    rw [hROW]
    simp [Builtin.zeroCells, Value.cells, htl]
    omega
  have hRt : ROW.toList.take (i * 3) = cs.take (i * 3) := by
    rw [hROW, Array.toList_append, Array.toList_append, List.append_assoc]
    exact List.take_left' htl
  have RES := hid (And.intro hGn (And.intro hGm (And.intro hRs hRt)))
  have hG63 : G ≤ 9223372036854775807 := by unfold maxLen at hGm; omega
  obtain ⟨W1, hW1⟩ : ∃ W1, W1 = w.drew.alloc (.cells ROW 37) := ⟨_, rfl⟩
  rw [← hW1] at hrz
  have hBk : W1.heap[w.heap.size]? = some (.cells ROW 37 (0, 0)) := by rw [hW1]; exact heap_alloc_eq w.drew _ rfl
  have hN : ∀ j, j < (c + 1) * 3 → (W1.cell? ⟨w.heap.size, j, none⟩).isSome = true := fun j hj => by
    have : j < ROW.size := by rw [hRs]; omega
    rw [cell_of hBk (u := ROW[j]) (by simp [this])]; rfl
  have hNf : ∀ j, W1.frozen? ⟨w.heap.size, j, none⟩ = false := fun j => free_of hBk
  have hOb : ∀ j v, w.cell? ⟨b, j, none⟩ = some v → W1.cell? ⟨b, j, none⟩ = some v := fun j v h => by rw [hW1]; exact cell_alloc (w := w.drew) h
  have hOv : ∀ j v, w.cell? ⟨vb, j, none⟩ = some v → W1.cell? ⟨vb, j, none⟩ = some v := fun j v h => by rw [hW1]; exact cell_alloc (w := w.drew) h
  have hcpA : ∀ (W : World), (∀ x, W.cell? x = W1.cell? x) → (∀ x, W.frozen? x = W1.frozen? x) → ∀ ty dc, (Builtin.copy_ #[23, 23] ty #[.slice (some ⟨w.heap.size, i * 3, none⟩) (c + 1 - i) dc, .slice (some ⟨vb, 0, none⟩) 1 1]).run Tryz.prog W = .ok (goInt (1 : Nat)) (W.setCells w.heap.size (i * 3) vs) := fun W hWc hWf ty dc =>
    run_copy_sz W _ _ ty 37 i0 w.heap.size (i * 3) (c + 1 - i) dc ⟨vb, 0, none⟩ 1 1 1 vs Tryz.underlying23 hi0 (by simp only [Nat.min_def]; split <;> omega) (by rw [hvl, hzs])
      (fun j v hj => by rw [Addr.add_lit, hWc, Nat.zero_add]; exact hOv _ v (hvs j v hj))
      (fun j hj => by rw [hWc]; exact hN _ (by rw [hvl] at hj; omega)) (fun j hj => by rw [hWf]; exact hNf _) h1v
  have hGi : ¬ (G = i) := by omega
  have hGim : ¬ (G = i + 1) := by omega
  have hci : ¬ (c = i) := by omega
  have hbN : b ≠ w.heap.size := by omega
  have hdl : (cs.drop (i * 3)).length = (c - i) * 3 := by rw [List.length_drop, hcl]; omega
  have hcpB : ∀ (W : World), (∀ x, W.cell? x = (W1.setCells w.heap.size (i * 3) vs).cell? x) → (∀ x, W.frozen? x = (W1.setCells w.heap.size (i * 3) vs).frozen? x) → ∀ ty dc sc, (Builtin.copy_ #[23, 23] ty #[.slice (some ⟨w.heap.size, (i + 1) * 3, none⟩) (c - i) dc, .slice (some ⟨b, i * 3, none⟩) (c - i) sc]).run Tryz.prog W = .ok (goInt (c - i : Nat)) (W.setCells w.heap.size ((i + 1) * 3) (cs.drop (i * 3))) := fun W hWc hWf ty dc sc =>
    run_copy_sz W _ _ ty 37 i0 w.heap.size ((i + 1) * 3) (c - i) dc ⟨b, i * 3, none⟩ (c - i) sc (c - i) (cs.drop (i * 3)) Tryz.underlying23 hi0 (by simp only [Nat.min_def]; split <;> omega) (by rw [hdl, hzs])
      (fun j v hj => by
        rw [Addr.add_lit, hWc, World.cell?_setCells_out _ _ _ _ _ (fun h _ => absurd h hbN)]
        exact hOb _ v (hcell (i * 3 + j) v (by rwa [List.getElem?_drop] at hj)))
      (fun j hj => by rw [hWc]; exact isSome_setCells _ _ _ W1 (fun t ht => hN (i * 3 + t) (by rw [hvl] at ht; omega)) _ (hN ((i + 1) * 3 + j) (by rw [hdl] at hj; omega)))
      (fun j hj => by rw [hWf, World.frozen?_setCells]; exact hNf _) (fun v hv => h1c v (List.mem_of_mem_drop hv))
  subst hW1
  have hE1 : ∀ x, ((w.alloc (.cells ROW 37)).drew).cell? x = (w.drew.alloc (.cells ROW 37)).cell? x := fun x => rfl
  have hE2 : ∀ x, ((w.alloc (.cells ROW 37)).drew).frozen? x = (w.drew.alloc (.cells ROW 37)).frozen? x := fun x => rfl
  have hF1 : ∀ x, (((w.alloc (.cells ROW 37)).drew.setCells w.heap.size (i * 3) vs).drew).cell? x = ((w.drew.alloc (.cells ROW 37)).setCells w.heap.size (i * 3) vs).cell? x := fun x => rfl
  have hF2 : ∀ x, (((w.alloc (.cells ROW 37)).drew.setCells w.heap.size (i * 3) vs).drew).frozen? x = ((w.drew.alloc (.cells ROW 37)).setCells w.heap.size (i * 3) vs).frozen? x := fun x => rfl
  have hz3 : (c : Int) < (c : Int) + 1 := by omega
  have hz4 : ¬ ((i : Int) = (c : Int)) := by omega
  have hw1 : IntKind.i64.wrap ((i : Int) + 1) = (i : Int) + 1 := by rw [IntKind.wrap_i64]; omega
  have hw2 : IntKind.i64.wrap ((c : Int) + 1) = (c : Int) + 1 := by rw [IntKind.wrap_i64]; omega
  have hw3 : IntKind.i64.wrap ((c : Int) + 1 - (i : Int)) = (c : Int) + 1 - (i : Int) := by rw [IntKind.wrap_i64]; omega
  have hb1 : (0 : Int) ≤ (i : Int) + 1 := by omega
  have hin : i ≤ c := by omega
  have htn : ((i : Int) + 1).toNat = i + 1 := by omega
  have hb3 : (i : Int) ≤ (c : Int) := by omega
  have hb7 : (i : Int) ≤ (c : Int) + 1 := by omega
  clear hkk hik hold hROW hG hRs hRt htl hcs htake hcl hdl hGm
  go_enter Tryz.func86, Tryz.ntmps86
  go_wp2_with (first
    | (at_builtin; refine Lib.wpList_append_run _ rfl _ _ _ _ rfl _ _ rfl rfl _ _ (hrz _) ?_)
    | (at_builtin; refine wpList_copy_runI _ rfl _ _ 23 23 rfl _ _ rfl rfl (hcpA _ hE1 hE2 _ _) ?_))
  go_region_law (refine step_copy_runI rfl _ _ 23 23 rfl (.slice (some ⟨w.heap.size, (i + 1) * 3, none⟩) (c - i) (G - (i + 1))) (.slice (some ⟨b, i * 3, none⟩) (c - i) (c - i)) (by simp [Act.eval, Act.put]) (by simp [Act.eval, Act.put]) (hcpB _ hF1 hF2 3 (G - (i + 1)) (c - i)) ?_)
  go_wp2
  go_ret
  exact ⟨G, ROW, rfl, RES.out.1, RES.out.2.1, RES.out.2.2.1, RES.out.2.2.2, rfl⟩

theorem mid_shift (l vs D : List Value) (p d : Nat) (hl : p + 3 + d ≤ l.length) (hv : vs.length = 3) (hd : D.length = d) :
    ((l.take (p + 3) ++ D ++ l.drop (p + 3 + d)).take p ++ vs ++ (l.take (p + 3) ++ D ++ l.drop (p + 3 + d)).drop (p + 3)).take (p + 3 + d) = l.take p ++ vs ++ D := by
  have h1 : (l.take (p + 3)).length = p + 3 := by rw [List.length_take]; omega
  have h2 : (l.take p).length = p := by rw [List.length_take]; omega
  have e1 : (l.take (p + 3) ++ D ++ l.drop (p + 3 + d)).take p = l.take p := by
    rw [List.append_assoc, List.take_append_of_le_length (by omega), List.take_take, Nat.min_eq_left (by omega)]
  have e2 : (l.take (p + 3) ++ D ++ l.drop (p + 3 + d)).drop (p + 3) = D ++ l.drop (p + 3 + d) := by
    rw [List.append_assoc]; exact List.drop_left' h1
  rw [e1, e2, ← List.append_assoc]
  exact List.take_left' (by simp; omega)

theorem mid_grow (l vs D : List Value) (p d : Nat) (hl : p + 3 + d ≤ l.length) (hv : vs.length = 3) (hd : D.length = d) :
    ((l.take p ++ vs ++ l.drop (p + 3)).take (p + 3) ++ D ++ (l.take p ++ vs ++ l.drop (p + 3)).drop (p + 3 + d)).take (p + 3 + d) = l.take p ++ vs ++ D := by
  have h2 : (l.take p).length = p := by rw [List.length_take]; omega
  have e1 : (l.take p ++ vs ++ l.drop (p + 3)).take (p + 3) = l.take p ++ vs := List.take_left' (by simp; omega)
  rw [e1]
  exact List.take_left' (by simp; omega)

/-- One object inserted. -/
theorem insert_any {lo : Nat} (v : Value) (n i vb : Nat) (cs vs : List Value) (w : World) (hown : w.ownsRow lo 37 3 v n cs) (hlo : lo ≤ w.heap.size) (hi : i ≤ n) (hn : n ≤ 1000)
    (hv : w.heap[vb]? = some (.cells vs.toArray 37 (0, 0))) (hvl : vs.length = 3) (hvb : v.ownBlock ≠ some vb) (h1c : ∀ v ∈ cs, v.oneCell' = true) (h1v : ∀ v ∈ vs, v.oneCell' = true) :
    Calls Tryz.prog 86 #[v, .int .i64 i, .slice (some ⟨vb, 0, none⟩) 1 1] w fun e w' =>
      ∃ v', e = .returned v' ∧ w'.ownsRow lo 37 3 v' (n + 1) (cs.take (i * 3) ++ vs ++ cs.drop (i * 3)) ∧ Fr lo [37] w w' := by
  have hcl := hown.1
  by_cases e : i = n
  · subst e
    refine (insert_end v i vb cs vs w hown hlo hn hv hvl h1v).mono ?_
    rintro e w' ⟨v', rfl, o1, f1⟩
    refine ⟨v', rfl, ?_, f1⟩
    rw [List.take_of_length_le (by omega), List.drop_eq_nil_of_le (by omega), List.append_nil]
    exact o1
  · rcases hown.2 with ⟨rfl, rfl⟩ | ⟨g, cap, cur, rfl, hg, hcur, hnc, hcm, hcs, htake⟩
    · omega
    · have hne : vb ≠ g := fun h => hvb (by rw [h]; rfl)
      have hdl : (cs.drop (i * 3)).length = (n - i) * 3 := by rw [List.length_drop, hcl]; omega
      have hall : (cs.take (i * 3) ++ vs ++ cs.drop (i * 3)).length = (n + 1) * 3 := by
        rw [List.length_append, List.length_append, hdl, hvl, List.length_take]; omega
      by_cases hroom : n + 1 ≤ cap
      · refine (insert_shift g n cap i vb cs vs w hown (by omega) hroom hn hv hvl hne h1c h1v).mono ?_
        rintro e w' ⟨rfl, rfl⟩
        have b1 := heap_setCells (cs.drop (i * 3)) ((i + 1) * 3) w.drew cur hcur (by rw [hdl, hcs]; omega)
        have b2 := heap_setCells vs (i * 3) _ _ b1 (by simp [hdl, hcs, hvl]; omega)
        have ht : cur.toList.take (i * 3) = cs.take (i * 3) := by rw [← htake, List.take_take, Nat.min_eq_left (by omega)]
        refine ⟨_, rfl, ⟨hall, .inr ⟨g, cap, _, rfl, hg, b2, hroom, hcm, ?_, ?_⟩⟩, ?_⟩
        · simp [hdl, hcs, hvl]; omega
        · have := mid_shift cur.toList vs (cs.drop (i * 3)) (i * 3) ((n - i) * 3) (by simp [hcs]; omega) hvl hdl
          rw [ht] at this
          simp only [hvl, hdl, List.toList_toArray]
          rw [show (n + 1) * 3 = i * 3 + 3 + (n - i) * 3 by omega, show (i + 1) * 3 = i * 3 + 3 by omega]
          exact this
        · exact Fr.setCells vs (i * 3) _ _ (Fr.setCells _ _ _ _ (Fr.refl lo [37] w).drew hcur hg (List.mem_singleton.2 rfl)) b1 hg (List.mem_singleton.2 rfl)
      · refine (insert_grow g n cap i vb cs vs w hown (by omega) (by omega) hn hv hvl hne h1c h1v).mono ?_
        rintro e w' ⟨G, ROW, rfl, g1, g2, g3, g4, rfl⟩
        have b0 : (w.alloc (.cells ROW 37)).drew.heap[w.heap.size]? = some (.cells ROW 37 (0, 0)) := heap_alloc_new w _
        have b1 := heap_setCells vs (i * 3) _ _ b0 (by rw [hvl, g3]; omega)
        have b1' : (((w.alloc (.cells ROW 37)).drew.setCells w.heap.size (i * 3) vs).drew).heap[w.heap.size]? = _ := b1
        have b2 := heap_setCells (cs.drop (i * 3)) ((i + 1) * 3) _ _ b1' (by simp [hdl, g3, hvl]; omega)
        refine ⟨_, rfl, ⟨hall, .inr ⟨w.heap.size, G, _, rfl, hlo, b2, g1, g2, ?_, ?_⟩⟩, ?_⟩
        · simp [hdl, g3, hvl]; omega
        · have := mid_grow ROW.toList vs (cs.drop (i * 3)) (i * 3) ((n - i) * 3) (by simp [g3]; omega) hvl hdl
          rw [g4] at this
          simp only [hvl, hdl, List.toList_toArray]
          rw [show (n + 1) * 3 = i * 3 + 3 + (n - i) * 3 by omega, show (i + 1) * 3 = i * 3 + 3 by omega]
          simpa [g4] using this
        · exact Fr.setCells _ _ _ _ (Fr.setCells vs (i * 3) _ _ ((Fr.refl lo [37] w).alloc _).drew b0 hlo (List.mem_singleton.2 rfl)).drew b1' hlo (List.mem_singleton.2 rfl)

end Go.Proofs.YtjgbconlpolddaaGreat
