/- The reference's l21Copy. -/
import Derived.Test.YtkcpecihgldflaaSpecShard
namespace Go.Proofs.Ytkcpecihgldflaa
open Go.RowKit
set_option linter.unusedVariables false

theorem infoU : (Try.prog.info? 39).map (fun i => (i.zero, i.size, i.bytes)) = some (some (.agg #[.int .i64 0, .int .i64 0, .int .i64 0]), 3, 24) := by kernel_rfl
theorem infoR : (Try.prog.info? 72).map (fun i => (i.zero, i.size, i.bytes)) = some (some (.agg #[.int .i64 0, .int .i64 0, .slice none 0 0]), 3, 40) := by kernel_rfl

theorem oneU (us : List Upd) : ∀ u ∈ us.flatMap encU, u.oneCell' = true := by
  intro u hu
  obtain ⟨x, _, hx⟩ := List.mem_flatMap.1 hu
  simp [encU] at hx
  rcases hx with rfl | rfl | rfl <;> rfl



/-- Records in a row of the call's own. -/
def RecsOwn (lo : Nat) (w : World) (v : Value) (rs : List Rc) : Prop :=
  ∃ zs : List (Rc × Value), zs.map (·.1) = rs ∧ w.ownsRow lo 72 3 v rs.length (zs.flatMap encR) ∧ ∀ z ∈ zs, UpsR (new lo) w z.2 z.1.ups

theorem RecsOwn.reads {lo : Nat} {w : World} {v : Value} {rs : List Rc} (h : RecsOwn lo w v rs) : RecsR (new lo) w v rs := by
  obtain ⟨zs, h1, h2, h3⟩ := h
  exact ⟨zs, h1, SlR.ofOwns h2, h3⟩

theorem RecsOwn.keep {lo B : Nat} {T : List Nat} {w w' : World} {v : Value} {rs : List Rc} (h : RecsOwn lo w v rs) (hf : Fr B T w w') (h1 : 72 ∉ T) (h2 : 39 ∉ T) : RecsOwn lo w' v rs := by
  obtain ⟨zs, g1, g2, g3⟩ := h
  exact ⟨zs, g1, ownsRow_keep g2 hf h1, fun z hz => (g3 z hz).keep hf (Safe.new h2)⟩

theorem RecsOwn.grow {lo B : Nat} {w w' : World} {v : Value} {rs : List Rc} (h : RecsOwn lo w v rs) (hf : Fr B [] w w') : RecsOwn lo w' v rs := h.keep hf (by simp) (by simp)

theorem RecsOwn.lower {lo lo' : Nat} {w : World} {v : Value} {rs : List Rc} (h : RecsOwn lo w v rs) (hl : lo' ≤ lo) : RecsOwn lo' w v rs := by
  obtain ⟨zs, g1, g2, g3⟩ := h
  exact ⟨zs, g1, ownsRow_lo g2 hl, fun z hz => (g3 z hz).weak fun b t _ hb => new_le hl b t hb⟩

theorem RecsOwn.nil (lo : Nat) (w : World) : RecsOwn lo w (.slice none 0 0) [] := ⟨[], rfl, World.ownsRow_nil _ _ _ _, fun z hz => by cases hz⟩

theorem RecsOwn.empty {w : World} {n : Nat} (h : n = w.heap.size) : RecsOwn n (w.alloc (.cells #[] 72)) (.slice (some ⟨n, 0, none⟩) 0 0) [] := by
  subst h
  exact ⟨[], rfl, World.ownsRow_made w #[] 0 (Nat.le_refl _) (by decide) (by simp), fun z hz => by cases hz⟩

theorem UpsR.one {K : Nat → Bool → Prop} {w : World} {v : Value} {us : List Upd} (h : UpsR K w v us) : v.oneCell' = true := by
  obtain ⟨a, cap, rfl, _⟩ := h
  rfl

theorem oneR {K : Nat → Bool → Prop} {w : World} {v : Value} {us : List Upd} (h : UpsR K w v us) (k t : Int) : ∀ u ∈ [Value.int .i64 k, .int .i64 t, v], u.oneCell' = true := by
  intro u hu
  simp at hu
  rcases hu with rfl | rfl | rfl
  · rfl
  · rfl
  · exact h.one

/-- A record has been pushed. -/
theorem RecsOwn.snoc {lo n : Nat} {w' : World} {v' : Value} {rs : List Rc} {r : Rc} {u : Value} {zs : List (Rc × Value)} (g1 : zs.map (·.1) = rs) (g3 : ∀ z ∈ zs, UpsR (new lo) w' z.2 z.1.ups)
    (hu : UpsR (new lo) w' u r.ups) (hn : n = rs.length) (hown : w'.ownsRow lo 72 3 v' (n + 1) (zs.flatMap encR ++ [.int .i64 r.kind, .int .i64 r.txn, u])) : RecsOwn lo w' v' (rs ++ [r]) := by
  subst hn
  refine ⟨zs ++ [(r, u)], by simp [g1], ?_, fun z hz => ?_⟩
  · rw [List.flatMap_append, List.length_append]
    simpa [encR] using hown
  · rcases List.mem_append.1 hz with hz | hz
    · exact g3 z hz
    · simp at hz; subst hz; exact hu

theorem UpsR.ofOwn {lo lo' n : Nat} {w : World} {v : Value} {us : List Upd} (h : w.ownsRow lo 39 3 v n (us.flatMap encU)) (hn : n = us.length) (hl : lo' ≤ lo) : UpsR (new lo') w v us := by
  subst hn
  exact (SlR.ofOwns h).weak fun b t _ hb => new_le hl b t hb


set_option maxRecDepth 20000 in
set_option maxHeartbeats 2000000 in
theorem l21Copy_any (K : Nat → Bool → Prop) (v : Value) (rs : List Rc) (w : World) (hv : RecsR K w v rs) (hs : Small rs) :
    Calls Try.prog 46 #[.agg #[v]] w fun e w' => ∃ v', e = .returned (.agg #[v']) ∧ RecsOwn w.heap.size w' v' rs ∧ Fr w.heap.size [] w w' := by
  obtain ⟨a, cap, rfl, hcap, hcell⟩ := hv.shape
  obtain ⟨iu, hui, huz0, huz1, huz2⟩ := info_parts infoU
  obtain ⟨ir, hri, hrz0, hrz1, hrz2⟩ := info_parts infoR
  have HS := hid hs
  have hsl := hs.1
  clear hs
  go_enter Try.func46, Try.ntmps46
  go_wp2
  go_loopw [4] (fun i wr => ∃ (k : Nat) (u : Value), k ≤ rs.length ∧ i = .int .i64 k ∧ wr.heap[w.heap.size]? = some (.cells #[.slice a rs.length cap] 25 (0, 0)) ∧ wr.heap[w.heap.size + 1]? = some (.cells #[.slice none 0 0] 25 (0, 0)) ∧
      wr.heap[w.heap.size + 1 + 1 + 1]? = some (.cells #[u] 25 (0, 0)) ∧ RecsOwn w.heap.size wr u (rs.take k) ∧ Fr w.heap.size [] w wr) (fun i _ => rs.length - (intOf i).toNat)
  case atStart => exact ⟨0, _, Nat.zero_le _, rfl, heap_up (heap_up (heap_up (heap_alloc_new w _) _) _) _, heap_up (heap_up (heap_alloc_eq _ _ (by simp)) _) _, heap_alloc_eq _ _ (by simp),
      ((RecsOwn.empty (w := (w.alloc (.cells #[.slice a rs.length cap] 25)).alloc (.cells #[.slice none 0 0] 25)) (n := w.heap.size + 1 + 1) (by simp)).lower (lo' := w.heap.size) (by omega)).grow ((Fr.refl 0 [] _).alloc _), ((((Fr.refl _ _ _).alloc _).alloc _).alloc _).alloc _⟩
  case round =>
    obtain ⟨k, u, hk, rfl, b0, b1, b2, hown, hfr⟩ := hrel
    have B0 := hid b0
    have B1 := hid b1
    have B2 := hid b2
    have OWN := hid hown
    have c0 := cell_of (o := 0) b0 rfl
    have c1 := cell_of (o := 0) b1 rfl
    have f1 := free_of (o := 0) b1
    have c2 := cell_of (o := 0) b2 rfl
    have f2 := free_of (o := 0) b2
    clear b0 b1 b2 hown
    by_cases hlt : k < rs.length
    · rcases hcell with rfl | ⟨b, off, rfl, hbs, hcell⟩
      · simp at hlt
      · obtain ⟨x, h0, h1, h2, h3⟩ := hcell k hlt
        obtain ⟨xa, xcap, rfl, hxc, -⟩ := h3.shape
        have k0 := hfr.cell hbs h0
        have k1 := hfr.cell hbs h1
        have k2 := hfr.cell hbs h2
        have H3 := hid h3
        have hul := HS.out.2 _ (List.getElem_mem hlt)
        have hbr : b < wr.heap.size := Nat.lt_of_lt_of_le hbs hfr.size
        clear h0 h1 h2 h3 hcell
        obtain ⟨zs, z1, z2, z3⟩ := id OWN.out
        have hzl : (rs.take k).length = k := by rw [List.length_take]; omega
        rw [hzl] at z2
        have Z1 := hid z1
        have Z2 := hid z2
        have Z3 := hid z3
        have hsz := hfr.size
        clear z1 z2 z3 hzl
        go_wp2_with (first
          | ((at_builtin; refine wpList_clone rfl (.tmp 20) (.tmp 22) 26 rfl 39 iu (.agg #[.int .i64 0, .int .i64 0, .int .i64 0]) 3 24 Try.underlying26 hui huz0 huz1 huz2 rfl (by decide) _ (by rfl) (by simp [World.setCell]) K 39 _ _ _ (by rfl) (H3.out.grow (hfr.alloc _)) (oneU _) (by unfold maxLen; omega) (by omega) ?_; intro v2 w2 own2 fr2); go_must (obtain ⟨va, vcap, rfl⟩ := own_any own2; have FW := hid (((Fr.refl wr.heap.size [] wr).alloc _).trans fr2.nil); have OWN2 := hid own2; have BR := fr2.keep _ _ (heap_alloc_new wr (.cells #[.int .i64 rs[k].kind, .int .i64 rs[k].txn, .slice xa rs[k].ups.length xcap] 72)) (.inr (by simp)); have p0 := cell_of (o := 0) BR rfl; have p1 := cell_of (o := 1) BR rfl; have p2 := cell_of (o := 2) BR rfl; have p3 := free_of (o := 2) BR; have HBR := hid BR; have D2 := hid (FW.out.keep _ _ B2.out (.inr (by simp))); have q2 := cell_of (o := 0) D2.out rfl; have q3 := free_of (o := 0) D2.out; have hs2 := FW.out.size; clear own2 fr2 BR c0 c1 c2 f1 f2 k0 k1 k2))
          | ((at_builtin; go_must (refine wpList_push rfl (.tmp 26) (.tmp 28) 23 rfl w.heap.size 72 ir (.agg #[.int .i64 0, .int .i64 0, .slice none 0 0]) 3 40 Try.underlying23 hri hrz0 hrz1 hrz2 rfl (by decide) _ _ _ (ownsRow_grow Z2.out (FW.out.setNew (p := ⟨wr.heap.size, 2, none⟩) (Nat.le_refl _) _)) rfl (oneR (UpsR.ofOwn OWN2.out rfl (Nat.le_refl _)) _ _) (by unfold maxLen; omega) (by omega) (by simp [World.setCell]; omega) (by rfl) _ (by rfl) (by simp [World.setCell]) ?_; intro v4 w4 own4 fr4 _)); go_must (obtain ⟨g4, cap4, rfl, _, _, _⟩ := own_shape own4 (by omega); have OWN4 := hid own4; have E2 := hid (fr4.keep _ _ (block_setne (p := ⟨wr.heap.size, 2, none⟩) D2.out (by have := lt_of_get B2.out; dsimp only; omega)) (.inr (by simp [otag]))); have r2 := cell_of (o := 0) E2.out rfl; have r3 := free_of (o := 0) E2.out; clear own4 p0 p1 p2 p3 q2 q3)))
        go_roundw
        case rel =>
          have FW3 := FW.out.setNew (p := ⟨wr.heap.size, 2, none⟩) (Nat.le_refl _) (.slice va rs[k].ups.length vcap)
          have F4 : Fr w.heap.size [72] wr w4 := FW3.nil.trans fr4
          have hu4 := (((UpsR.ofOwn OWN2.out rfl (show w.heap.size ≤ _ by simp; omega)).keep ((Fr.refl 0 [72] w2).setOld (p := ⟨wr.heap.size, 2, none⟩) HBR.out (Nat.zero_le _) (by simp [otag]) (.slice va rs[k].ups.length vcap)) (Safe.new (by simp))).keep fr4 (Safe.new (by simp)))
          have hown := RecsOwn.snoc (r := rs[k]) Z1.out (fun z hz => (Z3.out z hz).keep F4 (Safe.new (by simp))) hu4 (by rw [List.length_take]; omega) OWN4.out
          rw [← List.take_succ_eq_append_getElem hlt] at hown
          have l0 := lt_of_get B0.out
          have l1 := lt_of_get B1.out
          have FE := ((Fr.refl 0 [25] w4).setOld (p := ⟨w.heap.size + 1 + 1 + 1, 0, none⟩) E2.out (Nat.zero_le _) (by simp [otag]) (.slice (some ⟨g4, 0, none⟩) (k + 1) cap4))
          exact ⟨k + 1, _, by omega, by go_num, block_setne (fr4.keep _ _ (FW3.keep _ _ B0.out (.inr (by simp))) (.inr (by simp [otag]))) (by dsimp only; omega), block_setne (fr4.keep _ _ (FW3.keep _ _ B1.out (.inr (by simp))) (.inr (by simp [otag]))) (by dsimp only; omega), block_set E2.out 0 _,
            hown.keep FE (by simp) (by simp), ((hfr.trans FW3.nil).after fr4).setNew (by dsimp only; omega) _⟩
        case measure => simp [intOf]; omega
    · obtain rfl : k = rs.length := by omega
      have HTK := hid (show rs.take rs.length = rs from List.take_length)
      obtain ⟨ua, ucap, hua, _⟩ := OWN.out.reads.shape
      rw [HTK.out] at hua
      subst hua
      go_wp2
      have FT := ((Fr.refl 0 [25] wr).setOld (p := ⟨w.heap.size + 1, 0, none⟩) B1.out (Nat.zero_le _) (by simp [otag]) (.slice ua rs.length ucap))
      exact bodyPost_ret (v := .agg #[.slice ua rs.length ucap]) (by simp [results, Try.results46, go_sem, c1]) rfl ⟨_, rfl, by have := OWN.out; rw [HTK.out] at this; exact this.keep FT (by simp) (by simp), hfr.setNew (by dsimp only; omega) _⟩

end Go.Proofs.Ytkcpecihgldflaa
