/- The program's linkPack. -/
import Derived.Test.YtjgbconlpolddaaGreatQPkPackI
set_option linter.unusedVariables false
set_option linter.unusedSimpArgs false
namespace Go.Proofs.YtjgbconlpolddaaGreat
open Go.RowKit
set_option linter.unusedVariables false

/-- Whether the bases of the first k entries come earlier. -/
def linkTo (es : List En) : Nat → Bool
  | 0 => true
  | k + 1 => linkTo es k && (match es[k]? with
    | some e => inR e.base (-1) ((k : Int) - 1)
    | none => true)

def linkOk (es : List En) : Bool := linkTo es es.length

theorem linkTo_false {es : List En} {k : Nat} (hk : k < es.length) (h : inR es[k].base (-1) ((k : Int) - 1) = false) : ∀ n, k < n → linkTo es n = false := by
  intro n hn
  induction n with
  | zero => omega
  | succ n ih =>
    unfold linkTo
    by_cases e : k = n
    · subst e; rw [List.getElem?_eq_getElem hk]; simp [h]
    · rw [ih (by omega)]; rfl

theorem linkTo_at {es : List En} {n : Nat} (h : linkTo es n = true) : ∀ k (hk : k < n) (hl : k < es.length), -1 ≤ es[k].base ∧ es[k].base ≤ (k : Int) - 1 := by
  induction n with
  | zero => intro k hk; omega
  | succ n ih =>
    intro k hk hl
    simp only [linkTo, Bool.and_eq_true] at h
    by_cases e : k = n
    · subst e
      rw [List.getElem?_eq_getElem hl] at h
      exact inR_iff.1 h.2
    · exact ih h.1 k (by omega) hl

/-- The node of an entry: the entry, its base's node, its text. -/
def NodeL (K : Nat → Bool → Prop) (w : World) (bs : List Nat) (j : Nat) (e : En) (t : Tx) : Prop :=
  ∃ u p, w.heap[bs.getD j 0]? = some (.cells #[.int .i64 e.kind, u, .int .i64 e.base, p, ptrOf bs e.base, .string (tx t)] 72 (0, 0)) ∧ IntsR K w u e.links ∧ OpsR K w p e.ops

theorem NodeL.keep {K : Nat → Bool → Prop} {B : Nat} {T : List Nat} {w w' : World} {bs : List Nat} {j : Nat} {e : En} {t : Tx} (h : NodeL K w bs j e t) (hf : Fr B T w w') (h1 : 72 ∉ T) (h2 : Safe K B T 3) (h3 : Safe K B T 91) : NodeL K w' bs j e t := by
  obtain ⟨u, p, g1, g2, g3⟩ := h
  exact ⟨u, p, hf.keep _ _ g1 (.inr (by simpa [otag] using h1)), g2.keep hf h2, g3.keep hf h3⟩

theorem NodeL.grow {K : Nat → Bool → Prop} {B : Nat} {w w' : World} {bs : List Nat} {j : Nat} {e : En} {t : Tx} (h : NodeL K w bs j e t) (hf : Fr B [] w w') : NodeL K w' bs j e t := by
  obtain ⟨u, p, g1, g2, g3⟩ := h
  exact ⟨u, p, hf.keep _ _ g1 (.inr (by simp)), g2.grow hf, g3.grow hf⟩

theorem ptrOf_snoc {bs : List Nat} {x : Nat} {b : Int} (h : b < bs.length) : ptrOf (bs ++ [x]) b = ptrOf bs b := by
  unfold ptrOf
  split
  · rfl
  · have : (bs ++ [x]).getD b.toNat 0 = bs.getD b.toNat 0 := by
      rw [List.getD_eq_getElem?_getD, List.getD_eq_getElem?_getD, List.getElem?_append_left (by omega)]
    rw [this]

theorem getD_snoc {bs : List Nat} {x j : Nat} (h : j < bs.length) : (bs ++ [x]).getD j 0 = bs.getD j 0 := by
  rw [List.getD_eq_getElem?_getD, List.getD_eq_getElem?_getD, List.getElem?_append_left h]

theorem getD_last {bs : List Nat} {x : Nat} : (bs ++ [x]).getD bs.length 0 = x := by
  rw [List.getD_eq_getElem?_getD, List.getElem?_append_right (Nat.le_refl _)]; simp

theorem NodeL.snoc {K : Nat → Bool → Prop} {w : World} {bs : List Nat} {x j : Nat} {e : En} {t : Tx} (h : NodeL K w bs j e t) (hj : j < bs.length) (hb : e.base < bs.length) : NodeL K w (bs ++ [x]) j e t := by
  obtain ⟨u, p, g1, g2, g3⟩ := h
  exact ⟨u, p, by rw [getD_snoc hj, ptrOf_snoc hb]; exact g1, g2, g3⟩

/-- The nodes of the first k entries: each block above the one before. -/
structure Linked (K : Nat → Bool → Prop) (lo : Nat) (w : World) (v : Value) (bs : List Nat) (es : List En) (k : Nat) : Prop where
  len : bs.length = k
  row : w.ownsRow lo 67 1 v k (bs.map fun b => .pointer (some ⟨b, 0, none⟩))
  node : ∀ j (hj : j < es.length), j < k → NodeL K w bs j es[j] []
  lo : ∀ j, j < k → lo ≤ bs.getD j 0 ∧ bs.getD j 0 < w.heap.size
  inc : ∀ i j, i < j → j < k → bs.getD i 0 < bs.getD j 0

theorem Linked.grow {K : Nat → Bool → Prop} {lo : Nat} {w w' : World} {v : Value} {bs : List Nat} {es : List En} {k B : Nat} (h : Linked K lo w v bs es k) (hf : Fr B [] w w') : Linked K lo w' v bs es k :=
  ⟨h.len, ownsRow_grow h.row hf, fun j hj hk => (h.node j hj hk).grow hf, fun j hj => ⟨(h.lo j hj).1, Nat.lt_of_lt_of_le (h.lo j hj).2 hf.size⟩, h.inc⟩

theorem Linked.snoc {K : Nat → Bool → Prop} {lo : Nat} {w w' : World} {v v' : Value} {bs : List Nat} {es : List En} {k N : Nat} {u p : Value} (h : Linked K lo w v bs es k) (hlo : lo ≤ w.heap.size) (hf : Fr lo [67] w w') (hKi : Safe K lo [67] 3) (hKo : Safe K lo [67] 91) (hk : k < es.length)
    (hall : ∀ j (hj : j < es.length), j < k → es[j].base ≤ (j : Int) - 1) (hN : w.heap.size ≤ N) (hb : es[k].base ≤ (k : Int) - 1)
    (hn : w'.heap[N]? = some (.cells #[.int .i64 es[k].kind, u, .int .i64 es[k].base, p, ptrOf bs es[k].base, .string (tx [])] 72 (0, 0))) (hu : IntsR K w' u es[k].links) (hp : OpsR K w' p es[k].ops)
    (hr : w'.ownsRow lo 67 1 v' (k + 1) ((bs.map fun b => .pointer (some ⟨b, 0, none⟩)) ++ [.pointer (some ⟨N, 0, none⟩)])) : Linked K lo w' v' (bs ++ [N]) es (k + 1) := by
  have hl := h.len
  refine ⟨by simp [hl], by rw [List.map_append]; exact hr, fun j hj hk' => ?_, fun j hj => ?_, fun i j hij hj => ?_⟩
  · by_cases e : j < k
    · exact ((h.node j hj e).keep hf (by simp) hKi hKo).snoc (by omega) (by have := hall j hj e; omega)
    · obtain rfl : j = k := by omega
      refine ⟨u, p, ?_, hu, hp⟩
      rw [ptrOf_snoc (by omega)]
      have : (bs ++ [N]).getD j 0 = N := by rw [← hl]; exact getD_last
      rw [this]; exact hn
  · by_cases e : j < k
    · rw [getD_snoc (by omega)]
      exact ⟨(h.lo j e).1, Nat.lt_of_lt_of_le (h.lo j e).2 hf.size⟩
    · obtain rfl : j = k := by omega
      have : (bs ++ [N]).getD j 0 = N := by rw [← hl]; exact getD_last
      rw [this]
      exact ⟨by omega, lt_of_get hn⟩
  · by_cases e : j < k
    · rw [getD_snoc (by omega), getD_snoc (by omega)]; exact h.inc i j hij e
    · obtain rfl : j = k := by omega
      have : (bs ++ [N]).getD j 0 = N := by rw [← hl]; exact getD_last
      rw [this, getD_snoc (by omega)]
      have := (h.lo i hij).2
      omega

set_option maxRecDepth 20000 in
set_option maxHeartbeats 4000000 in
theorem linkPack_any (K : Nat → Bool → Prop) (v : Value) (es : List En) (w : World) (hv : EnsR K w v es) (hl : es.length ≤ 1000) (hKi : Safe K w.heap.size [67] 3) (hKo : Safe K w.heap.size [67] 91) :
    Calls Tryz.prog 33 #[v] w fun e w' => Fr w.heap.size [] w w' ∧ ((linkOk es = false ∧ e = .returned (.tuple #[.slice none 0 0, .bool false])) ∨ (linkOk es = true ∧ ∃ v' bs, e = .returned (.tuple #[v', .bool true]) ∧ Linked K w.heap.size w' v' bs es es.length)) := by
  obtain ⟨a, cap, rfl, hcap, hcell⟩ := hv.shape
  have HV := hid hv
  obtain ⟨ipp, hpi, hpz0, hpz1, hpz2⟩ := info_parts infoPp
  clear hv
  go_enter Tryz.func33, Tryz.ntmps33
  go_wp2
  go_loopw [4, 10] (fun vn vi wx => ∃ (k : Nat) (bs : List Nat), k ≤ es.length ∧ vi = .int .i64 k ∧ linkTo es k = true ∧ Linked K w.heap.size wx vn bs es k ∧ Fr w.heap.size [] w wx) (fun _ vi _ => es.length - (intOf vi).toNat)
  case atStart => exact ⟨0, [], Nat.zero_le _, rfl, rfl, ⟨rfl, World.ownsRow_nil _ _ _ _, fun j _ hj => absurd hj (Nat.not_lt_zero _), fun j hj => absurd hj (Nat.not_lt_zero _), fun i j _ hj => absurd hj (Nat.not_lt_zero _)⟩, Fr.refl _ _ _⟩
  case round =>
    obtain ⟨k, bs, hk, rfl, hto, hlk, hfr⟩ := hrel
    obtain ⟨na, ncap, rfl⟩ := own_any hlk.row
    have TO := hid hto
    have LK := hid hlk
    have hls := hfr.size
    have hbl := hlk.len
    clear hto hlk
    by_cases hlt : k < es.length
    · rcases hcell with hh | ⟨b, off, rfl, hbs, hcell⟩
      · rw [hh] at hlt; cases hlt
      · obtain ⟨u, p, h0, h1, h2, h3, hu, hp⟩ := hcell k hlt
        obtain ⟨ua, ucap, rfl, _, _⟩ := hu.shape
        obtain ⟨pa, pcap, rfl, _, _⟩ := hp.shape
        have c0 := hfr.cell hbs h0
        have c1 := hfr.cell hbs h1
        have c2 := hfr.cell hbs h2
        have c3 := hfr.cell hbs h3
        have HU := hid (hu.grow hfr)
        have HP := hid (hp.grow hfr)
        have hki : (k : Int) < (es.length : Int) := by omega
        clear h0 h1 h2 h3 hu hp hcell
        cases g1 : inR es[k].base (-1) ((k : Int) - 1)
        · have NO := hid (show linkOk es = false from linkTo_false hlt g1 _ (by omega))
          go_wp2_with (go_at_call 64; go_must (refine (inRange_any _ _ _ _).mono ?_; rintro e w1 ⟨rfl, rfl⟩; rw [g1]))
          go_ret2
          exact ⟨hfr.alloc _, .inl ⟨NO.out, rfl⟩⟩
        · have hb1 := (inR_iff.1 g1).1
          have hb2 := (inR_iff.1 g1).2
          have TO1 := hid (show linkTo es (k + 1) = true from by
            show (linkTo es k && _) = true
            rw [TO.out, List.getElem?_eq_getElem hlt]
            simpa using g1)
          go_upto_if 26 with (go_at_call 64; go_must (refine (inRange_any _ _ _ _).mono ?_; rintro e w1 ⟨rfl, rfl⟩; rw [g1]))
          go_cut [27] (fun _ wx => wx.heap[wr.heap.size + 1]? = some (.cells #[.int .i64 es[k].kind, .slice ua es[k].links.length ucap, .int .i64 es[k].base, .slice pa es[k].ops.length pcap, ptrOf bs es[k].base, .string (tx [])] 72 (0, 0)) ∧ Fr wr.heap.size [] wr wx)
          case first =>
            by_cases hneg : es[k].base < 0
            · have hge : ¬ (0 : Int) ≤ es[k].base := by omega
              have hpt : ptrOf bs es[k].base = .pointer none := by unfold ptrOf; rw [if_pos hneg]
              have HPT := hid hpt
              clear hpt
              go_wp2
              go_meet
              rw [HPT.out]
              exact ⟨heap_alloc_eq _ _ (by simp), ((Fr.refl _ _ _).alloc _).alloc _⟩
            · have hge : (0 : Int) ≤ es[k].base := by omega
              have hpt : ptrOf bs es[k].base = .pointer (some ⟨bs.getD es[k].base.toNat 0, 0, none⟩) := by unfold ptrOf; rw [if_neg hneg]
              have HPT := hid hpt
              clear hpt
              have hlt2 : es[k].base < (k : Int) := by omega
              obtain ⟨g, gcap, hng, hg1, hg2, _⟩ := own_shape LK.out.row (by omega)
              cases hng
              have hcn := LK.out.row.cellAt es[k].base.toNat (by omega)
              have hbj : bs[es[k].base.toNat]? = some (bs.getD es[k].base.toNat 0) := by
                rw [List.getD_eq_getElem?_getD, List.getElem?_eq_getElem (by omega)]; rfl
              rw [List.getElem?_map, hbj] at hcn
              simp only [Option.map_some] at hcn
              go_wp2
              go_meet
              rw [HPT.out]
              have hgd : bs.getD es[k].base.toNat 0 = bs[es[k].base.toNat]'(by omega) := by rw [List.getD_eq_getElem?_getD, List.getElem?_eq_getElem (by omega)]; rfl
              rw [hgd]
              exact ⟨heap_alloc_eq _ _ (by simp), ((Fr.refl _ _ _).alloc _).alloc _⟩
          case rest =>
            obtain ⟨hnb, hfc⟩ := hcut
            obtain ⟨W2, rfl⟩ : ∃ W : World, W = wc := ⟨_, rfl⟩
            have NB := hid hnb
            have FC := hid hfc
            have LK2 := hid (LK.out.grow hfc)
            have hsc := hfc.size
            clear hnb hfc
            go_wp2_with (at_builtin; go_must (refine wpList_push rfl (.tmp 35) (.tmp 37) 64 rfl w.heap.size 67 ipp (.pointer none) 1 8 Tryz.underlying64 hpi hpz0 hpz1 hpz2 rfl (by decide) _ _ _ LK2.out.row rfl (onePtr _) (by unfold maxLen; omega) (by omega) (by omega) (by rfl) _ (by rfl) (by simp [World.setCell]) ?_; intro v7 w7 own7 fr7 _; have OWN7 := hid own7; have F7 := hid fr7; clear own7 fr7))
            have hto := TO.out
            have hN := lt_of_get NB.out
            go_roundw
            case rel =>
              exact ⟨k + 1, bs ++ [wr.heap.size + 1], by omega, by go_num, TO1.out, LK.out.snoc hls (((FC.out.nil (B' := w.heap.size) (T := [67]))).trans F7.out) hKi hKo hlt (fun j hj hjk => (linkTo_at hto j hjk hj).2) (by omega) hb2 (F7.out.keep _ _ NB.out (.inr (by simp [otag]))) ((HU.out.grow FC.out).keep F7.out hKi) ((HP.out.grow FC.out).keep F7.out hKo) OWN7.out, (hfr.trans FC.out.nil).after F7.out⟩
            case measure => simp [intOf]; omega
    · obtain rfl : k = es.length := by omega
      clear hcell
      go_wp2
      go_ret2
      exact ⟨hfr, .inr ⟨TO.out, _, bs, rfl, LK.out⟩⟩

end Go.Proofs.YtjgbconlpolddaaGreat
