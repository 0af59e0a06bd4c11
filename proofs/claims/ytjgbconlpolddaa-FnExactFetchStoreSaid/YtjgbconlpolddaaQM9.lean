/- Marks: the numbers and texts; frames by a range of blocks; rows in a range. -/
import Derived.Test.YtjgbconlpolddaaQExEq
import Derived.Laws.IdiomStrings
set_option linter.unusedVariables false
set_option linter.unusedSimpArgs false
namespace Go.Proofs.Ytjgbconlpolddaa
open Go.RowKit
set_option linter.unusedVariables false

/-- n numbers from k on. -/
def cnt (k : Nat) : Nat → List Int
  | 0 => []
  | n + 1 => cnt k n ++ [((k + n : Nat) : Int)]

theorem cnt_len (k n : Nat) : (cnt k n).length = n := by
  induction n with
  | zero => rfl
  | succ n ih => simp [cnt, ih]

theorem cnt_get (k : Nat) : ∀ (n i : Nat) (h : i < (cnt k n).length), (cnt k n)[i] = ((k + i : Nat) : Int) := by
  intro n
  induction n with
  | zero => intro i h; simp [cnt] at h
  | succ n ih =>
    intro i h
    have hl := cnt_len k n
    simp only [cnt]
    by_cases hi : i < n
    · rw [List.getElem_append_left (by omega)]
      exact ih i (by omega)
    · have : i = n := by rw [cnt_len] at h; omega
      subst this
      rw [List.getElem_append_right (by omega)]
      simp [hl]

/-- A number's digits. -/
def digs : Nat → Tx
  | 0 => []
  | n + 1 => digs ((n + 1) / 10) ++ [UInt8.ofNat (48 + (n + 1) % 10)]
decreasing_by omega

theorem digs_pos {k : Nat} (h : 0 < k) : digs k = digs (k / 10) ++ [UInt8.ofNat (48 + k % 10)] := by
  cases k with
  | zero => omega
  | succ n => rw [digs]

theorem digs_len (m : Nat) : ∀ k, k < 10 ^ m → (digs k).length ≤ m := by
  induction m with
  | zero => intro k hk; have : k = 0 := by simpa using hk
            subst this; simp [digs]
  | succ m ih =>
    intro k hk
    rcases Nat.eq_zero_or_pos k with rfl | h
    · simp [digs]
    · rw [digs_pos h, List.length_append]
      have := ih (k / 10) (by rw [Nat.pow_succ] at hk; omega)
      simp; omega

/-- The text of a mark. -/
def mkT (k : Nat) : Tx := if k = 0 then [109, 48] else 109 :: digs k

/-- From w to w' no block has changed but those from lo on, below hi. -/
structure Fi (lo hi : Nat) (w w' : World) : Prop where
  os : w'.os = w.os
  tape : w'.tape = w.tape
  output : w'.output = w.output
  size : w.heap.size ≤ w'.heap.size
  keep : ∀ (k : Nat) (o : Obj), w.heap[k]? = some o → k < lo ∨ hi ≤ k → w'.heap[k]? = some o

theorem Fi.refl (lo hi : Nat) (w : World) : Fi lo hi w w := ⟨rfl, rfl, rfl, Nat.le_refl _, fun _ _ h _ => h⟩

theorem Fi.trans {lo hi : Nat} {a b c : World} (h : Fi lo hi a b) (k : Fi lo hi b c) : Fi lo hi a c :=
  ⟨k.os.trans h.os, k.tape.trans h.tape, k.output.trans h.output, Nat.le_trans h.size k.size, fun x o ho hb => k.keep x o (h.keep x o ho hb) hb⟩

theorem Fi.ofFr {lo hi B : Nat} {w w' : World} (h : Fr B [] w w') : Fi lo hi w w' :=
  ⟨h.os, h.tape, h.output, h.size, fun x o ho _ => h.keep x o ho (.inr (by simp))⟩

theorem Fi.ofGrown {lo hi : Nat} {w w' : World} {row : Option Nat} (h : w.grownBy w' row) (hr : ∀ k, row = some k → lo ≤ k ∧ k < hi) : Fi lo hi w w' :=
  ⟨h.os, h.tape, h.output, h.size, fun x o ho hb => by
    rw [h.block x (lt_of_get ho) (fun e => by have := hr x e.symm; omega)]
    exact ho⟩

/-- Behind a frame from a: a change of nothing that a had. -/
theorem Fr.afterFi {B lo hi : Nat} {T : List Nat} {a w w' : World} (h : Fr B T a w) (h2 : Fi lo hi w w') (hl : a.heap.size ≤ lo) : Fr B T a w' :=
  ⟨h2.os.trans h.os, h2.tape.trans h.tape, h2.output.trans h.output, Nat.le_trans h.size h2.size, fun x o ho hb => h2.keep x o (h.keep x o ho hb) (.inl (Nat.lt_of_lt_of_le (lt_of_get ho) hl))⟩

theorem SlR.fi {K : Nat → Bool → Prop} {E sz n lo hi : Nat} {w w' : World} {v : Value} {cs : List Value} (h : SlR K E sz w v n cs) (hf : Fi lo hi w w') (hK : ∀ b t, K b t → b < lo ∨ hi ≤ b) : SlR K E sz w' v n cs := by
  obtain ⟨a, cap, h1, h2, h3, h4, h5⟩ := h
  refine ⟨a, cap, h1, h2, h3, h4, fun hn => ?_⟩
  obtain ⟨b, off, cur, e, fr, g1, g2, g3, g4⟩ := h5 hn
  exact ⟨b, off, cur, e, fr, g1, g2, hf.keep _ _ g3 (hK _ _ g2), g4⟩

theorem ObsR.fi {K : Nat → Bool → Prop} {lo hi : Nat} {w w' : World} {v : Value} {os : List Ob} (h : ObsR K w v os) (hf : Fi lo hi w w') (hK : ∀ b t, K b t → b < lo ∨ hi ≤ b) : ObsR K w' v os := by
  obtain ⟨zs, h1, h2, h3⟩ := h
  exact ⟨zs, h1, h2.fi hf hK, fun z hz => SlR.fi (h3 z hz) hf hK⟩

theorem EnsR.fi {K : Nat → Bool → Prop} {lo hi : Nat} {w w' : World} {v : Value} {es : List En} (h : EnsR K w v es) (hf : Fi lo hi w w') (hK : ∀ b t, K b t → b < lo ∨ hi ≤ b) : EnsR K w' v es := by
  obtain ⟨zs, h1, h2, h3⟩ := h
  exact ⟨zs, h1, h2.fi hf hK, fun z hz => ⟨SlR.fi (h3 z hz).1 hf hK, SlR.fi (h3 z hz).2 hf hK⟩⟩

theorem ownsRow_fi {lo E sz n l h : Nat} {w w' : World} {v : Value} {cs : List Value} (o : w.ownsRow lo E sz v n cs) (hf : Fi l h w w') (hb : ∀ b, v.ownBlock = some b → b < l ∨ h ≤ b) : w'.ownsRow lo E sz v n cs := by
  refine ⟨o.1, ?_⟩
  rcases o.2 with hn | ⟨g, cap, cur, rfl, hg, hgg, rest⟩
  · exact .inl hn
  · exact .inr ⟨g, cap, cur, rfl, hg, hf.keep _ _ hgg (hb g rfl), rest⟩

theorem ObsSep.fi {lo l h : Nat} {w w' : World} {v : Value} {os : List Ob} (o : ObsSep lo w v os) (hf : Fi l h w w') (hl : h ≤ lo) : ObsSep lo w' v os := by
  obtain ⟨zs, h1, h2, h3, h4⟩ := o
  exact ⟨zs, h1, ownsRow_fi h2 hf (fun b hb => .inr (by have := (h2.lt b hb).1; omega)), fun z hz => ownsRow_fi (h3 z hz) hf (fun b hb => .inr (by have := ((h3 z hz).lt b hb).1; omega)), h4⟩

theorem EnsSep.fi {lo l h : Nat} {w w' : World} {v : Value} {es : List En} (o : EnsSep lo w v es) (hf : Fi l h w w') (hl : h ≤ lo) : EnsSep lo w' v es := by
  obtain ⟨zs, h1, h2, h3, h4⟩ := o
  exact ⟨zs, h1, ownsRow_fi h2 hf (fun b hb => .inr (by have := (h2.lt b hb).1; omega)), fun z hz => ⟨ownsRow_fi (h3 z hz).1 hf (fun b hb => .inr (by have := ((h3 z hz).1.lt b hb).1; omega)), ownsRow_fi (h3 z hz).2 hf (fun b hb => .inr (by have := ((h3 z hz).2.lt b hb).1; omega))⟩, h4⟩

def Hi (hi : Nat) (v : Value) : Prop := ∀ b, v.ownBlock = some b → b < hi

/-- Objects in rows of their own, all below hi. -/
def ObsIn (lo hi : Nat) (w : World) (v : Value) (os : List Ob) : Prop :=
  ∃ zs : List (Ob × Value), zs.map (·.1) = os ∧ w.ownsRow lo 40 3 v os.length (zs.flatMap encOb) ∧ (∀ z ∈ zs, w.ownsRow lo 3 1 z.2 z.1.links.length (z.1.links.map (Value.int .i64))) ∧ zs.Pairwise (fun a b => Apart a.2 b.2) ∧ Hi hi v ∧ ∀ z ∈ zs, Hi hi z.2

theorem ObsIn.sep {lo hi : Nat} {w : World} {v : Value} {os : List Ob} (h : ObsIn lo hi w v os) : ObsSep lo w v os := by
  obtain ⟨zs, h1, h2, h3, h4, _⟩ := h
  exact ⟨zs, h1, h2, h3, h4⟩

theorem ObsSep.inn {lo : Nat} {w : World} {v : Value} {os : List Ob} (h : ObsSep lo w v os) : ObsIn lo w.heap.size w v os := by
  obtain ⟨zs, h1, h2, h3, h4⟩ := h
  exact ⟨zs, h1, h2, h3, h4, fun b hb => (h2.lt b hb).2, fun z hz b hb => ((h3 z hz).lt b hb).2⟩

theorem ObsIn.grow {lo hi B : Nat} {w w' : World} {v : Value} {os : List Ob} (h : ObsIn lo hi w v os) (hf : Fr B [] w w') : ObsIn lo hi w' v os := by
  obtain ⟨zs, h1, h2, h3, h4, h5, h6⟩ := h
  exact ⟨zs, h1, ownsRow_grow h2 hf, fun z hz => ownsRow_grow (h3 z hz) hf, h4, h5, h6⟩

def EnsIn (lo hi : Nat) (w : World) (v : Value) (es : List En) : Prop :=
  ∃ zs : List (En × (Value × Value)), zs.map (·.1) = es ∧ w.ownsRow lo 32 4 v es.length (zs.flatMap encEn) ∧ (∀ z ∈ zs, w.ownsRow lo 3 1 z.2.1 z.1.links.length (z.1.links.map (Value.int .i64)) ∧ w.ownsRow lo 109 3 z.2.2 z.1.ops.length (z.1.ops.flatMap encOp)) ∧ zs.Pairwise (fun a b => Apart a.2.1 b.2.1 ∧ Apart a.2.2 b.2.2) ∧ Hi hi v ∧ ∀ z ∈ zs, Hi hi z.2.1 ∧ Hi hi z.2.2

theorem EnsSep.inn {lo : Nat} {w : World} {v : Value} {es : List En} (h : EnsSep lo w v es) : EnsIn lo w.heap.size w v es := by
  obtain ⟨zs, h1, h2, h3, h4⟩ := h
  exact ⟨zs, h1, h2, h3, h4, fun b hb => (h2.lt b hb).2, fun z hz => ⟨fun b hb => ((h3 z hz).1.lt b hb).2, fun b hb => ((h3 z hz).2.lt b hb).2⟩⟩

theorem EnsIn.grow {lo hi B : Nat} {w w' : World} {v : Value} {es : List En} (h : EnsIn lo hi w v es) (hf : Fr B [] w w') : EnsIn lo hi w' v es := by
  obtain ⟨zs, h1, h2, h3, h4, h5, h6⟩ := h
  exact ⟨zs, h1, ownsRow_grow h2 hf, fun z hz => ⟨ownsRow_grow (h3 z hz).1 hf, ownsRow_grow (h3 z hz).2 hf⟩, h4, h5, h6⟩

theorem grown_trans {a b c : World} {row : Option Nat} (h : a.grownBy b row) (k : b.grownBy c row) : a.grownBy c row :=
  ⟨k.os.trans h.os, k.tape.trans h.tape, k.output.trans h.output, Nat.le_trans h.size k.size, fun x hx hne => by rw [k.block x (Nat.lt_of_lt_of_le hx h.size) hne, h.block x hx hne]⟩

theorem grown_fr {a b : World} {B : Nat} {row : Option Nat} (h : Fr B [] a b) : a.grownBy b row :=
  ⟨h.os, h.tape, h.output, h.size, fun x hx _ => by
    have hs : a.heap[x]? = some (a.heap[x]'hx) := Array.getElem?_eq_getElem hx
    rw [hs]
    exact h.keep x _ hs (.inr (by simp))⟩

end Go.Proofs.Ytjgbconlpolddaa

/- The marks of numbers and texts. -/
namespace Go.Proofs.Ytjgbconlpolddaa
open Go.RowKit
set_option linter.unusedVariables false

/-- string([]byte{byte('0' + d)}). -/
theorem conv_dig (w : World) (d : Nat) (hd : d < 10) : (convert 22 9 (.slice (some ⟨w.heap.size, 0, none⟩) 1 1)).run Try.prog (w.alloc (.cells #[.int .u8 (48 + (d : Int))] 5)) = .ok (.string (tx [UInt8.ofNat (48 + d)])) (w.alloc (.cells #[.int .u8 (48 + (d : Int))] 5)) := by
  have hb : (UInt8.ofNat (48 + d)).toNat = 48 + d := by rw [UInt8.toNat_ofNat']; omega
  refine run_convert_bytes_back (P := Try.prog) (w.alloc (.cells #[.int .u8 (48 + (d : Int))] 5)) 22 9 5 ⟨w.heap.size, 0, none⟩ 1 [UInt8.ofNat (48 + d)] Try.underlying22 Try.underlying5 Try.underlying9 (fun j hj => ?_)
  have hj0 : j = 0 := by simpa using hj
  subst hj0
  have hc := cell_of (o := 0) (heap_alloc_new w (.cells #[.int .u8 (48 + (d : Int))] 5)) rfl
  show (w.alloc (.cells #[.int .u8 (48 + (d : Int))] 5)).cell? ⟨w.heap.size, 0, none⟩ = some (.int .u8 (((UInt8.ofNat (48 + d)).toNat : Nat) : Int))
  rw [hb, hc]
  simp

set_option maxRecDepth 20000 in
set_option maxHeartbeats 2000000 in
theorem markText_any (k0 : Nat) (w : World) (hk0 : k0 ≤ 1000000000000000000) :
    Calls Try.prog 68 #[.int .i64 k0] w fun e w' => e = .returned (.string (tx (mkT k0))) ∧ Fr w.heap.size [] w w' := by
  rcases Nat.eq_zero_or_pos k0 with rfl | hp
  · have h0 : ((0 : Nat) : Int) = 0 := rfl
    rw [h0]
    go_enter Try.func68, Try.ntmps68
    go_wp2
    go_ret
    exact ⟨rfl, Fr.refl _ _ _⟩
  · have hpi : ¬ (k0 : Int) ≤ 0 := by omega
    have hne : ¬ k0 = 0 := by omega
    have hdl := digs_len 19 k0 (by omega)
    have DL := hid hdl
    clear hdl
    go_enter Try.func68, Try.ntmps68
    go_wp2
    go_loopw [0, 3] (fun vk vo wx => ∃ (k : Nat) (out : Tx), vk = .int .i64 k ∧ vo = .string (tx out) ∧ k ≤ k0 ∧ digs k0 = digs k ++ out ∧ Fr w.heap.size [] w wx) (fun vk _ _ => (intOf vk).toNat)
    case atStart => exact ⟨k0, [], rfl, rfl, Nat.le_refl _, by simp, Fr.refl _ _ _⟩
    case round =>
      obtain ⟨k, out, rfl, rfl, hk, hd, hfr⟩ := hrel
      have HD := hid hd
      have hol : out.length ≤ 19 := by have := congrArg List.length hd; rw [List.length_append] at this; have := DL.out; omega
      clear hd
      rcases Nat.eq_zero_or_pos k with rfl | hkp
      · have h0 : ((0 : Nat) : Int) = 0 := rfl
        rw [h0]
        have hap := tx_append [109] out
        have hs1 := tx_size [109]
        have hs2 := tx_size out
        have e109 : (⟨#[109]⟩ : ByteArray) = tx [109] := rfl
        have HT := hid (show tx ([109] ++ out) = tx (mkT k0) by
          have h := HD.out
          unfold mkT
          rw [if_neg hne, h]
          simp [digs])
        go_wp2
        go_ret
        exact ⟨by rw [← HT.out]; rfl, hfr⟩
      · have hki : (0 : Int) < (k : Int) := by omega
        have hm1 : 0 ≤ (k : Int) % 10 := by omega
        have hm2 : (k : Int) % 10 < 10 := by omega
        have hm3 : 0 ≤ (k : Int) / 10 := by omega
        have hcv := conv_dig wr (k % 10) (by omega)
        rw [show ((k % 10 : Nat) : Int) = (k : Int) % 10 by omega] at hcv
        have HN := hid (show digs k0 = digs (k / 10) ++ ([UInt8.ofNat (48 + k % 10)] ++ out) by rw [HD.out, digs_pos hkp, List.append_assoc])
        generalize UInt8.ofNat (48 + k % 10) = b6 at *
        have hap := tx_append [b6] out
        have hs1 := tx_size [b6]
        have hs2 := tx_size out
        have hsum : 1 + out.length ≤ 9223372036854775807 := by omega
        go_wp2
        go_roundw
        case rel => exact ⟨k / 10, _, by go_num, rfl, by omega, HN.out, hfr.alloc _⟩
        case measure => simp [intOf]; omega

set_option maxRecDepth 20000 in
set_option maxHeartbeats 2000000 in
theorem markInts_any (lo : Nat) (v : Value) (n k0 : Nat) (cs : List Value) (w : World) (hv : w.ownsRow lo 3 1 v n cs) (hn : n ≤ 1048576) (hk0 : k0 ≤ 1000000000000000000) :
    Calls Try.prog 67 #[v, .int .i64 k0] w fun e w' => e = .returned (.int .i64 ((k0 + n : Nat) : Int)) ∧ w'.ownsRow lo 3 1 v n ((cnt k0 n).map (Value.int .i64)) ∧ w.grownBy w' v.ownBlock := by
  rcases Nat.eq_zero_or_pos n with rfl | hp
  · obtain ⟨a, cap, rfl⟩ := own_any hv
    have hcs : cs = [] := List.eq_nil_of_length_eq_zero (by simpa using hv.1)
    subst hcs
    have HV := hid hv
    clear hv
    go_enter Try.func67, Try.ntmps67
    go_wp2
    go_loopw [1, 5] (fun vk vi wx => vk = .int .i64 k0 ∧ vi = .int .i64 0 ∧ wx = w) (fun _ _ _ => 0)
    case atStart => exact ⟨rfl, rfl, rfl⟩
    case round =>
      obtain ⟨rfl, rfl, rfl⟩ := hrel
      go_wp2
      go_ret
      exact ⟨rfl, HV.out, World.grownBy.refl _ _⟩
  · obtain ⟨g, cap, rfl, hg, hgs, hnc⟩ := own_shape hv hp
    have H0 := hid (HalfRow.start hv)
    clear hv
    go_enter Try.func67, Try.ntmps67
    go_wp2
    go_loopw [1, 5] (fun vk vi wx => ∃ i : Nat, i ≤ n ∧ vi = .int .i64 i ∧ vk = .int .i64 ((k0 + i : Nat) : Int) ∧ HalfRow lo 3 1 wx (.slice (some ⟨g, 0, none⟩) n cap) n ((cnt k0 i).map (Value.int .i64)) ∧ w.grownBy wx (some g)) (fun _ vi _ => n - (intOf vi).toNat)
    case atStart => exact ⟨0, Nat.zero_le _, rfl, rfl, H0.out, World.grownBy.refl _ _⟩
    case round =>
      obtain ⟨i, hi, rfl, rfl, hh, hgr⟩ := hrel
      have HH := hid hh
      have GR := hid hgr
      clear hh hgr
      by_cases hlt : i < n
      · have hki : (i : Int) < (n : Int) := by omega
        have hcl := cnt_len k0 i
        obtain ⟨u0, d0⟩ := HH.out.cell (j := i) (by omega)
        have f0 := HH.out.free i
        have NX := hid (HH.out.next (j := i) (by simp [hcl]) (by omega) (.int .i64 ((k0 + i : Nat) : Int)))
        have EQ := hid (show (cnt k0 i).map (Value.int .i64) ++ [.int .i64 ((k0 + i : Nat) : Int)] = (cnt k0 (i + 1)).map (Value.int .i64) by simp [cnt])
        clear hcl
        go_wp2
        go_roundw
        case rel => exact ⟨i + 1, by omega, by go_num, by go_num, by rw [← EQ.out]; exact NX.out.1, grown_trans GR.out NX.out.2.1⟩
        case measure => simp [intOf]; omega
      · obtain rfl : i = n := by omega
        have OW := hid (HH.out.all (by simp [cnt_len]))
        go_wp2
        go_ret
        exact ⟨rfl, OW.out, GR.out⟩

/-- Which cells of operations: some operations of the same number. -/
theorem op_set (ops : List Opn) (i : Nat) (hi : i < ops.length) (j : Nat) (x : Value) (o : Opn) (hj : j < 3) (hx : (encOp ops[i]).set j x = encOp o) : (ops.flatMap encOp).set (i * 3 + j) x = (ops.set i o).flatMap encOp := by
  induction ops generalizing i with
  | nil => simp at hi
  | cons z zs ih =>
    cases i with
    | zero =>
      simp only [List.getElem_cons_zero] at hx
      simp only [List.flatMap_cons, List.set_cons_zero, Nat.zero_mul, Nat.zero_add]
      rw [List.set_append_left _ _ (by simp [encOp]; omega), hx]
    | succ i =>
      have e1 : (i + 1) * 3 + j = (encOp z).length + (i * 3 + j) := by simp [encOp]; omega
      simp only [List.flatMap_cons, List.set_cons_succ]
      rw [e1, List.set_append_right _ _ (by omega), Nat.add_sub_cancel_left, ih i (by simpa using hi) (by simpa using hx)]

theorem opsRow_set {lo g cap n : Nat} {w : World} {ops : List Opn} (h : w.ownsRow lo 109 3 (.slice (some ⟨g, 0, none⟩) n cap) n (ops.flatMap encOp)) (hn : ops.length = n) {i j : Nat} (hi : i < n) (hj : j < 3) (x : Value) (o : Opn) (hx : (encOp (ops[i]'(by omega))).set j x = encOp o) :
    (∃ u, w.cell? ⟨g, i * 3 + j, none⟩ = some u) ∧ w.frozen? ⟨g, i * 3 + j, none⟩ = false ∧ (w.setCell ⟨g, i * 3 + j, none⟩ x).ownsRow lo 109 3 (.slice (some ⟨g, 0, none⟩) n cap) n ((ops.set i o).flatMap encOp) ∧ w.grownBy (w.setCell ⟨g, i * 3 + j, none⟩ x) (some g) := by
  have hl := fmOp_len ops
  obtain ⟨s1, s2⟩ := h.stored (i * 3 + j) x
  refine ⟨⟨(ops.flatMap encOp)[i * 3 + j]'(by omega), ?_⟩, h.frozenAt _, ?_, s2⟩
  · rw [h.cellAt (i * 3 + j) (by omega), List.getElem?_eq_getElem (by omega)]
  · rw [← op_set ops i (by omega) j x o hj hx]; exact s1

end Go.Proofs.Ytjgbconlpolddaa
