/- FnPackSumText: plain facts. -/
import Derived.Test.YtjgbconlpolddaaPkBase
import Derived.Test.YtjgbconlpolddaaPkSumI
import Derived.Test.YtjgbconlpolddaaPkSameO
import Derived.Laws.BitsAllLaws
namespace Go.Proofs.Ytjgbconlpolddaa
open Go.RowKit
set_option linter.unusedVariables false

theorem fmOb_set2 (zs : List (Ob × Value)) {k : Nat} (hk : k < zs.length) (x : Tx) : (zs.flatMap encOb).set (k * 3 + 2) (.string (tx x)) = (zs.set k ({ zs[k].1 with text := x }, zs[k].2)).flatMap encOb := by
  induction zs generalizing k with
  | nil => simp at hk
  | cons z zs ih =>
    cases k with
    | zero => simp [encOb]
    | succ k =>
      have hk' : k < zs.length := by simpa using hk
      have e1 : (k + 1) * 3 + 2 = (encOb z).length + (k * 3 + 2) := by simp [encOb]; omega
      simp only [List.flatMap_cons, List.set_cons_succ, List.getElem_cons_succ]
      rw [e1, List.set_append_right _ _ (by omega), Nat.add_sub_cancel_left, ih hk']

theorem oneObs {K : Nat → Bool → Prop} {w : World} {zs : List (Ob × Value)} (h : ∀ z ∈ zs, IntsR K w z.2 z.1.links) : ∀ u ∈ zs.flatMap encOb, u.oneCell' = true := by
  intro u hu
  obtain ⟨z, hz, hu⟩ := List.mem_flatMap.1 hu
  simp [encOb] at hu
  rcases hu with rfl | rfl | rfl
  · rfl
  · exact SlR.one (h z hz)
  · rfl

/-- The clone, and a text of it laid anew. -/
theorem ObsOwn.clonedText {lo l4 : Nat} {w : World} {g cap : Nat} {os : List Ob} {zs : List (Ob × Value)} (h : w.ownsRow l4 40 3 (.slice (some ⟨g, 0, none⟩) os.length cap) os.length (zs.flatMap encOb)) (hl : lo ≤ l4) (hm : zs.map (·.1) = os) (hz : ∀ z ∈ zs, IntsR (new lo) w z.2 z.1.links) {k : Nat} (hk : k < os.length) (x : Tx) :
    (∃ u, w.cell? ⟨g, k * 3 + 2, none⟩ = some u) ∧ w.frozen? ⟨g, k * 3 + 2, none⟩ = false ∧ ObsR (new lo) (w.setCell ⟨g, k * 3 + 2, none⟩ (.string (tx x))) (.slice (some ⟨g, 0, none⟩) os.length cap) (os.set k { os[k] with text := x }) ∧
      Fr lo [40] w (w.setCell ⟨g, k * 3 + 2, none⟩ (.string (tx x))) := by
  subst hm
  rw [List.length_map] at h
  have hk' : k < zs.length := by simpa using hk
  have hlen : (zs.flatMap encOb).length = zs.length * 3 := by
    clear h hz hk hk'
    induction zs with
    | nil => rfl
    | cons z zs ih => rw [List.flatMap_cons, List.length_append, ih]; simp [encOb]; omega
  obtain ⟨s1, s2⟩ := h.stored (k * 3 + 2) (.string (tx x))
  have F := Fr.ofOwnGrown (T := [40]) (B := lo) h s2 hl (by simp)
  refine ⟨⟨(zs.flatMap encOb)[k * 3 + 2]'(by omega), ?_⟩, h.frozenAt _, ?_, F⟩
  · rw [h.cellAt (k * 3 + 2) (by omega), List.getElem?_eq_getElem (by omega)]
  · rw [fmOb_set2 zs hk' x] at s1
    refine ObsOwn.reads (lo := lo) ⟨zs.set k ({ zs[k].1 with text := x }, zs[k].2), ?_, ?_, fun z hz' => ?_⟩
    · rw [List.map_set]; simp
    · rw [List.length_set, List.length_map]; exact ownsRow_lo s1 hl
    · rcases List.mem_or_eq_of_mem_set hz' with hm | hm
      · exact (hz z hm).keep F (Safe.new (by simp))
      · subst hm
        exact (hz _ (List.getElem_mem hk')).keep F (Safe.new (by simp))

/-- One byte laid in a new block, read as a text. -/
theorem conv_byte (w : World) (c : UInt8) : (convert 22 9 (.slice (some ⟨w.heap.size, 0, none⟩) 1 1)).run Try.prog (w.alloc (.cells #[.int .u8 (c.toNat : Int)] 5)) = .ok (.string (tx [c])) (w.alloc (.cells #[.int .u8 (c.toNat : Int)] 5)) := by
  refine run_convert_bytes_back (P := Try.prog) (w.alloc (.cells #[.int .u8 (c.toNat : Int)] 5)) 22 9 5 ⟨w.heap.size, 0, none⟩ 1 [c] Try.underlying22 Try.underlying5 Try.underlying9 (fun j hj => ?_)
  have hj0 : j = 0 := by simpa using hj
  subst hj0
  exact cell_of (o := 0) (heap_alloc_new w (.cells #[.int .u8 (c.toNat : Int)] 5)) rfl

theorem xor_byte (c0 : UInt8) (n : Nat) : ∃ c1 : UInt8, c1 ≠ c0 ∧ bits .xor .u8 (c0.toNat : Int) (1 + (n : Int) % 3) = (c1.toNat : Int) := by
  have hl := c0.toNat_lt
  obtain ⟨d, h1, h2, hd⟩ : ∃ d : Nat, 1 ≤ d ∧ d ≤ 3 ∧ 1 + (n : Int) % 3 = (d : Int) := by
    have h3 : (n : Int) % 3 = 0 ∨ (n : Int) % 3 = 1 ∨ (n : Int) % 3 = 2 := by omega
    rcases h3 with h | h | h
    · exact ⟨1, by omega, by omega, by rw [h]; rfl⟩
    · exact ⟨2, by omega, by omega, by rw [h]; rfl⟩
    · exact ⟨3, by omega, by omega, by rw [h]; rfl⟩
  have hx : (c0 ^^^ UInt8.ofNat d).toNat = c0.toNat ^^^ d := by
    rw [UInt8.toNat_xor, UInt8.toNat_ofNat', Nat.mod_eq_of_lt (by omega)]
  refine ⟨c0 ^^^ UInt8.ofNat d, fun e => ?_, ?_⟩
  · rw [e] at hx
    have h3 : c0.toNat ^^^ c0.toNat = c0.toNat ^^^ (c0.toNat ^^^ d) := by rw [← hx]
    rw [← Nat.xor_assoc, Nat.xor_self, Nat.zero_xor] at h3
    omega
  · rw [hd, hx, u8_xor_nat _ _ (by omega) (by omega)]

theorem sum_byte (c0 : UInt8) (t0 : Tx) (n : Nat) (hp : 0 < (tx (c0 :: t0)).size) : ∃ c1 : UInt8, c1 ≠ c0 ∧ bits .xor .u8 (((tx (c0 :: t0))[0]'hp).toNat : Int) (1 + (n : Int) % 3) = (c1.toNat : Int) ∧ bits .xor .u8 (((tx (c0 :: t0))[0]'hp).toNat : Int) (IntKind.u8.wrap (IntKind.i64.wrap (1 + (n : Int).tmod 3))) = (c1.toNat : Int) ∧ bits .xor .u8 (c0.toNat : Int) (1 + (n : Int) % 3) = (c1.toNat : Int) := by
  obtain ⟨c1, h1, h2⟩ := xor_byte c0 n
  have h0 : (tx (c0 :: t0))[0]'hp = c0 := rfl
  have h3 : IntKind.u8.wrap (IntKind.i64.wrap (1 + (n : Int).tmod 3)) = 1 + (n : Int) % 3 := by
    rw [Int.tmod_eq_emod_of_nonneg (by omega)]
    have h3 : (n : Int) % 3 = 0 ∨ (n : Int) % 3 = 1 ∨ (n : Int) % 3 = 2 := by omega
    rcases h3 with h | h | h <;> rw [h] <;> decide
  exact ⟨c1, h1, by rw [h0]; exact h2, by rw [h0, h3]; exact h2, h2⟩

theorem sum_conv (W : World) (c1 : UInt8) : (convert 22 9 (.slice (some ⟨W.heap.size, 0, none⟩) 1 1)).run Try.prog (W.alloc (.cells #[.int .u8 (c1.toNat : Int)] 5)).drew = .ok (.string (tx [c1])) (W.alloc (.cells #[.int .u8 (c1.toNat : Int)] 5)).drew := by
  refine run_convert_bytes_back (P := Try.prog) (W.alloc (.cells #[.int .u8 (c1.toNat : Int)] 5)).drew 22 9 5 ⟨W.heap.size, 0, none⟩ 1 [c1] Try.underlying22 Try.underlying5 Try.underlying9 (fun j hj => ?_)
  have hj0 : j = 0 := by simpa using hj
  subst hj0
  exact cell_of (w := (W.alloc (.cells #[.int .u8 (c1.toNat : Int)] 5)).drew) (o := 0) (blk_drew (heap_alloc_new W (.cells #[.int .u8 (c1.toNat : Int)] 5))) rfl

theorem few_set {os : List Ob} (h : Few os) {k : Nat} (hk : k < os.length) {x : Tx} (hx : x.length ≤ 9) : Few (os.set k { os[k] with text := x }) := by
  intro o ho
  rcases List.mem_or_eq_of_mem_set ho with ho | ho
  · exact h o ho
  · subst ho
    have := h _ (List.getElem_mem hk)
    exact ⟨this.1, hx, this.2.2⟩

/-- What the law asks, told of the objects: another first byte of a text. -/
theorem sum_law {os : List Ob} (hf : Few os) (hl : os.length ≤ 17) (hp : packOk os = true) {k : Nat} (hk : k < os.length) {c0 c1 : UInt8} {t0 : Tx} (ht : os[k].text = c0 :: t0) (hc : c1 ≠ c0) :
    ∃ os' : List Ob, os.set k { os[k] with text := c1 :: t0 } = os' ∧ ObsB os' ∧ packOk os' = true ∧ unpack (pack os') = some os' ∧ (∀ e ∈ pack os', e.links.length ≤ 1000000000) ∧ sumTo os' os'.length ≠ sumTo os os.length := by
  obtain ⟨h1, h2⟩ := packOk_all hp
  have ho := h2 _ (List.getElem_mem hk)
  have ho' := obOk_first (b' := c1) ht ho
  have hlen : (c1 :: t0).length ≤ 9 := by
    have := (obOk_len ho).2
    rw [ht] at this
    simp at this ⊢
    omega
  have hf' := few_set hf hk hlen
  have hl' : (os.set k { os[k] with text := c1 :: t0 }).length ≤ 17 := by simpa using hl
  have hp' : packOk (os.set k { os[k] with text := c1 :: t0 }) = true := packOk_set hp ho'
  refine ⟨_, rfl, hf'.b hl', hp', unpack_pack hp', fun e he => ?_, ?_⟩
  · have := (packEn_b hf' hl' true).2 e (by rw [if_pos rfl]; exact he)
    exact this.1
  · rw [List.length_set]
    exact sumTo_set hk h1 ho ho' (oid_first ht hc ho ho')

end Go.Proofs.Ytjgbconlpolddaa
