/- The program's PackSum. -/
import Derived.Test.YtjgbconlpolddaaQM5
import Derived.Test.YtjgbconlpolddaaQPkObjI
import Derived.Test.YtjgbconlpolddaaQM3
import Derived.Laws.BitsAllLaws
import Derived.Shelf.Spec.SlicesInsert
import Derived.Lib.AppendZerosOnto
import Derived.Laws.NewBlocks
import Derived.Deep.RegionLaw
set_option linter.unusedVariables false
set_option linter.unusedSimpArgs false
namespace Go.Proofs.Ytjgbconlpolddaa
open Go.RowKit
set_option linter.unusedVariables false

set_option maxRecDepth 20000 in
set_option maxHeartbeats 2000000 in
theorem implPackSum_any (K : Nat → Bool → Prop) (v : Value) (es : List En) (os : List Ob) (w : World) (hv : EnsR K w v es) (hm : Mild K w.heap.size) (hbl : ∀ e ∈ es, e.links.length ≤ 1000000000) (hu : unpack es = some os) :
    Calls Try.prog 16 #[v] w fun e w' => e = .returned (.int .i64 (sumTo os os.length)) ∧ Fr w.heap.size [] w w' := by
  obtain ⟨a, cap, rfl, hcap, -⟩ := hv.shape
  obtain ⟨hl, hol, hok⟩ := unpack_ok hu
  have HV := hid hv
  have HU := hid hu
  have HOK := hid hok
  have ST := hid (show (os.length : Int) = sumTo os 0 from rfl)
  have HBL := hid hbl
  clear hv hu hok hbl
  go_enter Try.func16, Try.ntmps16
  go_wp2_with (go_at_call 13; go_must (refine (implPackObjects_any K _ es _ HV.out hm HBL.out).mono ?_; rintro e w1 ⟨fr1, hres⟩; obtain ⟨v1, rfl, own1⟩ := unpacked_of HU.out hres; obtain ⟨la, lcap, rfl, -, hcell1⟩ := own1.reads.shape; have HC := hid hcell1; have F1 := hid fr1; clear fr1 hres own1 hcell1))
  go_loopw [5, 19] (fun vn vi wx => ∃ k : Nat, k ≤ os.length ∧ vi = .int .i64 k ∧ vn = .int .i64 (sumTo os k) ∧ Fr w1.heap.size [] w1 wx) (fun _ vi _ => os.length - (intOf vi).toNat)
  case atStart => exact ⟨0, Nat.zero_le _, rfl, by rw [← ST.out, hol], Fr.refl _ _ _⟩
  case round =>
    obtain ⟨k, hk, rfl, rfl, hfr⟩ := hrel
    have hsi := sumTo_in (os := os) (by omega) k
    by_cases hlt : k < os.length
    · rcases HC.out with hh | ⟨b, off, rfl, hbs, hcell⟩
      · rw [hh] at hlt; cases hlt
      · obtain ⟨u, h0, h1, h2, hu⟩ := hcell k hlt
        obtain ⟨ua, ucap, rfl, _, _⟩ := hu.shape
        have c0 := hfr.cell hbs h0
        have c1 := hfr.cell hbs h1
        have c2 := hfr.cell hbs h2
        have HL := hid (hu.grow (hfr.alloc (.cells #[.int .i64 os[k].kind, .slice ua os[k].links.length ucap, .string (tx os[k].text)] 40)))
        have hki : (k : Int) < (os.length : Int) := by omega
        have HS := hid (sumTo_succ hlt)
        have OK := hid (HOK.out _ (List.getElem_mem hlt))
        have hoi := oid_in OK.out
        have hmm : (sumTo os k * 613 + oid os[k] + 1).tmod 991 = (sumTo os k * 613 + oid os[k] + 1) % 991 := Int.tmod_eq_emod_of_nonneg (by omega)
        clear h0 h1 h2 hu hcell
        go_wp2_with (go_at_call 51; go_must (refine (id_any (new w.heap.size) _ os[k] _ HL.out OK.out).mono ?_; rintro e w2 ⟨rfl, fr2⟩; have F2 := hid ((hfr.alloc (.cells #[.int .i64 os[k].kind, .slice ua os[k].links.length ucap, .string (tx os[k].text)] 40)).trans fr2.nil); clear fr2))
        go_roundw
        case rel => exact ⟨k + 1, by omega, by go_num, by rw [HS.out], F2.out⟩
        case measure => simp [intOf]; omega
    · obtain rfl : k = os.length := by omega
      go_wp2
      go_ret
      exact ⟨rfl, F1.out.trans hfr.nil⟩

end Go.Proofs.Ytjgbconlpolddaa

/- FnPackSumText: plain facts. -/
namespace Go.Proofs.Ytjgbconlpolddaa
open Go.RowKit
set_option linter.unusedVariables false

theorem fmOb_set2 (zs : List (Ob × Value)) {k : Nat} (hk : k < zs.length) (x : Tx) : (zs.flatMap encOb).set (k * 3 + 2) (.string (tx x)) = (zs.set k ({ zs[k].1 with text := x }, zs[k].2)).flatMap encOb := by
  induction zs generalizing k with
  | nil => simp at hk
  | cons z zs ih =>
    cases k with
    | zero => simp [encOb]
    | succ k =>
      have hk' : k < zs.length := by simpa using hk
      have e1 : (k + 1) * 3 + 2 = (encOb z).length + (k * 3 + 2) := by simp [encOb]; omega
      simp only [List.flatMap_cons, List.set_cons_succ, List.getElem_cons_succ]
      rw [e1, List.set_append_right _ _ (by omega), Nat.add_sub_cancel_left, ih hk']

theorem oneObs {K : Nat → Bool → Prop} {w : World} {zs : List (Ob × Value)} (h : ∀ z ∈ zs, IntsR K w z.2 z.1.links) : ∀ u ∈ zs.flatMap encOb, u.oneCell' = true := by
  intro u hu
  obtain ⟨z, hz, hu⟩ := List.mem_flatMap.1 hu
  simp [encOb] at hu
  rcases hu with rfl | rfl | rfl
  · rfl
  · exact SlR.one (h z hz)
  · rfl

/-- The clone, and a text of it laid anew. -/
theorem ObsOwn.clonedText {lo l4 : Nat} {w : World} {g cap : Nat} {os : List Ob} {zs : List (Ob × Value)} (h : w.ownsRow l4 40 3 (.slice (some ⟨g, 0, none⟩) os.length cap) os.length (zs.flatMap encOb)) (hl : lo ≤ l4) (hm : zs.map (·.1) = os) (hz : ∀ z ∈ zs, IntsR (new lo) w z.2 z.1.links) {k : Nat} (hk : k < os.length) (x : Tx) :
    (∃ u, w.cell? ⟨g, k * 3 + 2, none⟩ = some u) ∧ w.frozen? ⟨g, k * 3 + 2, none⟩ = false ∧ ObsR (new lo) (w.setCell ⟨g, k * 3 + 2, none⟩ (.string (tx x))) (.slice (some ⟨g, 0, none⟩) os.length cap) (os.set k { os[k] with text := x }) ∧
      Fr lo [40] w (w.setCell ⟨g, k * 3 + 2, none⟩ (.string (tx x))) := by
  subst hm
  rw [List.length_map] at h
  have hk' : k < zs.length := by simpa using hk
  have hlen : (zs.flatMap encOb).length = zs.length * 3 := by
    clear h hz hk hk'
    induction zs with
    | nil => rfl
    | cons z zs ih => rw [List.flatMap_cons, List.length_append, ih]; simp [encOb]; omega
  obtain ⟨s1, s2⟩ := h.stored (k * 3 + 2) (.string (tx x))
  have F := Fr.ofOwnGrown (T := [40]) (B := lo) h s2 hl (by simp)
  refine ⟨⟨(zs.flatMap encOb)[k * 3 + 2]'(by omega), ?_⟩, h.frozenAt _, ?_, F⟩
  · rw [h.cellAt (k * 3 + 2) (by omega), List.getElem?_eq_getElem (by omega)]
  · rw [fmOb_set2 zs hk' x] at s1
    refine ObsOwn.reads (lo := lo) ⟨zs.set k ({ zs[k].1 with text := x }, zs[k].2), ?_, ?_, fun z hz' => ?_⟩
    · rw [List.map_set]; simp
    · rw [List.length_set, List.length_map]; exact ownsRow_lo s1 hl
    · rcases List.mem_or_eq_of_mem_set hz' with hm | hm
      · exact (hz z hm).keep F (Safe.new (by simp))
      · subst hm
        exact (hz _ (List.getElem_mem hk')).keep F (Safe.new (by simp))

/-- One byte laid in a new block, read as a text. -/
theorem conv_byte (w : World) (c : UInt8) : (convert 22 9 (.slice (some ⟨w.heap.size, 0, none⟩) 1 1)).run Try.prog (w.alloc (.cells #[.int .u8 (c.toNat : Int)] 5)) = .ok (.string (tx [c])) (w.alloc (.cells #[.int .u8 (c.toNat : Int)] 5)) := by
  refine run_convert_bytes_back (P := Try.prog) (w.alloc (.cells #[.int .u8 (c.toNat : Int)] 5)) 22 9 5 ⟨w.heap.size, 0, none⟩ 1 [c] Try.underlying22 Try.underlying5 Try.underlying9 (fun j hj => ?_)
  have hj0 : j = 0 := by simpa using hj
  subst hj0
  exact cell_of (o := 0) (heap_alloc_new w (.cells #[.int .u8 (c.toNat : Int)] 5)) rfl

theorem xor_byte (c0 : UInt8) (n : Nat) : ∃ c1 : UInt8, c1 ≠ c0 ∧ bits .xor .u8 (c0.toNat : Int) (1 + (n : Int) % 3) = (c1.toNat : Int) := by
  have hl := c0.toNat_lt
  obtain ⟨d, h1, h2, hd⟩ : ∃ d : Nat, 1 ≤ d ∧ d ≤ 3 ∧ 1 + (n : Int) % 3 = (d : Int) := by
    have h3 : (n : Int) % 3 = 0 ∨ (n : Int) % 3 = 1 ∨ (n : Int) % 3 = 2 := by omega
    rcases h3 with h | h | h
    · exact ⟨1, by omega, by omega, by rw [h]; rfl⟩
    · exact ⟨2, by omega, by omega, by rw [h]; rfl⟩
    · exact ⟨3, by omega, by omega, by rw [h]; rfl⟩
  have hx : (c0 ^^^ UInt8.ofNat d).toNat = c0.toNat ^^^ d := by
    rw [UInt8.toNat_xor, UInt8.toNat_ofNat', Nat.mod_eq_of_lt (by omega)]
  refine ⟨c0 ^^^ UInt8.ofNat d, fun e => ?_, ?_⟩
  · rw [e] at hx
    have h3 : c0.toNat ^^^ c0.toNat = c0.toNat ^^^ (c0.toNat ^^^ d) := by rw [← hx]
    rw [← Nat.xor_assoc, Nat.xor_self, Nat.zero_xor] at h3
    omega
  · rw [hd, hx, u8_xor_nat _ _ (by omega) (by omega)]

theorem sum_byte (c0 : UInt8) (t0 : Tx) (n : Nat) (hp : 0 < (tx (c0 :: t0)).size) : ∃ c1 : UInt8, c1 ≠ c0 ∧ bits .xor .u8 (((tx (c0 :: t0))[0]'hp).toNat : Int) (1 + (n : Int) % 3) = (c1.toNat : Int) ∧ bits .xor .u8 (((tx (c0 :: t0))[0]'hp).toNat : Int) (IntKind.u8.wrap (IntKind.i64.wrap (1 + (n : Int).tmod 3))) = (c1.toNat : Int) ∧ bits .xor .u8 (c0.toNat : Int) (1 + (n : Int) % 3) = (c1.toNat : Int) := by
  obtain ⟨c1, h1, h2⟩ := xor_byte c0 n
  have h0 : (tx (c0 :: t0))[0]'hp = c0 := rfl
  have h3 : IntKind.u8.wrap (IntKind.i64.wrap (1 + (n : Int).tmod 3)) = 1 + (n : Int) % 3 := by
    rw [Int.tmod_eq_emod_of_nonneg (by omega)]
    have h3 : (n : Int) % 3 = 0 ∨ (n : Int) % 3 = 1 ∨ (n : Int) % 3 = 2 := by omega
    rcases h3 with h | h | h <;> rw [h] <;> decide
  exact ⟨c1, h1, by rw [h0]; exact h2, by rw [h0, h3]; exact h2, h2⟩

theorem sum_conv (W : World) (c1 : UInt8) : (convert 22 9 (.slice (some ⟨W.heap.size, 0, none⟩) 1 1)).run Try.prog (W.alloc (.cells #[.int .u8 (c1.toNat : Int)] 5)).drew = .ok (.string (tx [c1])) (W.alloc (.cells #[.int .u8 (c1.toNat : Int)] 5)).drew := by
  refine run_convert_bytes_back (P := Try.prog) (W.alloc (.cells #[.int .u8 (c1.toNat : Int)] 5)).drew 22 9 5 ⟨W.heap.size, 0, none⟩ 1 [c1] Try.underlying22 Try.underlying5 Try.underlying9 (fun j hj => ?_)
  have hj0 : j = 0 := by simpa using hj
  subst hj0
  exact cell_of (w := (W.alloc (.cells #[.int .u8 (c1.toNat : Int)] 5)).drew) (o := 0) (blk_drew (heap_alloc_new W (.cells #[.int .u8 (c1.toNat : Int)] 5))) rfl

theorem few_set {os : List Ob} (h : Few os) {k : Nat} (hk : k < os.length) {x : Tx} (hx : x.length ≤ 9) : Few (os.set k { os[k] with text := x }) := by
  intro o ho
  rcases List.mem_or_eq_of_mem_set ho with ho | ho
  · exact h o ho
  · subst ho
    have := h _ (List.getElem_mem hk)
    exact ⟨this.1, hx, this.2.2⟩

/-- What the law asks, told of the objects: another first byte of a text. -/
theorem sum_law {os : List Ob} (hf : Few os) (hl : os.length ≤ 17) (hp : packOk os = true) {k : Nat} (hk : k < os.length) {c0 c1 : UInt8} {t0 : Tx} (ht : os[k].text = c0 :: t0) (hc : c1 ≠ c0) :
    ∃ os' : List Ob, os.set k { os[k] with text := c1 :: t0 } = os' ∧ ObsB os' ∧ packOk os' = true ∧ unpack (pack os') = some os' ∧ (∀ e ∈ pack os', e.links.length ≤ 1000000000) ∧ sumTo os' os'.length ≠ sumTo os os.length := by
  obtain ⟨h1, h2⟩ := packOk_all hp
  have ho := h2 _ (List.getElem_mem hk)
  have ho' := obOk_first (b' := c1) ht ho
  have hlen : (c1 :: t0).length ≤ 9 := by
    have := (obOk_len ho).2
    rw [ht] at this
    simp at this ⊢
    omega
  have hf' := few_set hf hk hlen
  have hl' : (os.set k { os[k] with text := c1 :: t0 }).length ≤ 17 := by simpa using hl
  have hp' : packOk (os.set k { os[k] with text := c1 :: t0 }) = true := packOk_set hp ho'
  refine ⟨_, rfl, hf'.b hl', hp', unpack_pack hp', fun e he => ?_, ?_⟩
  · have := (packEn_b hf' hl' true).2 e (by rw [if_pos rfl]; exact he)
    exact this.1
  · rw [List.length_set]
    exact sumTo_set hk h1 ho ho' (oid_first ht hc ho ho')

end Go.Proofs.Ytjgbconlpolddaa

/- The reference's copies of objects. -/
namespace Go.Proofs.Ytjgbconlpolddaa
open Go.RowKit
set_option linter.unusedVariables false

theorem twoBoxes (w : World) (a b : Obj) : ((w.alloc a).alloc b).heap[w.heap.size]? = some a ∧ ((w.alloc a).alloc b).heap[w.heap.size + 1]? = some b :=
  ⟨heap_up (heap_alloc_new w a) b, by have := heap_alloc_new (w.alloc a) b; simpa using this⟩

set_option maxRecDepth 20000 in
set_option maxHeartbeats 4000000 in
theorem l1One_any (K : Nat → Bool → Prop) (v : Value) (o : Ob) (w : World) (hv : IntsR K w v o.links) (hl : o.links.length ≤ 1000000000) :
    Calls Try.prog 109 #[.agg #[.int .i64 o.kind, v, .string (tx o.text)]] w fun e w' => ∃ v', e = .returned (.agg #[.int .i64 o.kind, v', .string (tx o.text)]) ∧ IntsR (new w.heap.size) w' v' o.links ∧ Fr w.heap.size [] w w' := by
  obtain ⟨a, cap, rfl, hcap, -⟩ := hv.shape
  obtain ⟨i0, hi, hz0, hz1, hz2⟩ := info_parts infoI
  have F0 := hid (((Fr.refl w.heap.size [] w).alloc (.cells #[.int .i64 o.kind, .slice a o.links.length cap, .string (tx o.text)] 40)).alloc (.cells #[.int .i64 0, .slice none 0 0, .string ⟨#[]⟩] 40))
  have B0 := hid (twoBoxes w (.cells #[.int .i64 o.kind, .slice a o.links.length cap, .string (tx o.text)] 40) (.cells #[.int .i64 0, .slice none 0 0, .string ⟨#[]⟩] 40))
  have HV := hid (hv.grow F0.out)
  clear hv
  go_enter Try.func109, Try.ntmps109
  go_wp2_with (at_builtin; go_must (refine wpList_clone rfl (.tmp 3) (.tmp 5) 29 rfl 3 i0 (.int .i64 0) 1 8 Try.underlying29 hi hz0 hz1 hz2 rfl (by decide) _ (by rfl) (by simp) K 3 _ _ _ (by rfl) HV.out (oneI _) (by unfold maxLen; omega) (by omega) ?_; intro v1 w1 own1 fr1; obtain ⟨ca, ccap, rfl⟩ := own_any own1; have F1 := hid (F0.out.trans fr1.nil); have BA := hid (fr1.keep _ _ B0.out.1 (.inr (by simp))); have BB := hid (fr1.keep _ _ B0.out.2 (.inr (by simp))); have OWN1 := hid (ownsRow_lo own1 (lo' := w.heap.size) F0.out.size); have a0 := cell_of (o := 0) BA.out rfl; have a1 := cell_of (o := 1) BA.out rfl; have a2 := cell_of (o := 2) BA.out rfl; have af := fun o => free_of (o := o) BA.out; have b0 := cell_of (o := 0) BB.out rfl; have b1 := cell_of (o := 1) BB.out rfl; have b2 := cell_of (o := 2) BB.out rfl; have bf := fun o => free_of (o := o) BB.out; have hbb := lt_of_get BB.out; clear own1 fr1))
  have e := fill3 (x0 := .int .i64 o.kind) (x1 := .slice ca o.links.length ccap) (x2 := .string (tx o.text)) (block_setne (p := ⟨w.heap.size, 1, none⟩) (u := .slice ca o.links.length ccap) BB.out (by dsimp only; omega))
  have e0 := cell_of (o := 0) e rfl
  have e1 := cell_of (o := 1) e rfl
  have e2 := cell_of (o := 2) e rfl
  have FS := (Fr.refl 0 [40] w1).setOld (p := ⟨w.heap.size, 1, none⟩) BA.out (Nat.zero_le _) (by simp [otag]) (.slice ca o.links.length ccap)
  have FT := FS.fill3 (x0 := .int .i64 o.kind) (x1 := .slice ca o.links.length ccap) (x2 := .string (tx o.text)) (block_setne (p := ⟨w.heap.size, 1, none⟩) (u := .slice ca o.links.length ccap) BB.out (by dsimp only; omega)) (Nat.zero_le _)
  exact bodyPost_ret (v := .agg #[.int .i64 o.kind, .slice ca o.links.length ccap, .string (tx o.text)]) (by simp [results, Try.results109, go_sem, e0, e1, e2]) rfl
    ⟨_, rfl, (show IntsR (new w.heap.size) w1 (.slice ca o.links.length ccap) o.links from SlR.ofOwns OWN1.out).keep FT (Safe.new (by simp)), (F1.out.setNew (p := ⟨w.heap.size, 1, none⟩) (by dsimp only; omega) _).new3 (by omega)⟩

/-- A list of one object and its value, as a source. -/
theorem take_snoc {os : List Ob} {k : Nat} (hk : k < os.length) : os.take (k + 1) = os.take k ++ [os[k]] := by rw [List.take_add_one, List.getElem?_eq_getElem hk]; rfl

set_option maxRecDepth 20000 in
set_option maxHeartbeats 4000000 in
theorem l1Copy_any (K : Nat → Bool → Prop) (v : Value) (os : List Ob) (w : World) (hv : ObsR K w v os) (hb : ∀ o ∈ os, o.links.length ≤ 1000000000) (hl : os.length ≤ 1000000000) :
    Calls Try.prog 89 #[v] w fun e w' => ∃ v', e = .returned v' ∧ ObsOwn w.heap.size w' v' os ∧ v' ≠ .slice none 0 0 ∧ Fr w.heap.size [] w w' := by
  obtain ⟨a, cap, rfl, hcap, hcell⟩ := hv.shape
  obtain ⟨i0, hi, hz0, hz1, hz2⟩ := info_parts infoOb
  have HC := hid hcell
  have HB := hid hb
  have OE := hid (ObsOwn.empty (w := w) rfl)
  clear hv hcell hb
  go_enter Try.func89, Try.ntmps89
  go_wp2
  go_loopw [3, 4] (fun vo vi wx => ∃ (k : Nat) (xs : List Ob), k ≤ os.length ∧ vi = .int .i64 k ∧ xs = os.take k ∧ xs.length = k ∧ ObsOwn w.heap.size wx vo xs ∧ vo ≠ .slice none 0 0 ∧ Fr w.heap.size [] w wx) (fun _ vi _ => os.length - (intOf vi).toNat)
  case atStart => exact ⟨0, [], Nat.zero_le _, rfl, by simp, rfl, OE.out, (by simp), (Fr.refl _ _ _).alloc _⟩
  case round =>
    obtain ⟨k, xs, hk, rfl, hxs, hxl, hown, hvn, hfr⟩ := hrel
    have XS := hid hxs
    have XL := hid hxl
    have hs := hfr.size
    have VN := hid hvn
    clear hxs hvn
    obtain ⟨zs, z1, z2, z3⟩ := hown
    rw [hxl] at z2
    have Z1 := hid z1
    have Z3 := hid z3
    have Z2 := hid z2
    clear z1 z3
    obtain ⟨oa, ocap, rfl⟩ := own_any z2
    clear z2 hxl
    by_cases hlt : k < os.length
    · rcases HC.out with hh | ⟨b, off, rfl, hbs, hcell⟩
      · rw [hh] at hlt; cases hlt
      · obtain ⟨u, h0, h1, h2, hu⟩ := hcell k hlt
        obtain ⟨ua, ucap, rfl, _, _⟩ := hu.shape
        have c0 := hfr.cell hbs h0
        have c1 := hfr.cell hbs h1
        have c2 := hfr.cell hbs h2
        have HU := hid (hu.grow hfr)
        have hki : (k : Int) < (os.length : Int) := by omega
        have hil := HB.out _ (List.getElem_mem hlt)
        have TS := hid (take_snoc hlt)
        clear h0 h1 h2 hu hcell
        generalize os[k] = o at *
        go_wp2_with (first
          | (go_at_call 109; go_must (refine (l1One_any _ _ o _ HU.out hil).mono ?_; rintro e w1 ⟨u1, rfl, hu1, fr1⟩; obtain ⟨va, vcap, rfl, _, _⟩ := hu1.shape; have HU1 := hid (hu1.weak (K' := new w.heap.size) (fun b t _ hb => ⟨Nat.le_trans hs hb.1, hb.2⟩)); have F1 := hid (hfr.trans fr1.nil); have FR1 := hid fr1; have hs1 := fr1.size; clear hu1 fr1))
          | (at_builtin; go_must (refine wpList_push rfl (.tmp 12) (.tmp 18) 23 rfl w.heap.size 40 i0 (.agg #[.int .i64 0, .slice none 0 0, .string ⟨#[]⟩]) 3 48 Try.underlying23 hi hz0 hz1 hz2 rfl (by decide) _ _ _ (ownsRow_grow Z2.out FR1.out) rfl (oneOb3 _ _ _ _ _) (by unfold maxLen; omega) (by omega) (by omega) (by rfl) _ (by rfl) (by simp [World.setCell]) ?_; intro v7 w7 own7 fr7 _; have OWN7 := hid own7; have F7 := hid fr7; clear own7 fr7)))
        go_roundw
        case rel => exact ⟨k + 1, xs ++ [o], by omega, by go_num, by rw [TS.out, XS.out], by simp [XL.out], ObsOwn.snoc Z1.out (fun z hz => ((Z3.out z hz).grow FR1.out).keep F7.out (Safe.new (by simp))) (HU1.out.keep F7.out (Safe.new (by simp))) XL.out.symm OWN7.out, (by obtain ⟨g, cap, e, _⟩ := own_shape OWN7.out (by omega); rw [e]; simp), F1.out.after F7.out⟩
        case measure => simp [intOf]; omega
    · obtain rfl : k = os.length := by omega
      go_wp2
      go_ret
      have e1 : xs = os := by rw [XS.out, List.take_length]
      subst e1
      exact ⟨_, rfl, ⟨zs, Z1.out, Z2.out, Z3.out⟩, VN.out, hfr⟩

end Go.Proofs.Ytjgbconlpolddaa

/- The program's copyObjects. -/
namespace Go.Proofs.Ytjgbconlpolddaa
open Go.RowKit
set_option linter.unusedVariables false

set_option maxRecDepth 20000 in
set_option maxHeartbeats 1000000 in
theorem cloneOb_any (K : Nat → Bool → Prop) (E' : Nat) (v : Value) (n : Nat) (cs : List Value) (w : World) (hv : SlR K E' 3 w v n cs) (h1 : ∀ u ∈ cs, u.oneCell' = true) (hn : n ≤ 1000000000) :
    Calls Try.prog 93 #[v] w fun e w' => ∃ v', e = .returned v' ∧ w'.ownsRow w.heap.size 40 3 v' n cs ∧ Fr w.heap.size [] w w' := by
  obtain ⟨a, cap, rfl, h2, h3, h4, h5⟩ := id hv
  obtain ⟨iu, hui, huz0, huz1, huz2⟩ := info_parts infoOb
  have heq := fun (w : World) (a : Option Addr) (n c : Nat) => Lib.run_eql_slice_nil (P := Try.prog) w 23 40 a n c 0 0 Try.underlying23
  have HV := hid hv
  clear hv h5
  cases a with
  | none =>
    obtain ⟨rfl, rfl⟩ := h4 rfl
    have hcs : cs = [] := List.eq_nil_of_length_eq_zero (by simpa using h2)
    subst hcs
    clear h4 h2
    go_enter Try.func93, Try.ntmps93
    go_wp2
    go_ret
    exact ⟨_, rfl, World.ownsRow_nil _ _ _ _, Fr.refl _ _ _⟩
  | some ad =>
    have H2 := hid h2
    clear h4 h2
    go_enter Try.func93, Try.ntmps93
    go_wp2_with (at_builtin; go_must (refine wpList_clone rfl (.tmp 5) (.tmp 6) 23 rfl 40 iu (.agg #[.int .i64 0, .slice none 0 0, .string ⟨#[]⟩]) 3 48 Try.underlying23 hui huz0 huz1 huz2 rfl (by decide) _ (by rfl) (by simp [World.setCell]) K E' _ _ _ (by rfl) HV.out h1 (by unfold maxLen; omega) (by omega) ?_; intro v2 w2 own2 fr2))
    go_ret
    exact ⟨_, rfl, own2, fr2⟩

theorem fmOb_set1 (zs : List (Ob × Value)) {k : Nat} (hk : k < zs.length) (u : Value) : (zs.flatMap encOb).set (k * 3 + 1) u = (zs.set k (zs[k].1, u)).flatMap encOb := by
  induction zs generalizing k with
  | nil => simp at hk
  | cons z zs ih =>
    cases k with
    | zero => simp [encOb]
    | succ k =>
      have h3 : (k + 1) * 3 + 1 = k * 3 + 1 + 1 + 1 + 1 := by omega
      rw [h3]
      have := ih (k := k) (by simpa using hk)
      simp [encOb] at this ⊢
      exact this

theorem fmOb (zs : List (Ob × Value)) (i j : Nat) (hj : j < 3) (hi : i < zs.length) : (zs.flatMap encOb)[i * 3 + j]? = (encOb zs[i])[j]? := fm_get encOb 3 (fun _ => rfl) zs i j hj hi

theorem own_tag {lo E sz g n cap : Nat} {w : World} {cs : List Value} (h : w.ownsRow lo E sz (.slice (some ⟨g, 0, none⟩) n cap) n cs) : ∃ cur, w.heap[g]? = some (.cells cur E (0, 0)) := by
  rcases h.2 with ⟨h1, _⟩ | ⟨g', cap', cur, h1, hg, hh, _⟩
  · cases h1
  · cases h1; exact ⟨cur, hh⟩

theorem Fr.free {B : Nat} {T : List Nat} {w w' : World} (h : Fr B T w w') {b off : Nat} {u : Value} (hb : b < B) (hc : w.cell? ⟨b, off, none⟩ = some u) (hf : w.frozen? ⟨b, off, none⟩ = false) : w'.frozen? ⟨b, off, none⟩ = false := by
  have hl := World.block_lt_of_cell? _ _ hc
  have := h.keep b w.heap[b] (by simp [hl]) (.inl hb)
  unfold World.frozen? at hf ⊢
  rw [this]
  simpa [hl] using hf

theorem map_set_fstOb (zs : List (Ob × Value)) {k : Nat} (hk : k < zs.length) (u : Value) : (zs.set k (zs[k].1, u)).map (·.1) = zs.map (·.1) := by
  rw [List.map_set]
  apply List.ext_getElem (by simp)
  intro i h1 h2
  rw [List.getElem_set]
  split
  · rename_i e; subst e; simp
  · rfl

/-- Objects of which the first k have their links in memory of the call's own. -/
def HalfOb (lo k : Nat) (w : World) (v : Value) (os : List Ob) : Prop :=
  ∃ zs : List (Ob × Value), zs.map (·.1) = os ∧ w.ownsRow lo 40 3 v os.length (zs.flatMap encOb) ∧ ∀ j (hj : j < zs.length), (j < k → IntsR (new lo) w zs[j].2 zs[j].1.links) ∧ (k ≤ j → IntsR (old lo) w zs[j].2 zs[j].1.links)

theorem HalfOb.grow {lo k B : Nat} {w w' : World} {v : Value} {os : List Ob} (h : HalfOb lo k w v os) (hf : Fr B [] w w') : HalfOb lo k w' v os := by
  obtain ⟨zs, h1, h2, h3⟩ := h
  exact ⟨zs, h1, ownsRow_grow h2 hf, fun j hj => ⟨fun h => ((h3 j hj).1 h).grow hf, fun h => ((h3 j hj).2 h).grow hf⟩⟩

theorem HalfOb.all {lo k : Nat} {w : World} {v : Value} {os : List Ob} (h : HalfOb lo k w v os) (hk : k = os.length) : ObsOwn lo w v os := by
  obtain ⟨zs, h1, h2, h3⟩ := h
  refine ⟨zs, h1, h2, fun z hz => ?_⟩
  obtain ⟨j, hj, rfl⟩ := List.mem_iff_getElem.1 hz
  exact (h3 j hj).1 (by rw [hk, ← h1]; simpa using hj)

/-- Object k's links, and the row behind a store there. -/
theorem HalfOb.step {lo k g cap : Nat} {w : World} {os : List Ob} (h : HalfOb lo k w (.slice (some ⟨g, 0, none⟩) os.length cap) os) (hk : k < os.length) :
    ∃ u : Value, w.cell? ⟨g, k * 3 + 1, none⟩ = some u ∧ w.frozen? ⟨g, k * 3 + 1, none⟩ = false ∧ IntsR (old lo) w u os[k].links ∧ lo ≤ g ∧ g < w.heap.size ∧
      ∀ (w1 : World) (u' : Value), Fr w.heap.size [] w w1 → IntsR (new lo) w1 u' os[k].links → HalfOb lo (k + 1) (w1.setCell ⟨g, k * 3 + 1, none⟩ u') (.slice (some ⟨g, 0, none⟩) os.length cap) os := by
  obtain ⟨zs, h1, h2, h3⟩ := h
  have hl : zs.length = os.length := by rw [← h1]; simp
  have hkz : k < zs.length := by omega
  have e : os[k] = zs[k].1 := by
    have : (zs.map (·.1))[k]? = os[k]? := by rw [h1]
    rw [List.getElem?_map, List.getElem?_eq_getElem hkz, List.getElem?_eq_getElem hk] at this
    simpa using this.symm
  refine ⟨zs[k].2, ?_, h2.frozenAt _, by rw [e]; exact (h3 k hkz).2 (Nat.le_refl _), (h2.lt g rfl).1, (h2.lt g rfl).2, fun w1 u' hf hu => ?_⟩
  · rw [h2.cellAt (k * 3 + 1) (by omega)]
    have := fmOb zs k 1 (by omega) hkz
    simpa [encOb] using this
  · have h2' := ownsRow_grow h2 hf
    obtain ⟨cur, hcur⟩ := own_tag h2'
    have hT := (Fr.refl lo [40] w1).setOld (p := ⟨g, k * 3 + 1, none⟩) hcur ((h2.lt g rfl).1) (by simp [otag]) u'
    have ⟨st1, _⟩ := h2'.stored (k * 3 + 1) u'
    rw [fmOb_set1 zs hkz] at st1
    refine ⟨_, (map_set_fstOb zs hkz u').trans h1, st1, fun j hj => ?_⟩
    have hj' : j < zs.length := by simpa using hj
    rw [List.getElem_set]
    by_cases ej : k = j
    · subst ej
      simp only [if_true]
      refine ⟨fun _ => ?_, fun h => by omega⟩
      rw [← e]
      exact hu.keep hT (Safe.new (by simp))
    · simp only [if_neg ej]
      exact ⟨fun h => (((h3 j hj').1 (by omega)).grow hf).keep hT (Safe.new (by simp)), fun h => (((h3 j hj').2 (by omega)).grow hf).keep hT (Safe.old (Nat.le_refl _))⟩

set_option maxRecDepth 20000 in
set_option maxHeartbeats 2000000 in
theorem copyObjects_any (K : Nat → Bool → Prop) (v : Value) (os : List Ob) (w : World) (hv : ObsR K w v os) (hb : ∀ o ∈ os, o.links.length ≤ 1000000000) (hl : os.length ≤ 1000000000) :
    Calls Try.prog 60 #[v] w fun e w' => ∃ v', e = .returned v' ∧ ObsOwn w.heap.size w' v' os ∧ Fr w.heap.size [] w w' := by
  have hv' := hv.weak (K' := old w.heap.size) (fun b t hb _ => hb)
  obtain ⟨a, cap, rfl, hcap, -⟩ := hv'.shape
  obtain ⟨zs, z1, z2, z3⟩ := hv'
  have Z1 := hid z1
  have Z2 := hid z2
  have Z3 := hid z3
  have HB := hid hb
  have hone := oneObs z3
  clear hv z1 z2 z3 hb
  go_enter Try.func60, Try.ntmps60
  go_wp2_with (go_at_call 93; go_must (refine (cloneOb_any (old w.heap.size) _ _ _ _ _ Z2.out hone hl).mono ?_; rintro e w1 ⟨v1, rfl, own1, fr1⟩; obtain ⟨a1, cap1, rfl⟩ := own_any own1; have O1 := hid own1; have F1 := hid fr1; clear own1 fr1))
  have H1 : HalfOb w.heap.size 0 w1 (.slice a1 os.length cap1) os :=
    ⟨zs, Z1.out, O1.out, fun j hj => ⟨fun h => absurd h (Nat.not_lt_zero _), fun _ => (Z3.out _ (List.getElem_mem hj)).grow F1.out⟩⟩
  have HH1 := hid H1
  have hw1 := F1.out.size
  clear H1
  go_loopw [9] (fun i wr => ∃ k : Nat, k ≤ os.length ∧ i = .int .i64 k ∧ HalfOb w.heap.size k wr (.slice a1 os.length cap1) os ∧ Fr w.heap.size [] w wr) (fun i _ => os.length - (intOf i).toNat)
  case atStart => exact ⟨0, Nat.zero_le _, rfl, HH1.out, F1.out⟩
  case round =>
    obtain ⟨k, hk, rfl, hh, hfr⟩ := hrel
    have HH := hid hh
    clear hh
    by_cases hlt : k < os.length
    · obtain ⟨g, gcap, hg⟩ : ∃ g gcap, Value.slice a1 os.length cap1 = .slice (some ⟨g, 0, none⟩) os.length gcap := by
        obtain ⟨zs', y1, y2, y3⟩ := HH.out
        obtain ⟨g, gcap, hg, _⟩ := own_shape y2 (by omega)
        exact ⟨g, gcap, hg⟩
      cases hg
      obtain ⟨u, u1, u2, u3, u4, u5, u6⟩ := HH.out.step hlt
      obtain ⟨ua, ucap, rfl, _, _⟩ := u3.shape
      have hul := HB.out _ (List.getElem_mem hlt)
      have U3 := hid u3
      have U6 := hid u6
      have hki : (k : Int) < (os.length : Int) := by omega
      have hwr := hfr.size
      clear u3 u6
      go_wp2_with (go_at_call 38; go_must (refine (cloneI_any (old w.heap.size) _ _ _ _ _ U3.out (oneI _) hul).mono ?_; rintro e w2 ⟨v2, rfl, own2, fr2⟩; obtain ⟨a2, cap2, rfl⟩ := own_any own2; have FW := hid fr2; have OWN2 := hid own2; have d1 := FW.out.cell u5 u1; have d2 := FW.out.free u5 u1 u2; have d4 := Nat.lt_of_lt_of_le u5 FW.out.size; clear own2 fr2))
      go_roundw
      case rel =>
        have ST := U6.out w2 (.slice a2 os[k].links.length cap2) FW.out (SlR.ofOwns (ownsRow_lo OWN2.out hwr))
        exact ⟨k + 1, by omega, by go_num, ST, (hfr.trans FW.out.nil).setNew u4 _⟩
      case measure => simp [intOf]; omega
    · obtain rfl : k = os.length := by omega
      have RO := HH.out.all rfl
      go_wp2
      go_ret
      exact ⟨_, rfl, RO, hfr⟩

end Go.Proofs.Ytjgbconlpolddaa

/- slices.Insert at objects: one object. -/
namespace Go.Proofs.Ytjgbconlpolddaa
open Go.RowKit
set_option linter.unusedVariables false
set_option linter.unusedSimpArgs false

theorem run_copy_sz {P : Program} (w : World) (dT sT ty elem : TypeId) (i : TypeInfo) (b o dLen dCap : Nat) (a : Addr) (sLen sCap n : Nat) (cs : List Value)
    (hu : P.underlying dT = some (.slice elem)) (hi : P.info? elem = some i) (hn : n = Nat.min sLen dLen) (hl : cs.length = n * i.size)
    (hsrc : ∀ j v, cs[j]? = some v → w.cell? (a.add j) = some v) (hc : ∀ j, j < cs.length → (w.cell? ⟨b, o + j, none⟩).isSome = true) (hf : ∀ j, j < cs.length → w.frozen? ⟨b, o + j, none⟩ = false) (h1 : ∀ v ∈ cs, v.oneCell' = true) :
    (Builtin.copy_ #[dT, sT] ty #[.slice (some ⟨b, o, none⟩) dLen dCap, .slice (some a) sLen sCap]).run P w = .ok (goInt n) (w.setCells b o cs) := by
  have hl' := run_loadCells_list (P := P) w a cs hsrc
  have hst := run_storeCells_cells (P := P) b o cs 0 w (by simpa using hc) (by simpa using hf) h1
  simp [Builtin.copy_, run_underlying hu, Builtin.lenOf, Builtin.firstCells, sizeOf, typeInfo, hi, ← hn, ← hl, hl', hst]

theorem set_mid (l : List Value) (o : Nat) (v : Value) (r : List Value) (h : o < l.length) : (l.set o v).take (o + 1) ++ r ++ (l.set o v).drop (o + 1 + r.length) = l.take o ++ (v :: r) ++ l.drop (o + (r.length + 1)) := by
  have ho : (l.take o).length = o := by rw [List.length_take]; omega
  rw [List.set_eq_take_append_cons_drop, if_pos h]
  have e1 : (l.take o ++ v :: l.drop (o + 1)).take (o + 1) = l.take o ++ [v] := by
    rw [List.take_append, ho, List.take_of_length_le (by omega), show o + 1 - o = 1 by omega]; rfl
  have e2 : (l.take o ++ v :: l.drop (o + 1)).drop (o + 1 + r.length) = l.drop (o + (r.length + 1)) := by
    rw [List.drop_append, ho, show (l.take o).drop (o + 1 + r.length) = [] from List.drop_eq_nil_of_le (by omega), show o + 1 + r.length - o = r.length + 1 by omega, List.nil_append, List.drop_succ_cons, List.drop_drop]
    congr 1; omega
  rw [e1, e2]
  simp

theorem heap_setCells {b : Nat} {e : TypeId} : ∀ (vs : List Value) (o : Nat) (w : World) (cur : Array Value), w.heap[b]? = some (.cells cur e (0, 0)) → o + vs.length ≤ cur.size → (w.setCells b o vs).heap[b]? = some (.cells (cur.toList.take o ++ vs ++ cur.toList.drop (o + vs.length)).toArray e (0, 0))
  | [], o, w, cur, h, _ => by simp [World.setCells, h]
  | v :: r, o, w, cur, h, hf => by
    rw [World.setCells]
    have hf' : o + (r.length + 1) ≤ cur.size := by simpa using hf
    rw [heap_setCells r (o + 1) _ _ (block_set h o v) (by simp; omega), Array.toList_setIfInBounds, set_mid _ _ _ _ (by simpa using (show o < cur.size by omega))]
    rfl

theorem Fr.setCells {B b : Nat} {T : List Nat} {a : World} {e : TypeId} {f : Nat × Nat} : ∀ (vs : List Value) (o : Nat) (w : World) (cur : Array Value), Fr B T a w → w.heap[b]? = some (.cells cur e f) → B ≤ b → e ∈ T → Fr B T a (w.setCells b o vs)
  | [], o, w, cur, h, _, _, _ => h
  | v :: r, o, w, cur, h, hb, hB, hT => by
    rw [World.setCells]
    exact Fr.setCells r (o + 1) _ _ (h.setOld (p := ⟨b, o, none⟩) hb hB (by simpa [otag] using hT) v) (block_set hb o v) hB hT

theorem apart_ov (w : World) (vb b lb cb m vc voff o : Nat) (hvb : vb ≠ b) (tA tB kA kB : Nat) (hsa : w.shape? vb = some (tA, kA)) (hsb : w.shape? b = some (tB, kB)) (hkB : kB ≠ 0) (hfa : w.frozen? ⟨vb, voff, none⟩ = false) (hfe : w.frozen? ⟨vb, kA, none⟩ = false) : (callFunc 117 #[.slice (some ⟨vb, voff, none⟩) m vc, .slice (some ⟨b, o, none⟩) lb cb]).run Try.prog w = .ok (.value (.bool false)) w := by
  rw [run_callFunc_extern Try.func117 (by kernel_rfl) (by kernel_rfl) (by kernel_rfl) (e := Extern.SlicesOverlaps.overlaps #[23, 23] #[4]) (by kernel_rfl),
      Lib.run_overlaps_apart w 23 4 40 Try.underlying23 3 (fun w => by kernel_rfl) ⟨vb, voff, none⟩ ⟨b, o, none⟩ m vc lb cb hvb tA tB kA kB hsa hsb hkB hfa hfe]
  rfl

set_option maxRecDepth 100000 in
set_option maxHeartbeats 4000000 in
/-- There is room, and the place is not the end. -/
theorem insert_shift {lo : Nat} (b n c i vb : Nat) (cs vs : List Value) (w : World) (hown : w.ownsRow lo 40 3 (.slice (some ⟨b, 0, none⟩) n c) n cs) (hi : i < n) (hroom : n + 1 ≤ c) (hn : n ≤ 1000)
    (hv : w.heap[vb]? = some (.cells vs.toArray 40 (0, 0))) (hvl : vs.length = 3) (hvb : vb ≠ b) (h1c : ∀ v ∈ cs, v.oneCell' = true) (h1v : ∀ v ∈ vs, v.oneCell' = true) :
    Calls Try.prog 106 #[.slice (some ⟨b, 0, none⟩) n c, .int .i64 i, .slice (some ⟨vb, 0, none⟩) 1 1] w fun e w' =>
      e = .returned (.slice (some ⟨b, 0, none⟩) (n + 1) c) ∧ w' = (w.drew.setCells b ((i + 1) * 3) (cs.drop (i * 3))).setCells b (i * 3) vs := by
  obtain ⟨hcl, hsh⟩ := hown
  rcases hsh with ⟨hh, _⟩ | ⟨g', cap', cur, hh, hlo, hcur, hnc, hcm, hcs, htake⟩
  · cases hh
  cases hh
  obtain ⟨i0, hi0, hz0, hz1, hz2⟩ := info_parts infoOb
  have hc63 : c ≤ 9223372036854775807 := by unfold maxLen at hcm; omega
  have hcell : ∀ j v, cs[j]? = some v → w.cell? ⟨b, j, none⟩ = some v := fun j v hj => by
    rw [← htake, List.getElem?_take] at hj
    split at hj
    · exact cell_of hcur (by simpa using hj)
    · cases hj
  have hsp : ∀ j, j < (n + 1) * 3 → (w.cell? ⟨b, j, none⟩).isSome = true := fun j hj => by
    have : j < cur.size := by rw [hcs]; omega
    rw [cell_of hcur (u := cur[j]) (by simp [this])]; rfl
  have hfz : ∀ j, w.frozen? ⟨b, j, none⟩ = false := fun j => free_of hcur
  have hvs : ∀ j v, vs[j]? = some v → w.cell? ⟨vb, j, none⟩ = some v := fun j v hj => cell_of hv (by simpa using hj)
  have hsa : w.shape? vb = some (40, 3) := by simp [World.shape?, hv, hvl]
  have hsb : w.shape? b = some (40, cur.size) := by simp [World.shape?, hcur]
  have hov := fun lb cb => apart_ov w vb b lb cb 1 1 0 ((i + 1) * 3) hvb _ _ _ _ hsa hsb (by rw [hcs]; omega) (free_of hv) (free_of hv)
  have hdl : (cs.drop (i * 3)).length = (n - i) * 3 := by rw [List.length_drop, hcl]; omega
  have hz2 : ¬ ((i : Int) = (n : Int)) := by omega
  have hw1 : IntKind.i64.wrap ((i : Int) + 1) = (i : Int) + 1 := by rw [IntKind.wrap_i64]; omega
  have hw2 : IntKind.i64.wrap ((n : Int) + 1) = (n : Int) + 1 := by rw [IntKind.wrap_i64]; omega
  have hb1 : (0 : Int) ≤ (i : Int) + 1 := by omega
  have hin : i ≤ n := by omega
  have htn : ((i : Int) + 1).toNat = i + 1 := by omega
  have htn2 : ((n : Int) + 1).toNat = n + 1 := by omega
  have hb2 : ¬ (c = i + 1) := by omega
  have hb3 : (i : Int) ≤ (n : Int) + 1 := by omega
  have hb4 : ¬ (c = i) := by omega
  have hb5 : ¬ (c : Int) < (n : Int) + 1 := by omega
  have hb6 : (n : Int) + 1 ≤ (c : Int) := by omega
  have hcp1 : ∀ ty dc sc, (Builtin.copy_ #[23, 23] ty #[.slice (some ⟨b, (i + 1) * 3, none⟩) (n - i) dc, .slice (some ⟨b, i * 3, none⟩) (n + 1 - i) sc]).run Try.prog w.drew = .ok (goInt (n - i : Nat)) (w.drew.setCells b ((i + 1) * 3) (cs.drop (i * 3))) := fun ty dc sc =>
    run_copy_sz w.drew _ _ ty 40 i0 b ((i + 1) * 3) (n - i) dc ⟨b, i * 3, none⟩ (n + 1 - i) sc (n - i) (cs.drop (i * 3)) Try.underlying23 hi0 (by simp only [Nat.min_def]; split <;> omega) (by rw [hdl, hz1])
      (fun j v hj => by rw [Addr.add_lit]; exact hcell (i * 3 + j) v (by rwa [List.getElem?_drop] at hj))
      (fun j hj => hsp _ (by rw [hdl] at hj; omega)) (fun j hj => hfz _) (fun v hv => h1c v (List.mem_of_mem_drop hv))
  obtain ⟨W1, hW1⟩ : ∃ W1, W1 = w.drew.setCells b ((i + 1) * 3) (cs.drop (i * 3)) := ⟨_, rfl⟩
  have hsp1 : ∀ k, k < (n + 1) * 3 → (W1.cell? ⟨b, k, none⟩).isSome = true := fun k hk => by
    rw [hW1]
    exact isSome_setCells b _ _ w.drew (fun j hj => hsp ((i + 1) * 3 + j) (by rw [hdl] at hj; omega)) _ (hsp k hk)
  have hcp2 : ∀ (W : World), (∀ x, W.cell? x = W1.cell? x) → (∀ x, W.frozen? x = W1.frozen? x) → ∀ ty dc, (Builtin.copy_ #[23, 23] ty #[.slice (some ⟨b, i * 3, none⟩) (n + 1 - i) dc, .slice (some ⟨vb, 0, none⟩) 1 1]).run Try.prog W = .ok (goInt (1 : Nat)) (W.setCells b (i * 3) vs) := fun W hWc hWf ty dc =>
    run_copy_sz W _ _ ty 40 i0 b (i * 3) (n + 1 - i) dc ⟨vb, 0, none⟩ 1 1 1 vs Try.underlying23 hi0 (by simp only [Nat.min_def]; split <;> omega) (by rw [hvl, hz1])
      (fun j v hj => by
        rw [Addr.add_lit, hWc, hW1, World.cell?_setCells_out b _ _ _ _ (fun h _ => absurd h hvb), Nat.zero_add]
        exact hvs j v hj)
      (fun j hj => by rw [hWc]; exact hsp1 _ (by rw [hvl] at hj; omega)) (fun j hj => by rw [hWf, hW1, World.frozen?_setCells]; exact hfz _) h1v
  rw [← hW1] at hcp1
  clear hcs hcl hdl htake
  go_enter Try.func106, Try.ntmps106
  go_wp2_with (simp only [hov])
  go_region_law (refine step_copy_runI rfl _ _ 23 23 rfl _ _ (by simp [Act.eval, Act.put]) (by simp [Act.eval, Act.put]) (hcp1 _ _ _) ?_)
  go_wp2_with (at_builtin; refine wpList_copy_runI _ rfl _ _ 23 23 rfl _ _ rfl rfl (hcp2 _ (fun _ => rfl) (fun _ => rfl) _ _) ?_)
  go_ret
  first | exact ⟨rfl, rfl⟩ | exact ⟨rfl, by rw [hW1]⟩

end Go.Proofs.Ytjgbconlpolddaa
