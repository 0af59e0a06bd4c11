/- The reference's l3Bases. -/
import Derived.Test.YtjgbconlpolddaaQPkBases
import Derived.Test.YtjgbconlpolddaaQPkSum
import Derived.Test.YtjgbconlpolddaaQPkObjI
import Derived.Test.YtjgbconlpolddaaQPkId
import Derived.Test.YtjgbconlpolddaaQM5
import Derived.Test.YtjgbconlpolddaaQM3
import Derived.Laws.BitsAllLaws
set_option linter.unusedVariables false
set_option linter.unusedSimpArgs false
namespace Go.Proofs.Ytjgbconlpolddaa
open Go.RowKit
set_option linter.unusedVariables false

theorem bsTo_small {es : List En} : ∀ {k : Nat}, k ≤ es.length → bsTo es k = true → ∀ j, j < k → (depL es k).getD j 0 ≤ 3 := by
  intro k
  induction k with
  | zero => intro _ _ j hj; omega
  | succ k ih =>
    intro hk h j hj
    have hl := depL_len (es := es) (k := k) (by omega)
    rw [bsTo_succ (by omega), Bool.and_eq_true, Bool.and_eq_true] at h
    rw [depL_succ (by omega)]
    by_cases e : j = k
    · subst e
      rw [List.getD_eq_getElem?_getD, List.getElem?_append_right (by omega), hl]
      simp at h ⊢
      omega
    · rw [List.getD_eq_getElem?_getD, List.getElem?_append_left (by omega), ← List.getD_eq_getElem?_getD]
      exact ih (by omega) h.1 j (by omega)

theorem baseD_small {es : List En} {k : Nat} (hk : k < es.length) (h : bsTo es k = true) (hin : inR es[k].base (-1) ((k : Int) - 1) = true) : baseD (depL es k) es[k].base ≤ 4 ∧ DepE (es.map (·.base)) (baseD (depL es k) es[k].base) k := by
  have hi := inR_iff.1 hin
  have hl := depL_len (es := es) (k := k) (by omega)
  constructor
  · unfold baseD
    split
    · omega
    · have := bsTo_small (by omega) h es[k].base.toNat (by omega)
      omega
  · have := depL_dep (es := es) (k := k + 1) (by omega) (by rw [linkTo_succ hk, bsTo_link (by omega) h, hin]; rfl) k (by omega)
    rw [depL_succ hk, List.getD_eq_getElem?_getD, List.getElem?_append_right (by omega), hl] at this
    simpa using this

set_option maxRecDepth 20000 in
set_option maxHeartbeats 4000000 in
theorem l3Bases_any (K : Nat → Bool → Prop) (v : Value) (es : List En) (w : World) (hv : EnsR K w v es) (hl : es.length ≤ 1000000000) :
    Calls Try.prog 86 #[v] w fun e w' => e = .returned (.bool (bsTo es es.length && decide (es.length ≤ 16))) ∧ Fr w.heap.size [] w w' := by
  obtain ⟨a, cap, rfl, hcap, hcell⟩ := hv.shape
  have HV := hid hv
  have HC := hid hcell
  clear hv hcell
  go_enter Try.func86, Try.ntmps86
  go_wp2
  go_loopw [3] (fun vi wx => ∃ k : Nat, k ≤ es.length ∧ vi = .int .i64 k ∧ bsTo es k = true ∧ Fr w.heap.size [] w wx) (fun vi _ => es.length - (intOf vi).toNat)
  case atStart => exact ⟨0, Nat.zero_le _, rfl, rfl, Fr.refl _ _ _⟩
  case round =>
    obtain ⟨k, hk, rfl, hbt, hfr⟩ := hrel
    have BT := hid hbt
    clear hbt
    by_cases hlt : k < es.length
    · rcases HC.out with hh | ⟨b, off, rfl, hbs, hcell⟩
      · rw [hh] at hlt; cases hlt
      · obtain ⟨u, p, h0, h1, h2, h3, hu, hp⟩ := hcell k hlt
        have c2 := hfr.cell hbs h2
        have hki : (k : Int) < (es.length : Int) := by omega
        clear h0 h1 h2 h3 hu hp hcell
        cases gi : inR es[k].base (-1) ((k : Int) - 1)
        · have NO := hid (bsTo_false hlt (.inl gi) es.length hlt)
          have GI := hid gi
          clear gi
          generalize es[k].base = eb at *
          go_wp2_with (go_at_call 107; go_must (refine (l6In_any _ _ _ _).mono ?_; rintro e w1 ⟨rfl, rfl⟩; rw [GI.out]))
          go_ret
          exact ⟨ret_bool (by rw [NO.out]; rfl), hfr⟩
        · obtain ⟨hd4, hde⟩ := baseD_small hlt BT.out gi
          have DE := hid hde
          have GI := hid gi
          have NOB := hid (fun h => bsTo_false hlt (.inr h) es.length hlt)
          have NX := hid (fun h => show bsTo es (k + 1) = true by rw [bsTo_succ hlt, BT.out, gi, decide_eq_true h]; rfl)
          clear gi hde
          generalize baseD (depL es k) es[k].base = d at *
          generalize es[k].base = eb at *
          by_cases hd : d ≤ 2
          · have id2 : ¬ (2 : Int) < (d : Int) := by omega
            have NX2 := hid (NX.out hd)
            go_wp2_with (first
              | (go_at_call 107; go_must (refine (l6In_any _ _ _ _).mono ?_; rintro e w1 ⟨rfl, rfl⟩; rw [GI.out]))
              | (go_at_call 79; go_must (refine (l3Depth_any K _ es k d _ (HV.out.grow hfr) hl DE.out (by omega)).mono ?_; rintro e w1 ⟨rfl, fr1⟩; have F1 := hid (hfr.trans fr1.nil); clear fr1)))
            go_roundw
            case rel => exact ⟨k + 1, by omega, by go_num, NX2.out, F1.out⟩
            case measure => simp [intOf]; omega
          · have id2 : (2 : Int) < (d : Int) := by omega
            have NO := hid (NOB.out hd)
            go_wp2_with (first
              | (go_at_call 107; go_must (refine (l6In_any _ _ _ _).mono ?_; rintro e w1 ⟨rfl, rfl⟩; rw [GI.out]))
              | (go_at_call 79; go_must (refine (l3Depth_any K _ es k d _ (HV.out.grow hfr) hl DE.out (by omega)).mono ?_; rintro e w1 ⟨rfl, fr1⟩; have F1 := hid (hfr.trans fr1.nil); clear fr1)))
            go_ret
            exact ⟨ret_bool (by rw [NO.out]; rfl), F1.out⟩
    · obtain rfl : k = es.length := by omega
      go_wp2
      go_ret
      exact ⟨ret_bool (by rw [BT.out, Bool.true_and, decide_eq_decide]; omega), hfr⟩

end Go.Proofs.Ytjgbconlpolddaa

/- The program's PackSum. -/
namespace Go.Proofs.Ytjgbconlpolddaa
open Go.RowKit
set_option linter.unusedVariables false

set_option maxRecDepth 20000 in
set_option maxHeartbeats 2000000 in
theorem implPackSum_any (K : Nat → Bool → Prop) (v : Value) (es : List En) (os : List Ob) (w : World) (hv : EnsR K w v es) (hm : Mild K w.heap.size) (hbl : ∀ e ∈ es, e.links.length ≤ 1000000000) (hu : unpack es = some os) :
    Calls Try.prog 16 #[v] w fun e w' => e = .returned (.int .i64 (sumTo os os.length)) ∧ Fr w.heap.size [] w w' := by
  obtain ⟨a, cap, rfl, hcap, -⟩ := hv.shape
  obtain ⟨hl, hol, hok⟩ := unpack_ok hu
  have HV := hid hv
  have HU := hid hu
  have HOK := hid hok
  have ST := hid (show (os.length : Int) = sumTo os 0 from rfl)
  have HBL := hid hbl
  clear hv hu hok hbl
  go_enter Try.func16, Try.ntmps16
  go_wp2_with (go_at_call 13; go_must (refine (implPackObjects_any K _ es _ HV.out hm HBL.out).mono ?_; rintro e w1 ⟨fr1, hres⟩; obtain ⟨v1, rfl, own1⟩ := unpacked_of HU.out hres; obtain ⟨la, lcap, rfl, -, hcell1⟩ := own1.reads.shape; have HC := hid hcell1; have F1 := hid fr1; clear fr1 hres own1 hcell1))
  go_loopw [5, 19] (fun vn vi wx => ∃ k : Nat, k ≤ os.length ∧ vi = .int .i64 k ∧ vn = .int .i64 (sumTo os k) ∧ Fr w1.heap.size [] w1 wx) (fun _ vi _ => os.length - (intOf vi).toNat)
  case atStart => exact ⟨0, Nat.zero_le _, rfl, by rw [← ST.out, hol], Fr.refl _ _ _⟩
  case round =>
    obtain ⟨k, hk, rfl, rfl, hfr⟩ := hrel
    have hsi := sumTo_in (os := os) (by omega) k
    by_cases hlt : k < os.length
    · rcases HC.out with hh | ⟨b, off, rfl, hbs, hcell⟩
      · rw [hh] at hlt; cases hlt
      · obtain ⟨u, h0, h1, h2, hu⟩ := hcell k hlt
        obtain ⟨ua, ucap, rfl, _, _⟩ := hu.shape
        have c0 := hfr.cell hbs h0
        have c1 := hfr.cell hbs h1
        have c2 := hfr.cell hbs h2
        have HL := hid (hu.grow (hfr.alloc (.cells #[.int .i64 os[k].kind, .slice ua os[k].links.length ucap, .string (tx os[k].text)] 40)))
        have hki : (k : Int) < (os.length : Int) := by omega
        have HS := hid (sumTo_succ hlt)
        have OK := hid (HOK.out _ (List.getElem_mem hlt))
        have hoi := oid_in OK.out
        have hmm : (sumTo os k * 613 + oid os[k] + 1).tmod 991 = (sumTo os k * 613 + oid os[k] + 1) % 991 := Int.tmod_eq_emod_of_nonneg (by omega)
        clear h0 h1 h2 hu hcell
        go_wp2_with (go_at_call 51; go_must (refine (id_any (new w.heap.size) _ os[k] _ HL.out OK.out).mono ?_; rintro e w2 ⟨rfl, fr2⟩; have F2 := hid ((hfr.alloc (.cells #[.int .i64 os[k].kind, .slice ua os[k].links.length ucap, .string (tx os[k].text)] 40)).trans fr2.nil); clear fr2))
        go_roundw
        case rel => exact ⟨k + 1, by omega, by go_num, by rw [HS.out], F2.out⟩
        case measure => simp [intOf]; omega
    · obtain rfl : k = os.length := by omega
      go_wp2
      go_ret
      exact ⟨rfl, F1.out.trans hfr.nil⟩

end Go.Proofs.Ytjgbconlpolddaa

/- FnPackSumText: plain facts. -/
namespace Go.Proofs.Ytjgbconlpolddaa
open Go.RowKit
set_option linter.unusedVariables false

theorem fmOb_set2 (zs : List (Ob × Value)) {k : Nat} (hk : k < zs.length) (x : Tx) : (zs.flatMap encOb).set (k * 3 + 2) (.string (tx x)) = (zs.set k ({ zs[k].1 with text := x }, zs[k].2)).flatMap encOb := by
  induction zs generalizing k with
  | nil => simp at hk
  | cons z zs ih =>
    cases k with
    | zero => simp [encOb]
    | succ k =>
      have hk' : k < zs.length := by simpa using hk
      have e1 : (k + 1) * 3 + 2 = (encOb z).length + (k * 3 + 2) := by simp [encOb]; omega
      simp only [List.flatMap_cons, List.set_cons_succ, List.getElem_cons_succ]
      rw [e1, List.set_append_right _ _ (by omega), Nat.add_sub_cancel_left, ih hk']

theorem oneObs {K : Nat → Bool → Prop} {w : World} {zs : List (Ob × Value)} (h : ∀ z ∈ zs, IntsR K w z.2 z.1.links) : ∀ u ∈ zs.flatMap encOb, u.oneCell' = true := by
  intro u hu
  obtain ⟨z, hz, hu⟩ := List.mem_flatMap.1 hu
  simp [encOb] at hu
  rcases hu with rfl | rfl | rfl
  · rfl
  · exact SlR.one (h z hz)
  · rfl

/-- The clone, and a text of it laid anew. -/
theorem ObsOwn.clonedText {lo l4 : Nat} {w : World} {g cap : Nat} {os : List Ob} {zs : List (Ob × Value)} (h : w.ownsRow l4 40 3 (.slice (some ⟨g, 0, none⟩) os.length cap) os.length (zs.flatMap encOb)) (hl : lo ≤ l4) (hm : zs.map (·.1) = os) (hz : ∀ z ∈ zs, IntsR (new lo) w z.2 z.1.links) {k : Nat} (hk : k < os.length) (x : Tx) :
    (∃ u, w.cell? ⟨g, k * 3 + 2, none⟩ = some u) ∧ w.frozen? ⟨g, k * 3 + 2, none⟩ = false ∧ ObsR (new lo) (w.setCell ⟨g, k * 3 + 2, none⟩ (.string (tx x))) (.slice (some ⟨g, 0, none⟩) os.length cap) (os.set k { os[k] with text := x }) ∧
      Fr lo [40] w (w.setCell ⟨g, k * 3 + 2, none⟩ (.string (tx x))) := by
  subst hm
  rw [List.length_map] at h
  have hk' : k < zs.length := by simpa using hk
  have hlen : (zs.flatMap encOb).length = zs.length * 3 := by
    clear h hz hk hk'
    induction zs with
    | nil => rfl
    | cons z zs ih => rw [List.flatMap_cons, List.length_append, ih]; simp [encOb]; omega
  obtain ⟨s1, s2⟩ := h.stored (k * 3 + 2) (.string (tx x))
  have F := Fr.ofOwnGrown (T := [40]) (B := lo) h s2 hl (by simp)
  refine ⟨⟨(zs.flatMap encOb)[k * 3 + 2]'(by omega), ?_⟩, h.frozenAt _, ?_, F⟩
  · rw [h.cellAt (k * 3 + 2) (by omega), List.getElem?_eq_getElem (by omega)]
  · rw [fmOb_set2 zs hk' x] at s1
    refine ObsOwn.reads (lo := lo) ⟨zs.set k ({ zs[k].1 with text := x }, zs[k].2), ?_, ?_, fun z hz' => ?_⟩
    · rw [List.map_set]; simp
    · rw [List.length_set, List.length_map]; exact ownsRow_lo s1 hl
    · rcases List.mem_or_eq_of_mem_set hz' with hm | hm
      · exact (hz z hm).keep F (Safe.new (by simp))
      · subst hm
        exact (hz _ (List.getElem_mem hk')).keep F (Safe.new (by simp))

/-- One byte laid in a new block, read as a text. -/
theorem conv_byte (w : World) (c : UInt8) : (convert 22 9 (.slice (some ⟨w.heap.size, 0, none⟩) 1 1)).run Try.prog (w.alloc (.cells #[.int .u8 (c.toNat : Int)] 5)) = .ok (.string (tx [c])) (w.alloc (.cells #[.int .u8 (c.toNat : Int)] 5)) := by
  refine run_convert_bytes_back (P := Try.prog) (w.alloc (.cells #[.int .u8 (c.toNat : Int)] 5)) 22 9 5 ⟨w.heap.size, 0, none⟩ 1 [c] Try.underlying22 Try.underlying5 Try.underlying9 (fun j hj => ?_)
  have hj0 : j = 0 := by simpa using hj
  subst hj0
  exact cell_of (o := 0) (heap_alloc_new w (.cells #[.int .u8 (c.toNat : Int)] 5)) rfl

theorem xor_byte (c0 : UInt8) (n : Nat) : ∃ c1 : UInt8, c1 ≠ c0 ∧ bits .xor .u8 (c0.toNat : Int) (1 + (n : Int) % 3) = (c1.toNat : Int) := by
  have hl := c0.toNat_lt
  obtain ⟨d, h1, h2, hd⟩ : ∃ d : Nat, 1 ≤ d ∧ d ≤ 3 ∧ 1 + (n : Int) % 3 = (d : Int) := by
    have h3 : (n : Int) % 3 = 0 ∨ (n : Int) % 3 = 1 ∨ (n : Int) % 3 = 2 := by omega
    rcases h3 with h | h | h
    · exact ⟨1, by omega, by omega, by rw [h]; rfl⟩
    · exact ⟨2, by omega, by omega, by rw [h]; rfl⟩
    · exact ⟨3, by omega, by omega, by rw [h]; rfl⟩
  have hx : (c0 ^^^ UInt8.ofNat d).toNat = c0.toNat ^^^ d := by
    rw [UInt8.toNat_xor, UInt8.toNat_ofNat', Nat.mod_eq_of_lt (by omega)]
  refine ⟨c0 ^^^ UInt8.ofNat d, fun e => ?_, ?_⟩
  · rw [e] at hx
    have h3 : c0.toNat ^^^ c0.toNat = c0.toNat ^^^ (c0.toNat ^^^ d) := by rw [← hx]
    rw [← Nat.xor_assoc, Nat.xor_self, Nat.zero_xor] at h3
    omega
  · rw [hd, hx, u8_xor_nat _ _ (by omega) (by omega)]

theorem sum_byte (c0 : UInt8) (t0 : Tx) (n : Nat) (hp : 0 < (tx (c0 :: t0)).size) : ∃ c1 : UInt8, c1 ≠ c0 ∧ bits .xor .u8 (((tx (c0 :: t0))[0]'hp).toNat : Int) (1 + (n : Int) % 3) = (c1.toNat : Int) ∧ bits .xor .u8 (((tx (c0 :: t0))[0]'hp).toNat : Int) (IntKind.u8.wrap (IntKind.i64.wrap (1 + (n : Int).tmod 3))) = (c1.toNat : Int) ∧ bits .xor .u8 (c0.toNat : Int) (1 + (n : Int) % 3) = (c1.toNat : Int) := by
  obtain ⟨c1, h1, h2⟩ := xor_byte c0 n
  have h0 : (tx (c0 :: t0))[0]'hp = c0 := rfl
  have h3 : IntKind.u8.wrap (IntKind.i64.wrap (1 + (n : Int).tmod 3)) = 1 + (n : Int) % 3 := by
    rw [Int.tmod_eq_emod_of_nonneg (by omega)]
    have h3 : (n : Int) % 3 = 0 ∨ (n : Int) % 3 = 1 ∨ (n : Int) % 3 = 2 := by omega
    rcases h3 with h | h | h <;> rw [h] <;> decide
  exact ⟨c1, h1, by rw [h0]; exact h2, by rw [h0, h3]; exact h2, h2⟩

theorem sum_conv (W : World) (c1 : UInt8) : (convert 22 9 (.slice (some ⟨W.heap.size, 0, none⟩) 1 1)).run Try.prog (W.alloc (.cells #[.int .u8 (c1.toNat : Int)] 5)).drew = .ok (.string (tx [c1])) (W.alloc (.cells #[.int .u8 (c1.toNat : Int)] 5)).drew := by
  refine run_convert_bytes_back (P := Try.prog) (W.alloc (.cells #[.int .u8 (c1.toNat : Int)] 5)).drew 22 9 5 ⟨W.heap.size, 0, none⟩ 1 [c1] Try.underlying22 Try.underlying5 Try.underlying9 (fun j hj => ?_)
  have hj0 : j = 0 := by simpa using hj
  subst hj0
  exact cell_of (w := (W.alloc (.cells #[.int .u8 (c1.toNat : Int)] 5)).drew) (o := 0) (blk_drew (heap_alloc_new W (.cells #[.int .u8 (c1.toNat : Int)] 5))) rfl

theorem few_set {os : List Ob} (h : Few os) {k : Nat} (hk : k < os.length) {x : Tx} (hx : x.length ≤ 9) : Few (os.set k { os[k] with text := x }) := by
  intro o ho
  rcases List.mem_or_eq_of_mem_set ho with ho | ho
  · exact h o ho
  · subst ho
    have := h _ (List.getElem_mem hk)
    exact ⟨this.1, hx, this.2.2⟩

/-- What the law asks, told of the objects: another first byte of a text. -/
theorem sum_law {os : List Ob} (hf : Few os) (hl : os.length ≤ 17) (hp : packOk os = true) {k : Nat} (hk : k < os.length) {c0 c1 : UInt8} {t0 : Tx} (ht : os[k].text = c0 :: t0) (hc : c1 ≠ c0) :
    ∃ os' : List Ob, os.set k { os[k] with text := c1 :: t0 } = os' ∧ ObsB os' ∧ packOk os' = true ∧ unpack (pack os') = some os' ∧ (∀ e ∈ pack os', e.links.length ≤ 1000000000) ∧ sumTo os' os'.length ≠ sumTo os os.length := by
  obtain ⟨h1, h2⟩ := packOk_all hp
  have ho := h2 _ (List.getElem_mem hk)
  have ho' := obOk_first (b' := c1) ht ho
  have hlen : (c1 :: t0).length ≤ 9 := by
    have := (obOk_len ho).2
    rw [ht] at this
    simp at this ⊢
    omega
  have hf' := few_set hf hk hlen
  have hl' : (os.set k { os[k] with text := c1 :: t0 }).length ≤ 17 := by simpa using hl
  have hp' : packOk (os.set k { os[k] with text := c1 :: t0 }) = true := packOk_set hp ho'
  refine ⟨_, rfl, hf'.b hl', hp', unpack_pack hp', fun e he => ?_, ?_⟩
  · have := (packEn_b hf' hl' true).2 e (by rw [if_pos rfl]; exact he)
    exact this.1
  · rw [List.length_set]
    exact sumTo_set hk h1 ho ho' (oid_first ht hc ho ho')

end Go.Proofs.Ytjgbconlpolddaa

/- The reference's copies of objects. -/
namespace Go.Proofs.Ytjgbconlpolddaa
open Go.RowKit
set_option linter.unusedVariables false

theorem twoBoxes (w : World) (a b : Obj) : ((w.alloc a).alloc b).heap[w.heap.size]? = some a ∧ ((w.alloc a).alloc b).heap[w.heap.size + 1]? = some b :=
  ⟨heap_up (heap_alloc_new w a) b, by have := heap_alloc_new (w.alloc a) b; simpa using this⟩

set_option maxRecDepth 20000 in
set_option maxHeartbeats 4000000 in
theorem l1One_any (K : Nat → Bool → Prop) (v : Value) (o : Ob) (w : World) (hv : IntsR K w v o.links) (hl : o.links.length ≤ 1000000000) :
    Calls Try.prog 109 #[.agg #[.int .i64 o.kind, v, .string (tx o.text)]] w fun e w' => ∃ v', e = .returned (.agg #[.int .i64 o.kind, v', .string (tx o.text)]) ∧ IntsR (new w.heap.size) w' v' o.links ∧ Fr w.heap.size [] w w' := by
  obtain ⟨a, cap, rfl, hcap, -⟩ := hv.shape
  obtain ⟨i0, hi, hz0, hz1, hz2⟩ := info_parts infoI
  have F0 := hid (((Fr.refl w.heap.size [] w).alloc (.cells #[.int .i64 o.kind, .slice a o.links.length cap, .string (tx o.text)] 40)).alloc (.cells #[.int .i64 0, .slice none 0 0, .string ⟨#[]⟩] 40))
  have B0 := hid (twoBoxes w (.cells #[.int .i64 o.kind, .slice a o.links.length cap, .string (tx o.text)] 40) (.cells #[.int .i64 0, .slice none 0 0, .string ⟨#[]⟩] 40))
  have HV := hid (hv.grow F0.out)
  clear hv
  go_enter Try.func109, Try.ntmps109
  go_wp2_with (at_builtin; go_must (refine wpList_clone rfl (.tmp 3) (.tmp 5) 29 rfl 3 i0 (.int .i64 0) 1 8 Try.underlying29 hi hz0 hz1 hz2 rfl (by decide) _ (by rfl) (by simp) K 3 _ _ _ (by rfl) HV.out (oneI _) (by unfold maxLen; omega) (by omega) ?_; intro v1 w1 own1 fr1; obtain ⟨ca, ccap, rfl⟩ := own_any own1; have F1 := hid (F0.out.trans fr1.nil); have BA := hid (fr1.keep _ _ B0.out.1 (.inr (by simp))); have BB := hid (fr1.keep _ _ B0.out.2 (.inr (by simp))); have OWN1 := hid (ownsRow_lo own1 (lo' := w.heap.size) F0.out.size); have a0 := cell_of (o := 0) BA.out rfl; have a1 := cell_of (o := 1) BA.out rfl; have a2 := cell_of (o := 2) BA.out rfl; have af := fun o => free_of (o := o) BA.out; have b0 := cell_of (o := 0) BB.out rfl; have b1 := cell_of (o := 1) BB.out rfl; have b2 := cell_of (o := 2) BB.out rfl; have bf := fun o => free_of (o := o) BB.out; have hbb := lt_of_get BB.out; clear own1 fr1))
  have e := fill3 (x0 := .int .i64 o.kind) (x1 := .slice ca o.links.length ccap) (x2 := .string (tx o.text)) (block_setne (p := ⟨w.heap.size, 1, none⟩) (u := .slice ca o.links.length ccap) BB.out (by dsimp only; omega))
  have e0 := cell_of (o := 0) e rfl
  have e1 := cell_of (o := 1) e rfl
  have e2 := cell_of (o := 2) e rfl
  have FS := (Fr.refl 0 [40] w1).setOld (p := ⟨w.heap.size, 1, none⟩) BA.out (Nat.zero_le _) (by simp [otag]) (.slice ca o.links.length ccap)
  have FT := FS.fill3 (x0 := .int .i64 o.kind) (x1 := .slice ca o.links.length ccap) (x2 := .string (tx o.text)) (block_setne (p := ⟨w.heap.size, 1, none⟩) (u := .slice ca o.links.length ccap) BB.out (by dsimp only; omega)) (Nat.zero_le _)
  exact bodyPost_ret (v := .agg #[.int .i64 o.kind, .slice ca o.links.length ccap, .string (tx o.text)]) (by simp [results, Try.results109, go_sem, e0, e1, e2]) rfl
    ⟨_, rfl, (show IntsR (new w.heap.size) w1 (.slice ca o.links.length ccap) o.links from SlR.ofOwns OWN1.out).keep FT (Safe.new (by simp)), (F1.out.setNew (p := ⟨w.heap.size, 1, none⟩) (by dsimp only; omega) _).new3 (by omega)⟩

/-- A list of one object and its value, as a source. -/
theorem take_snoc {os : List Ob} {k : Nat} (hk : k < os.length) : os.take (k + 1) = os.take k ++ [os[k]] := by rw [List.take_add_one, List.getElem?_eq_getElem hk]; rfl

set_option maxRecDepth 20000 in
set_option maxHeartbeats 4000000 in
theorem l1Copy_any (K : Nat → Bool → Prop) (v : Value) (os : List Ob) (w : World) (hv : ObsR K w v os) (hb : ∀ o ∈ os, o.links.length ≤ 1000000000) (hl : os.length ≤ 1000000000) :
    Calls Try.prog 89 #[v] w fun e w' => ∃ v', e = .returned v' ∧ ObsOwn w.heap.size w' v' os ∧ v' ≠ .slice none 0 0 ∧ Fr w.heap.size [] w w' := by
  obtain ⟨a, cap, rfl, hcap, hcell⟩ := hv.shape
  obtain ⟨i0, hi, hz0, hz1, hz2⟩ := info_parts infoOb
  have HC := hid hcell
  have HB := hid hb
  have OE := hid (ObsOwn.empty (w := w) rfl)
  clear hv hcell hb
  go_enter Try.func89, Try.ntmps89
  go_wp2
  go_loopw [3, 4] (fun vo vi wx => ∃ (k : Nat) (xs : List Ob), k ≤ os.length ∧ vi = .int .i64 k ∧ xs = os.take k ∧ xs.length = k ∧ ObsOwn w.heap.size wx vo xs ∧ vo ≠ .slice none 0 0 ∧ Fr w.heap.size [] w wx) (fun _ vi _ => os.length - (intOf vi).toNat)
  case atStart => exact ⟨0, [], Nat.zero_le _, rfl, by simp, rfl, OE.out, (by simp), (Fr.refl _ _ _).alloc _⟩
  case round =>
    obtain ⟨k, xs, hk, rfl, hxs, hxl, hown, hvn, hfr⟩ := hrel
    have XS := hid hxs
    have XL := hid hxl
    have hs := hfr.size
    have VN := hid hvn
    clear hxs hvn
    obtain ⟨zs, z1, z2, z3⟩ := hown
    rw [hxl] at z2
    have Z1 := hid z1
    have Z3 := hid z3
    have Z2 := hid z2
    clear z1 z3
    obtain ⟨oa, ocap, rfl⟩ := own_any z2
    clear z2 hxl
    by_cases hlt : k < os.length
    · rcases HC.out with hh | ⟨b, off, rfl, hbs, hcell⟩
      · rw [hh] at hlt; cases hlt
      · obtain ⟨u, h0, h1, h2, hu⟩ := hcell k hlt
        obtain ⟨ua, ucap, rfl, _, _⟩ := hu.shape
        have c0 := hfr.cell hbs h0
        have c1 := hfr.cell hbs h1
        have c2 := hfr.cell hbs h2
        have HU := hid (hu.grow hfr)
        have hki : (k : Int) < (os.length : Int) := by omega
        have hil := HB.out _ (List.getElem_mem hlt)
        have TS := hid (take_snoc hlt)
        clear h0 h1 h2 hu hcell
        generalize os[k] = o at *
        go_wp2_with (first
          | (go_at_call 109; go_must (refine (l1One_any _ _ o _ HU.out hil).mono ?_; rintro e w1 ⟨u1, rfl, hu1, fr1⟩; obtain ⟨va, vcap, rfl, _, _⟩ := hu1.shape; have HU1 := hid (hu1.weak (K' := new w.heap.size) (fun b t _ hb => ⟨Nat.le_trans hs hb.1, hb.2⟩)); have F1 := hid (hfr.trans fr1.nil); have FR1 := hid fr1; have hs1 := fr1.size; clear hu1 fr1))
          | (at_builtin; go_must (refine wpList_push rfl (.tmp 12) (.tmp 18) 23 rfl w.heap.size 40 i0 (.agg #[.int .i64 0, .slice none 0 0, .string ⟨#[]⟩]) 3 48 Try.underlying23 hi hz0 hz1 hz2 rfl (by decide) _ _ _ (ownsRow_grow Z2.out FR1.out) rfl (oneOb3 _ _ _ _ _) (by unfold maxLen; omega) (by omega) (by omega) (by rfl) _ (by rfl) (by simp [World.setCell]) ?_; intro v7 w7 own7 fr7 _; have OWN7 := hid own7; have F7 := hid fr7; clear own7 fr7)))
        go_roundw
        case rel => exact ⟨k + 1, xs ++ [o], by omega, by go_num, by rw [TS.out, XS.out], by simp [XL.out], ObsOwn.snoc Z1.out (fun z hz => ((Z3.out z hz).grow FR1.out).keep F7.out (Safe.new (by simp))) (HU1.out.keep F7.out (Safe.new (by simp))) XL.out.symm OWN7.out, (by obtain ⟨g, cap, e, _⟩ := own_shape OWN7.out (by omega); rw [e]; simp), F1.out.after F7.out⟩
        case measure => simp [intOf]; omega
    · obtain rfl : k = os.length := by omega
      go_wp2
      go_ret
      have e1 : xs = os := by rw [XS.out, List.take_length]
      subst e1
      exact ⟨_, rfl, ⟨zs, Z1.out, Z2.out, Z3.out⟩, VN.out, hfr⟩

end Go.Proofs.Ytjgbconlpolddaa
