/- The program's PackMake. -/
import Derived.Test.YtjgbconlpolddaaGreatQPkPackS2
import Derived.Deep.DeepCutAuto
set_option linter.unusedVariables false
set_option linter.unusedSimpArgs false
namespace Go.Proofs.YtjgbconlpolddaaGreat
open Go.RowKit
set_option linter.unusedVariables false

/-- A node of depth d in block b, with its text: from lo on, below hi. -/
def NodeD (lo hi : Nat) (w : World) : Nat → Nat → Tx → Prop
  | 0, b, t => ∃ a0 a1 a2 a3, lo ≤ b ∧ b < hi ∧ w.heap[b]? = some (.cells #[a0, a1, a2, a3, .pointer none, .string (tx t)] 72 (0, 0))
  | d + 1, b, t => ∃ a0 a1 a2 a3 b' t', lo ≤ b ∧ b < hi ∧ w.heap[b]? = some (.cells #[a0, a1, a2, a3, .pointer (some ⟨b', 0, none⟩), .string (tx t)] 72 (0, 0)) ∧ NodeD lo hi w d b' t'

theorem NodeD.keep {lo hi B : Nat} {T : List Nat} {w w' : World} (hf : Fr B T w w') (hT : 72 ∉ T) : ∀ {d b : Nat} {t : Tx}, NodeD lo hi w d b t → NodeD lo hi w' d b t := by
  intro d
  induction d with
  | zero =>
    rintro b t ⟨a0, a1, a2, a3, h1, h2, h3⟩
    exact ⟨a0, a1, a2, a3, h1, h2, hf.keep _ _ h3 (.inr (by simpa [otag] using hT))⟩
  | succ d ih =>
    rintro b t ⟨a0, a1, a2, a3, b', t', h1, h2, h3, h4⟩
    exact ⟨a0, a1, a2, a3, b', t', h1, h2, hf.keep _ _ h3 (.inr (by simpa [otag] using hT)), ih h4⟩

theorem NodeD.set {lo hi : Nat} {w : World} {p : Addr} {u : Value} (hp : hi ≤ p.block) : ∀ {d b : Nat} {t : Tx}, NodeD lo hi w d b t → NodeD lo hi (w.setCell p u) d b t := by
  intro d
  induction d with
  | zero =>
    rintro b t ⟨a0, a1, a2, a3, h1, h2, h3⟩
    exact ⟨a0, a1, a2, a3, h1, h2, block_setne h3 (by omega)⟩
  | succ d ih =>
    rintro b t ⟨a0, a1, a2, a3, b', t', h1, h2, h3, h4⟩
    exact ⟨a0, a1, a2, a3, b', t', h1, h2, block_setne h3 (by omega), ih h4⟩

theorem NodeD.up {lo hi hi' : Nat} {w : World} (hh : hi ≤ hi') : ∀ {d b : Nat} {t : Tx}, NodeD lo hi w d b t → NodeD lo hi' w d b t := by
  intro d
  induction d with
  | zero =>
    rintro b t ⟨a0, a1, a2, a3, h1, h2, h3⟩
    exact ⟨a0, a1, a2, a3, h1, by omega, h3⟩
  | succ d ih =>
    rintro b t ⟨a0, a1, a2, a3, b', t', h1, h2, h3, h4⟩
    exact ⟨a0, a1, a2, a3, b', t', h1, by omega, h3, ih h4⟩

/-- The block of a node. -/
theorem NodeD.at {lo hi : Nat} {w : World} {d b : Nat} {t : Tx} (h : NodeD lo hi w d b t) : lo ≤ b ∧ b < hi ∧ ∃ a0 a1 a2 a3 pb, w.heap[b]? = some (.cells #[a0, a1, a2, a3, .pointer pb, .string (tx t)] 72 (0, 0)) ∧
    ((pb = none ∧ d = 0) ∨ ∃ b' t' d', pb = some ⟨b', 0, none⟩ ∧ d = d' + 1 ∧ NodeD lo hi w d' b' t') := by
  cases d with
  | zero =>
    obtain ⟨a0, a1, a2, a3, h1, h2, h3⟩ := h
    exact ⟨h1, h2, a0, a1, a2, a3, none, h3, .inl ⟨rfl, rfl⟩⟩
  | succ d =>
    obtain ⟨a0, a1, a2, a3, b', t', h1, h2, h3, h4⟩ := h
    exact ⟨h1, h2, a0, a1, a2, a3, _, h3, .inr ⟨b', t', d, rfl, rfl, h4⟩⟩

set_option maxRecDepth 20000 in
set_option maxHeartbeats 2000000 in
theorem depth_any {lo hi d b : Nat} {t : Tx} {w : World} (h : NodeD lo hi w d b t) (hd : d ≤ 1000) :
    Calls Tryz.prog 37 #[.pointer (some ⟨b, 0, none⟩)] w fun e w' => e = .returned (.int .i64 d) ∧ w = w' := by
  have H := hid h
  clear h
  go_enter Tryz.func37, Tryz.ntmps37
  go_wp2
  go_loopw [0, 3] (fun vp vn wx => ∃ (b' d' j : Nat) (t' : Tx), vp = .pointer (some ⟨b', 0, none⟩) ∧ vn = .int .i64 j ∧ j + d' = d ∧ NodeD lo hi w d' b' t' ∧ wx = w) (fun _ vn _ => d - (intOf vn).toNat)
  case atStart => exact ⟨b, d, 0, t, rfl, rfl, by omega, H.out, rfl⟩
  case round =>
    obtain ⟨b', d', j, t', rfl, rfl, hj, hn, rfl⟩ := hrel
    obtain ⟨_, _, a0, a1, a2, a3, pb, hb, hc⟩ := hn.at
    have c4 := cell_of (o := 4) hb rfl
    clear hb hn
    rcases hc with ⟨rfl, rfl⟩ | ⟨b2, t2, d2, rfl, rfl, hn2⟩
    · go_wp2
      go_ret
      exact ⟨ret_int (by omega), rfl⟩
    · have HN := hid hn2
      clear hn2
      go_wp2
      go_roundw
      case rel => exact ⟨b2, d2, j + 1, t2, rfl, by go_num, by omega, HN.out, (by first | rfl | trivial)⟩
      case measure => simp [intOf]; omega

theorem onePtr (a : Option Addr) : ∀ u ∈ [Value.pointer a], u.oneCell' = true := by
  intro u hu
  simp at hu
  subst hu; rfl

theorem blk_drew {w : World} {b : Nat} {o : Obj} (h : w.heap[b]? = some o) : w.drew.heap[b]? = some o := h

/-- Four cells of a block laid anew. -/
theorem fill4 {w : World} {E T : Nat} {z0 z1 z2 z3 x0 x1 x2 x3 : Value} (h : w.heap[E]? = some (.cells #[z0, z1, z2, z3] T (0, 0))) :
    ((((w.setCell ⟨E, 0, none⟩ x0).setCell ⟨E, 1, none⟩ x1).setCell ⟨E, 2, none⟩ x2).setCell ⟨E, 3, none⟩ x3).heap[E]? = some (.cells #[x0, x1, x2, x3] T (0, 0)) := by
  have := block_set (block_set (block_set (block_set h 0 x0) 1 x1) 2 x2) 3 x3
  simpa using this

theorem other4 {w : World} {E k : Nat} {o : Obj} {x0 x1 x2 x3 : Value} (h : w.heap[k]? = some o) (hk : k ≠ E) :
    ((((w.setCell ⟨E, 0, none⟩ x0).setCell ⟨E, 1, none⟩ x1).setCell ⟨E, 2, none⟩ x2).setCell ⟨E, 3, none⟩ x3).heap[k]? = some o :=
  block_setne (block_setne (block_setne (block_setne h hk) hk) hk) hk

theorem Fr.fill4 {B E T : Nat} {a w : World} {z0 z1 z2 z3 x0 x1 x2 x3 : Value} (hf : Fr B [T] a w) (h : w.heap[E]? = some (.cells #[z0, z1, z2, z3] T (0, 0))) (hB : B ≤ E) :
    Fr B [T] a ((((w.setCell ⟨E, 0, none⟩ x0).setCell ⟨E, 1, none⟩ x1).setCell ⟨E, 2, none⟩ x2).setCell ⟨E, 3, none⟩ x3) := by
  have b1 := block_set h 0 x0
  have b2 := block_set b1 1 x1
  have b3 := block_set b2 2 x2
  exact (((hf.setOld (p := ⟨E, 0, none⟩) h hB (by simp [otag]) x0).setOld (p := ⟨E, 1, none⟩) b1 hB (by simp [otag]) x1).setOld (p := ⟨E, 2, none⟩) b2 hB (by simp [otag]) x2).setOld (p := ⟨E, 3, none⟩) b3 hB (by simp [otag]) x3

theorem Fr.new4 {B E : Nat} {T : List Nat} {a w : World} {x0 x1 x2 x3 : Value} (hf : Fr B T a w) (hB : a.heap.size ≤ E) :
    Fr B T a ((((w.setCell ⟨E, 0, none⟩ x0).setCell ⟨E, 1, none⟩ x1).setCell ⟨E, 2, none⟩ x2).setCell ⟨E, 3, none⟩ x3) :=
  (((hf.setNew (p := ⟨E, 0, none⟩) hB x0).setNew (p := ⟨E, 1, none⟩) hB x1).setNew (p := ⟨E, 2, none⟩) hB x2).setNew (p := ⟨E, 3, none⟩) hB x3

/-- The node of a base. -/
def ptrOf (bs : List Nat) (b : Int) : Value := if b < 0 then .pointer none else .pointer (some ⟨bs.getD b.toNat 0, 0, none⟩)

set_option maxRecDepth 20000 in
set_option maxHeartbeats 4000000 in
theorem implPackMake_any (K : Nat → Bool → Prop) (v : Value) (os : List Ob) (w : World) (hv : ObsR K w v os) (hb : ObsB os) (hg : Glob w) :
    Calls Tryz.prog 19 #[v] w fun e w' => ∃ v', e = .returned (.tuple #[v', .bool (packOk os)]) ∧ EnsOwn w.heap.size w' v' (if packOk os then pack os else []) ∧ Fr w.heap.size [] w w' := by
  obtain ⟨a, cap, rfl, hcap, hcell⟩ := hv.shape
  have HV := hid hv
  have HB := hid hb
  have hbl := hb.1
  have HG := hid hg
  have hpos : 0 < w.heap.size := by obtain ⟨m, hm⟩ := hg; exact World.block_lt_of_cell? _ _ hm
  obtain ⟨ien, hei, hez0, hez1, hez2⟩ := info_parts infoEn
  obtain ⟨ipp, hpi, hpz0, hpz1, hpz2⟩ := info_parts infoPp
  clear hv hb hg
  generalize hP : packOk os = P
  have HPK := hid hP
  by_cases hl16 : os.length ≤ 16
  · have i16 : ¬ (16 : Int) < (os.length : Int) := by omega
    have i17 : (os.length : Int) ≤ 16 := by omega
    cases ga : os.all obOk
    · obtain rfl : P = false := by rw [← hP]; unfold packOk; rw [ga]; simp
      have GA := hid ga
      clear hP ga hcell
      go_enter Tryz.func19, Tryz.ntmps19
      go_wp2_with (go_at_call 47; go_must (refine (containsFunc_any K _ os _ HV.out HB.out _ rfl).mono ?_; rintro e w1 ⟨rfl, fr1⟩; rw [GA.out]; have F1 := hid fr1; clear fr1))
      go_ret2
      exact ⟨_, rfl, EnsOwn.nil _ _, F1.out⟩
    · obtain rfl : P = true := by rw [← hP]; unfold packOk; rw [ga]; simp; omega
      have GA := hid ga
      clear hP ga
      go_enter Tryz.func19, Tryz.ntmps19
      go_wp2_with (go_at_call 47; go_must (refine (containsFunc_any K _ os _ HV.out HB.out _ rfl).mono ?_; rintro e w1 ⟨rfl, fr1⟩; rw [GA.out]; have F1 := hid fr1; clear fr1))
      go_loopw [4, 5, 22] (fun vn vo vi wx => ∃ (k hi : Nat) (bs : List Nat), k ≤ os.length ∧ vi = .int .i64 k ∧ bs.length = k ∧ wx.ownsRow w.heap.size 67 1 vn k (bs.map fun b => .pointer (some ⟨b, 0, none⟩)) ∧
          (∀ j, j < k → NodeD w.heap.size hi wx ((pk os k).2.getD j 2) (bs.getD j 0) ((os.map (·.text)).getD j [])) ∧ hi ≤ wx.heap.size ∧ EnsOwn w.heap.size wx vo (pk os k).1 ∧ Fr w.heap.size [] w wx) (fun _ _ vi _ => os.length - (intOf vi).toNat)
      case atStart => exact ⟨0, 0, [], Nat.zero_le _, rfl, rfl, World.ownsRow_nil _ _ _ _, fun j hj => absurd hj (Nat.not_lt_zero _), Nat.zero_le _, EnsOwn.nil _ _, F1.out⟩
      case round =>
        obtain ⟨k, hi, bs, hk, rfl, hbl2, hnow, hnod, hhi, hown, hfr⟩ := hrel
        obtain ⟨va, vcap, rfl, _, _⟩ := hown.reads.shape
        obtain ⟨na, ncap, rfl⟩ := own_any hnow
        have OWN := hid hown
        have NOW := hid hnow
        have NOD := hid hnod
        have hpl := (pk_len hk).1
        rw [hpl] at OWN ⊢
        have hls := hfr.size
        clear hown hnow hnod
        by_cases hlt : k < os.length
        · rcases hcell with hh | ⟨b, off, rfl, hbs, hcell⟩
          · rw [hh] at hlt; cases hlt
          · obtain ⟨u, h0, h1, h2, hu⟩ := hcell k hlt
            obtain ⟨ua, ucap, rfl, _, _⟩ := hu.shape
            have c0 := hfr.cell hbs h0
            have c1 := hfr.cell hbs h1
            have c2 := hfr.cell hbs h2
            have HU := hid (hu.grow hfr)
            have hki : (k : Int) < (os.length : Int) := by omega
            have hbk := HB.out.2 _ (List.getElem_mem hlt)
            have OK := hid (show obOk os[k] = true from List.all_eq_true.1 GA.out _ (List.getElem_mem hlt))
            have hll := (obOk_len OK.out).1
            have INV := hid (pk_inv (os := os) (i := k) hk)
            have LEN := hid (pk_len (os := os) (i := k) hk)
            have PS := hid (pk_succ hlt)
            have FA := hid (((Fr.refl wr.heap.size [] wr).alloc (.cells #[.int .i64 os[k].kind, .slice ua os[k].links.length ucap, .string (tx os[k].text)] 37)).drew)
            have OA := hid (heap_alloc_new wr (.cells #[.int .i64 os[k].kind, .slice ua os[k].links.length ucap, .string (tx os[k].text)] 37))
            have FB := hid ((((Fr.refl wr.heap.size [] wr).alloc (.cells #[.int .i64 os[k].kind, .slice ua os[k].links.length ucap, .string (tx os[k].text)] 37)).alloc (.cells #[.int .i64 0, .slice none 0 0, .int .i64 0, .slice none 0 0] 50)).drew)
            have OB := hid (heap_up OA.out (.cells #[.int .i64 0, .slice none 0 0, .int .i64 0, .slice none 0 0] 50))
            have EB := hid (heap_alloc_eq (wr.alloc (.cells #[.int .i64 os[k].kind, .slice ua os[k].links.length ucap, .string (tx os[k].text)] 37)) (.cells #[.int .i64 0, .slice none 0 0, .int .i64 0, .slice none 0 0] 50) (n := wr.heap.size + 1) (by simp))
            have SK : ∀ x : World, x.heap[wr.heap.size]? = some (.cells #[.int .i64 os[k].kind, .slice ua os[k].links.length ucap, .string (tx os[k].text)] 37 (0, 0)) → x.cell? ⟨wr.heap.size, 0, none⟩ = some (.int .i64 os[k].kind) ∧ x.cell? ⟨wr.heap.size, 1, none⟩ = some (.slice ua os[k].links.length ucap) ∧ x.cell? ⟨wr.heap.size, 2, none⟩ = some (.string (tx os[k].text)) ∧ wr.heap.size < x.heap.size := fun x h => ⟨cell_of h rfl, cell_of h rfl, cell_of h rfl, lt_of_get h⟩
            have SKH := hid SK
            have SA := hid (SK (wr.alloc (.cells #[.int .i64 os[k].kind, .slice ua os[k].links.length ucap, .string (tx os[k].text)] 37)).drew OA.out)
            have SB := hid (SK ((wr.alloc (.cells #[.int .i64 os[k].kind, .slice ua os[k].links.length ucap, .string (tx os[k].text)] 37)).alloc (.cells #[.int .i64 0, .slice none 0 0, .int .i64 0, .slice none 0 0] 50)).drew OB.out)
            clear h0 h1 h2 hu hcell SK
            go_upto_region 8 with fail
            go_cut [8] (fun v8 wx => ∃ (E : Nat) (a3 a4 : Option Addr) (cap3 cap4 : Nat), v8 = .pointer (some ⟨E, 0, none⟩) ∧ wr.heap.size < E ∧ wx.heap[E]? = some (.cells #[.int .i64 os[k].kind, .slice a3 os[k].links.length cap3, .int .i64 (-1), .slice a4 (delta [] os[k].text).length cap4] 50 (0, 0)) ∧
              wx.heap[wr.heap.size]? = some (.cells #[.int .i64 os[k].kind, .slice ua os[k].links.length ucap, .string (tx os[k].text)] 37 (0, 0)) ∧ IntsR (new w.heap.size) wx (.slice a3 os[k].links.length cap3) os[k].links ∧ OpsR (new w.heap.size) wx (.slice a4 (delta [] os[k].text).length cap4) (delta [] os[k].text) ∧ Fr wr.heap.size [] wr wx)
            case first =>
              first
              | go_region_held3 (fun x => x.cell? ⟨wr.heap.size, 0, none⟩ = some (.int .i64 os[k].kind) ∧ x.cell? ⟨wr.heap.size, 1, none⟩ = some (.slice ua os[k].links.length ucap) ∧ x.cell? ⟨wr.heap.size, 2, none⟩ = some (.string (tx os[k].text)) ∧ wr.heap.size < x.heap.size)
                (first
                  | with_reducible exact SA.out
                  | with_reducible exact SB.out
                  | with_reducible exact S4.out
                  | with_reducible exact S3.out
                  | with_reducible exact S4a.out
                  | with_reducible exact S3a.out
                  | with_reducible exact S4f.out
                  | with_reducible exact S4s.out)
                (first
                  | (go_at_call 36; go_must (refine (cloneI_any K 3 _ os[k].links.length (os[k].links.map (Value.int .i64)) _ (by first | exact HU.out.grow FA.out | exact HU.out.grow FB.out) (oneI _) (by omega)).mono ?_; rintro e w3 ⟨v3, rfl, own3, fr3⟩; obtain ⟨a3, cap3, rfl⟩ := own_any own3; have OX3 := hid (by first | exact fr3.keep _ _ OA.out (.inr (by simp)) | exact fr3.keep _ _ OB.out (.inr (by simp))); have F3 := hid (by first | exact FA.out.trans fr3.nil | exact FB.out.trans fr3.nil); (try (have EB3 := hid (fr3.keep _ _ EB.out (.inr (by simp))))); have OWN3 := hid (ownsRow_lo own3 (lo' := wr.heap.size) (by first | exact FA.out.size | exact FB.out.size)); have S3 := hid (SKH.out w3 OX3.out); have S3a := hid (SKH.out (w3.alloc (.cells #[.int .i64 0, .slice none 0 0, .int .i64 0, .slice none 0 0] 50)) (heap_up OX3.out _)); clear own3))
                  | (go_at_call 49; go_must (refine (implDeltaMake_any [] os[k].text _ (by first | exact HG.out.keep (hfr.trans F3.out.nil) hpos | exact HG.out.keep ((hfr.trans F3.out.nil).alloc _) hpos)).mono ?_; rintro e w4 ⟨v4, rfl, own4, fr4⟩; obtain ⟨a4, cap4, rfl⟩ := own_any own4; have OX4 := hid (by first | exact fr4.keep _ _ OX3.out (.inr (by simp)) | exact fr4.keep _ _ (heap_up OX3.out _) (.inr (by simp))); have OWN4 := hid (show OpsOwn wr.heap.size w4 (.slice a4 (delta [] os[k].text).length cap4) (delta [] os[k].text) from ownsRow_lo own4 (by first | exact F3.out.size | exact (F3.out.alloc _).size)); have W34 := hid (show Fr 0 [] w3 w4 by first | exact fr4.nil | exact ((Fr.refl 0 [] w3).alloc _).trans fr4.nil); have F4 := hid (F3.out.trans W34.out.nil); have hs4 := W34.out.size; have S4f := hid (SKH.out (w4.alloc (.cells #[.int .i64 os[k].kind, .slice a3 os[k].links.length cap3, .int .i64 (-1), .slice a4 (delta [] os[k].text).length cap4] 50)) (heap_up OX4.out _)); have S4 := hid (SKH.out w4 OX4.out); have S4a := hid (SKH.out (w4.alloc (.cells #[.int .i64 0, .slice none 0 0, .int .i64 0, .slice none 0 0] 50)) (heap_up OX4.out _)); (try first | (have EB4 := hid (fr4.keep _ _ EB3.out (.inr (by simp))); have e0 := cell_of (o := 0) EB4.out rfl; have e1 := cell_of (o := 1) EB4.out rfl; have e2 := cell_of (o := 2) EB4.out rfl; have e3 := cell_of (o := 3) EB4.out rfl; have g0 := fun o => free_of (o := o) EB4.out; have hle4 := lt_of_get EB4.out; have S4s := hid (SKH.out ((((w4.setCell ⟨wr.heap.size + 1, 0, none⟩ (.int .i64 os[k].kind)).setCell ⟨wr.heap.size + 1, 1, none⟩ (.slice a3 os[k].links.length cap3)).setCell ⟨wr.heap.size + 1, 2, none⟩ (.int .i64 (-1))).setCell ⟨wr.heap.size + 1, 3, none⟩ (.slice a4 (delta [] os[k].text).length cap4)) (other4 OX4.out (by omega)))) | (have EB4 := hid (fr4.keep _ _ (heap_alloc_new w3 (.cells #[.int .i64 0, .slice none 0 0, .int .i64 0, .slice none 0 0] 50)) (.inr (by simp))); have e0 := cell_of (o := 0) EB4.out rfl; have e1 := cell_of (o := 1) EB4.out rfl; have e2 := cell_of (o := 2) EB4.out rfl; have e3 := cell_of (o := 3) EB4.out rfl; have g0 := fun o => free_of (o := o) EB4.out; have hle4 := lt_of_get EB4.out; have S4s := hid (SKH.out ((((w4.setCell ⟨w3.heap.size, 0, none⟩ (.int .i64 os[k].kind)).setCell ⟨w3.heap.size, 1, none⟩ (.slice a3 os[k].links.length cap3)).setCell ⟨w3.heap.size, 2, none⟩ (.int .i64 (-1))).setCell ⟨w3.heap.size, 3, none⟩ (.slice a4 (delta [] os[k].text).length cap4)) (other4 OX4.out (by have := lt_of_get OX3.out; omega))))); clear own4)))
              all_goals go_wp2_with fail
              all_goals go_meet
              all_goals have hI3 := (show IntsR (new wr.heap.size) w3 (.slice a3 os[k].links.length cap3) os[k].links from SlR.ofOwns OWN3.out).weak (K' := new w.heap.size) (fun b t _ hb => ⟨Nat.le_trans hls hb.1, hb.2⟩)
              all_goals have hI4 := hI3.grow W34.out
              all_goals have hO4 := OWN4.out.reads.weak (K' := new w.heap.size) (fun b t _ hb => ⟨Nat.le_trans hls hb.1, hb.2⟩)
              all_goals have s3 := lt_of_get OX3.out
              all_goals have s4 := lt_of_get OX4.out
              · exact ⟨w4.heap.size, a3, a4, cap3, cap4, rfl, by omega, heap_alloc_new w4 _, heap_up OX4.out _, hI4.grow ((Fr.refl 0 [] w4).alloc _), hO4.grow ((Fr.refl 0 [] w4).alloc _), F4.out.alloc _⟩
              · exact ⟨_, a3, a4, cap3, cap4, rfl, by omega, fill4 EB4.out, other4 OX4.out (by omega), hI4.keep (((Fr.refl 0 [50] w4)).fill4 EB4.out (Nat.zero_le _)) (Safe.new (by simp)), hO4.keep (((Fr.refl 0 [50] w4)).fill4 EB4.out (Nat.zero_le _)) (Safe.new (by simp)), F4.out.new4 (by omega)⟩
              · exact ⟨_, a3, a4, cap3, cap4, rfl, by omega, fill4 EB4.out, other4 OX4.out (by omega), hI4.keep (((Fr.refl 0 [50] w4)).fill4 EB4.out (Nat.zero_le _)) (Safe.new (by simp)), hO4.keep (((Fr.refl 0 [50] w4)).fill4 EB4.out (Nat.zero_le _)) (Safe.new (by simp)), F4.out.new4 (by omega)⟩
            case rest =>
              obtain ⟨E, a3, a4, cap3, cap4, rfl, hE, hEB, hOB, hI3, hO4, hfc⟩ := hcut
              obtain ⟨W2, rfl⟩ : ∃ W : World, W = wc := ⟨_, rfl⟩
              obtain ⟨W0, rfl⟩ : ∃ W : World, W = wr := ⟨_, rfl⟩
              have EB2 := hid hEB
              have OB2 := hid hOB
              have HI3 := hid hI3
              have HO4 := hid hO4
              have c2' := cell_of (o := 2) hOB rfl
              have hEl := lt_of_get hEB
              have hsc := hfc.size
              clear hEB hOB hI3 hO4 FA OA FB OB EB SKH SA SB
              go_wp2
              go_loopw [41] (fun vj wy => ∃ (j : Nat) (vo : Value), j ≤ k ∧ vj = .int .i64 j ∧ wy.heap[E]? = some (.cells #[.int .i64 os[k].kind, .slice a3 os[k].links.length cap3, .int .i64 (pickTo (os.map (·.text)) (pk os k).2 os[k].text j).1, vo] 50 (0, 0)) ∧
                OpsR (new w.heap.size) wy vo (delta (baseT (os.map (·.text)) (pickTo (os.map (·.text)) (pk os k).2 os[k].text j).1) os[k].text) ∧
                wy.heap[W2.heap.size]? = some (.cells #[.int .i64 0, .slice none 0 0, .int .i64 0, .slice none 0 0, ptrOf bs (pickTo (os.map (·.text)) (pk os k).2 os[k].text j).1, .string (tx os[k].text)] 72 (0, 0)) ∧
                wy.heap[W0.heap.size]? = some (.cells #[.int .i64 os[k].kind, .slice ua os[k].links.length ucap, .string (tx os[k].text)] 37 (0, 0)) ∧ IntsR (new w.heap.size) wy (.slice a3 os[k].links.length cap3) os[k].links ∧ Fr W0.heap.size [] W0 wy) (fun vj _ => k - (intOf vj).toNat)
              case atStart => exact ⟨0, _, Nat.zero_le _, rfl, heap_up EB2.out _, HO4.out.grow ((Fr.refl 0 [] W2).alloc _), heap_alloc_new W2 _, heap_up OB2.out _, HI3.out.grow ((Fr.refl 0 [] W2).alloc _), hfc.alloc _⟩
              case round =>
                obtain ⟨j, vo, hj, rfl, hEB, hO, hNB, hOB, hI, hfy⟩ := hrel
                obtain ⟨oa, ocap, rfl, _, _⟩ := hO.shape
                have EB3 := hid hEB
                have NB3 := hid hNB
                have OB3 := hid hOB
                have HI := hid hI
                have HO := hid hO
                clear hEB hO hNB hOB hI
                by_cases hjk : j < k
                · obtain ⟨g, gcap, hng, hg1, hg2, _⟩ := own_shape NOW.out (by omega)
                  cases hng
                  obtain ⟨nb, hnb⟩ : ∃ nb, bs.getD j 0 = nb := ⟨_, rfl⟩
                  obtain ⟨tj, htj⟩ : ∃ tj, (os.map (·.text)).getD j [] = tj := ⟨_, rfl⟩
                  obtain ⟨D, hD⟩ : ∃ D, (pk os k).2.getD j 2 = D := ⟨_, rfl⟩
                  have hcn := NOW.out.cellAt j (by omega)
                  have hbj : bs[j]? = some nb := by
                    rw [← hnb, List.getD_eq_getElem?_getD, List.getElem?_eq_getElem (by omega)]; rfl
                  rw [List.getElem?_map, hbj] at hcn
                  simp only [Option.map_some] at hcn
                  have hnc := hfy.cell hg2 hcn
                  have hnd := (NOD.out j hjk).keep hfy (by simp)
                  rw [hD, hnb, htj] at hnd
                  obtain ⟨hn1, hn2, b0, b1, b2, b3, pb, hnbk, -⟩ := hnd.at
                  have ND := hid hnd
                  have NDB := hid hnbk
                  have hD2 : D ≤ 2 := by
                    rw [← hD, List.getD_eq_getElem?_getD, List.getElem?_eq_getElem (by rw [LEN.out.2]; exact hjk)]
                    exact INV.out.1 _ (List.getElem_mem _)
                  have hpin := pickTo_in (os.map (·.text)) (pk os k).2 os[k].text j
                  have hps : pickTo (os.map (·.text)) (pk os k).2 os[k].text (j + 1) = if D < 2 ∧ dsize (delta tj os[k].text) < (pickTo (os.map (·.text)) (pk os k).2 os[k].text j).2 then ((j : Int), dsize (delta tj os[k].text)) else pickTo (os.map (·.text)) (pk os k).2 os[k].text j := by
                    show (if _ then _ else _) = _
                    rw [hD, htj]
                  have hbtj : baseT (os.map (·.text)) (j : Int) = tj := by
                    unfold baseT
                    rw [if_neg (by omega), Int.toNat_natCast, htj]
                  have hptj : ptrOf bs (j : Int) = .pointer (some ⟨nb, 0, none⟩) := by
                    unfold ptrOf
                    rw [if_neg (by omega), Int.toNat_natCast, hnb]
                  generalize pickTo (os.map (·.text)) (pk os k).2 os[k].text j = Pj at EB3 NB3 HO hpin hps
                  obtain ⟨q, sz⟩ := Pj
                  have hsz := dsize_le tj os[k].text
                  have hsz2 := dsize_le (baseT (os.map (·.text)) q) os[k].text
                  have hq1 := hpin.1
                  have hq2 := hpin.2.1
                  have hszq : sz = dsize (delta (baseT (os.map (·.text)) q) os[k].text) := hpin.2.2.1
                  have HPS := hid hps
                  have HBT := hid hbtj
                  have HPT := hid hptj
                  have hjki : (j : Int) < (k : Int) := by omega
                  clear hps hbtj hptj hnd hnbk hcn hbj hpin
                  by_cases hd : D < 2
                  · have id2 : (((D : Nat) : Int) == 2) = false := by simp; omega
                    have SW := hid (show wr.drew.cell? ⟨nb, 5, none⟩ = some (.string (tx tj)) ∧ wr.drew.cell? ⟨W0.heap.size, 2, none⟩ = some (.string (tx os[k].text)) from ⟨cell_of (o := 5) NDB.out rfl, cell_of (o := 2) OB3.out rfl⟩)
                    have DL := hid (fun b => delta_le b os[k].text)
                    go_wp2_with (go_at_call 37; go_must (refine (depth_any ND.out (by omega)).mono ?_; rintro e w5 ⟨rfl, rfl⟩))
                    first
                    | go_region_held3 (fun x => x.cell? ⟨nb, 5, none⟩ = some (.string (tx tj)) ∧ x.cell? ⟨W0.heap.size, 2, none⟩ = some (.string (tx os[k].text)))
                      (first | with_reducible exact SW.out | with_reducible exact S5.out)
                      (first
                        | (go_at_call 49; go_must (refine (implDeltaMake_any tj os[k].text _ (HG.out.keep (hfr.trans hfy.drew.nil) hpos)).mono ?_; rintro e w5 ⟨v5, rfl, own5, fr5⟩; obtain ⟨a5, cap5, rfl⟩ := own_any own5; have OWN5 := hid (show OpsOwn W0.heap.size w5 (.slice a5 (delta tj os[k].text).length cap5) (delta tj os[k].text) from ownsRow_lo own5 hfy.size); have F5 := hid (hfy.drew.trans fr5.nil); have FY5 := hid ((Fr.refl 0 [] wr).drew.trans fr5.nil); have EB5 := hid (fr5.keep _ _ (blk_drew EB3.out) (.inr (by simp))); have NB5 := hid (fr5.keep _ _ (blk_drew NB3.out) (.inr (by simp))); have OB5 := hid (fr5.keep _ _ (blk_drew OB3.out) (.inr (by simp))); have ND5 := hid (fr5.keep _ _ (blk_drew NDB.out) (.inr (by simp))); have S5 := hid (show w5.cell? ⟨nb, 5, none⟩ = some (.string (tx tj)) ∧ w5.cell? ⟨W0.heap.size, 2, none⟩ = some (.string (tx os[k].text)) from ⟨cell_of (o := 5) ND5.out rfl, cell_of (o := 2) OB5.out rfl⟩); have hs5 := F5.out.size; clear own5)))
                    have SV := hid (show w5.drew.cell? ⟨E, 3, none⟩ = some (.slice oa (delta (baseT (os.map (·.text)) q) os[k].text).length ocap) from cell_of (o := 3) EB5.out rfl)
                    go_wp2
                    first
                    | go_region_held3 (fun x => x.cell? ⟨E, 3, none⟩ = some (.slice oa (delta (baseT (os.map (·.text)) q) os[k].text).length ocap) ∧ Fr 0 [] w5 x)
                      (first | with_reducible exact ⟨SV.out, (Fr.refl 0 [] w5).drew⟩ | with_reducible exact ⟨S6.out, FD6.out⟩ | with_reducible exact ⟨S7.out, FD7.out⟩)
                      (first
                        | (go_at_call 50; (with_reducible refine (implDeltaSize_any _ (.slice a5 (delta tj os[k].text).length cap5) (delta tj os[k].text) _ (OWN5.out.reads.grow ((Fr.refl 0 [] w5).drew)) (Nat.le_trans (DL.out _).1 (by decide)) (fun o ho => Nat.le_trans ((DL.out _).2 o ho) (by decide))).mono ?_); go_must (rintro e w6 ⟨rfl, fr6⟩; have FD6 := hid ((Fr.refl 0 [] w5).drew.trans fr6.nil); have S6 := hid (show w6.cell? ⟨E, 3, none⟩ = some (.slice oa (delta (baseT (os.map (·.text)) q) os[k].text).length ocap) from cell_of (o := 3) (FD6.out.keep _ _ EB5.out (.inr (by simp))) rfl)))
                        | (go_at_call 50; go_must (refine (implDeltaSize_any (new w.heap.size) _ (delta (baseT (os.map (·.text)) q) os[k].text) _ (HO.out.grow (FY5.out.trans FD6.out)) (Nat.le_trans (DL.out _).1 (by decide)) (fun o ho => Nat.le_trans ((DL.out _).2 o ho) (by decide))).mono ?_; rintro e w7 ⟨rfl, fr7⟩; have FD7 := hid (FD6.out.trans fr7.nil); have S7 := hid (show w7.cell? ⟨E, 3, none⟩ = some (.slice oa (delta (baseT (os.map (·.text)) q) os[k].text).length ocap) from cell_of (o := 3) (FD7.out.keep _ _ EB5.out (.inr (by simp))) rfl))))
                    have EB7 := hid (FD7.out.keep _ _ EB5.out (.inr (by simp)))
                    have NB7 := hid (FD7.out.keep _ _ NB5.out (.inr (by simp)))
                    have OB7 := hid (FD7.out.keep _ _ OB5.out (.inr (by simp)))
                    have F7 := hid (F5.out.trans FD7.out.nil)
                    have O7 := hid ((OWN5.out.reads.weak (K' := new w.heap.size) (fun b t _ hb => ⟨Nat.le_trans hls hb.1, hb.2⟩)).grow FD7.out)
                    have HO7 := hid (HO.out.grow (FY5.out.trans FD7.out))
                    have HI7 := hid (HI.out.grow (FY5.out.trans FD7.out))
                    rw [← hszq] at *
                    by_cases hn : dsize (delta tj os[k].text) < sz
                    · have HP := hid (show pickTo (os.map (·.text)) (pk os k).2 os[k].text (j + 1) = ((j : Int), dsize (delta tj os[k].text)) by rw [HPS.out, if_pos ⟨hd, hn⟩])
                      have in1 : ((dsize (delta tj os[k].text) : Nat) : Int) < ((sz : Nat) : Int) := by omega
                      have r2 := cell_of (o := 2) EB7.out rfl
                      have r3 := cell_of (o := 3) EB7.out rfl
                      have rf := fun o => free_of (o := o) EB7.out
                      obtain ⟨pq, hpq⟩ : ∃ pq, ptrOf bs q = .pointer pq := by unfold ptrOf; split <;> exact ⟨_, rfl⟩
                      have r4 : w7.cell? ⟨W2.heap.size, 4, none⟩ = some (.pointer pq) := by rw [← hpq]; exact cell_of (o := 4) NB7.out rfl
                      have rg := fun o => free_of (o := o) NB7.out
                      have hle := lt_of_get EB7.out
                      have hln := lt_of_get NB7.out
                      go_wp2
                      go_roundw
                      case rel =>
                        have T1 := (Fr.refl 0 [50] w7).setOld (p := ⟨E, 2, none⟩) EB7.out (Nat.zero_le _) (by simp [otag]) (.int .i64 (j : Int))
                        have T2 := T1.setOld (p := ⟨E, 3, none⟩) (block_set EB7.out 2 _) (Nat.zero_le _) (by simp [otag]) (.slice a5 (delta tj os[k].text).length cap5)
                        have NBx := block_setne (p := ⟨E, 3, none⟩) (u := .slice a5 (delta tj os[k].text).length cap5) (block_setne (p := ⟨E, 2, none⟩) (u := .int .i64 (j : Int)) NB7.out (by dsimp only; omega)) (by dsimp only; omega)
                        have T3 := (Fr.refl 0 [72] _).setOld (p := ⟨W2.heap.size, 4, none⟩) NBx (Nat.zero_le _) (by simp [otag]) (.pointer (some ⟨nb, 0, none⟩))
                        refine ⟨j + 1, .slice a5 (delta tj os[k].text).length cap5, by omega, by go_num, ?_, ?_, ?_, ?_, ?_, ?_⟩
                        · rw [HP.out]
                          have := block_setne (p := ⟨W2.heap.size, 4, none⟩) (u := .pointer (some ⟨nb, 0, none⟩)) (block_set (block_set EB7.out 2 (.int .i64 (j : Int))) 3 (.slice a5 (delta tj os[k].text).length cap5)) (by dsimp only; omega)
                          simpa using this
                        · rw [HP.out]
                          dsimp only
                          rw [HBT.out]
                          exact (O7.out.keep T2 (Safe.new (by simp))).keep T3 (Safe.new (by simp))
                        · rw [HP.out]
                          dsimp only
                          rw [HPT.out]
                          have := block_set NBx 4 (.pointer (some ⟨nb, 0, none⟩))
                          simpa using this
                        · exact block_setne (block_setne (block_setne OB7.out (by dsimp only; omega)) (by dsimp only; omega)) (by dsimp only; omega)
                        · exact (HI7.out.keep T2 (Safe.new (by simp))).keep T3 (Safe.new (by simp))
                        · exact ((F7.out.setNew (p := ⟨E, 2, none⟩) (by dsimp only; omega) _).setNew (p := ⟨E, 3, none⟩) (by dsimp only; omega) _).setNew (p := ⟨W2.heap.size, 4, none⟩) (by dsimp only; omega) _
                      case measure => simp [intOf]; omega
                    · have HP := hid (show pickTo (os.map (·.text)) (pk os k).2 os[k].text (j + 1) = (q, sz) by rw [HPS.out, if_neg (fun h => hn h.2)])
                      have in1 : ¬ ((dsize (delta tj os[k].text) : Nat) : Int) < ((sz : Nat) : Int) := by omega
                      go_wp2
                      go_roundw
                      case rel => exact ⟨j + 1, _, by omega, by go_num, by rw [HP.out]; exact EB7.out, by rw [HP.out]; exact HO7.out, by rw [HP.out]; exact NB7.out, OB7.out, HI7.out, F7.out⟩
                      case measure => simp [intOf]; omega
                  · have id2 : (((D : Nat) : Int) == 2) = true := by simp; omega
                    have HP := hid (show pickTo (os.map (·.text)) (pk os k).2 os[k].text (j + 1) = (q, sz) by rw [HPS.out, if_neg (fun h => hd h.1)])
                    go_wp2_with (go_at_call 37; go_must (refine (depth_any ND.out (by omega)).mono ?_; rintro e w5 ⟨rfl, rfl⟩))
                    go_roundw
                    case rel => exact ⟨j + 1, _, by omega, by go_num, by rw [HP.out]; exact EB3.out, by rw [HP.out]; exact HO.out, by rw [HP.out]; exact NB3.out, OB3.out, HI.out, hfy⟩
                    case measure => simp [intOf]; omega
                · have hjk2 : k = j := by omega
                  subst hjk2
                  have r0 := cell_of (o := 0) EB3.out rfl
                  have r1 := cell_of (o := 1) EB3.out rfl
                  have r2 := cell_of (o := 2) EB3.out rfl
                  have r3 := cell_of (o := 3) EB3.out rfl
                  have hsy := hfy.size
                  have hEy := lt_of_get EB3.out
                  have NOW1 := hid (ownsRow_grow NOW.out hfy)
                  have OWN1 := hid (OWN.out.grow hfy)
                  go_wp2_with (first
                    | (at_builtin; first
                      | (refine wpList_push rfl (.tmp 71) (.tmp 73) 64 rfl w.heap.size 67 ipp (.pointer none) 1 8 Tryz.underlying64 hpi hpz0 hpz1 hpz2 rfl (by decide) _ _ _ NOW1.out rfl (onePtr _) (by unfold maxLen; omega) (by omega) (by omega) (by rfl) _ (by rfl) (by simp [World.setCell]) ?_; intro v5 w5 own5 fr5 _; obtain ⟨a5, cap5, rfl⟩ := own_any own5; have NOW5 := hid own5; have FR5 := hid fr5; have EB5 := hid (fr5.keep _ _ EB3.out (.inr (by simp [otag]))); have q0 := cell_of (o := 0) EB5.out rfl; have q1 := cell_of (o := 1) EB5.out rfl; have q2 := cell_of (o := 2) EB5.out rfl; have q3 := cell_of (o := 3) EB5.out rfl; have hs5 := FR5.out.size; obtain ⟨zs, z1, z2, z3⟩ := OWN1.out; have Z2 := hid (show w5.ownsRow w.heap.size 50 4 (.slice va k vcap) k (zs.flatMap encEn) from by rw [← hpl]; exact ownsRow_keep (by rw [hpl]; rw [hpl] at z2; exact z2) FR5.out (by simp)); have Z3 := hid z3; clear own5 fr5 r0 r1 r2 r3 z2 z3)
                      | (refine wpList_push rfl (.tmp 75) (.tmp 77) 27 rfl w.heap.size 50 ien (.agg #[.int .i64 0, .slice none 0 0, .int .i64 0, .slice none 0 0]) 4 64 Tryz.underlying27 hei hez0 hez1 hez2 rfl (by decide) _ _ _ Z2.out rfl (oneN4 _ _ _ _ _ _ _ _) (by unfold maxLen; omega) (by omega) (by omega) (by rfl) _ (by rfl) (by simp [World.setCell]) ?_; intro v6 w6 own6 fr6 _; have OWN6 := hid own6; have FR6 := hid fr6; clear own6 fr6)))
                  have hln := lt_of_get NB3.out
                  have hs6 := FR6.out.size
                  have LNS := LEN.out
                  have PI := pickTo_in (os.map (·.text)) (pk os k).2 os[k].text k
                  go_roundw
                  case rel =>
                    refine ⟨k + 1, W2.heap.size + 1, bs ++ [W2.heap.size], by omega, by go_num, by simp [hbl2], ?_, fun j hj => ?_, by omega, ?_, ((hfr.trans hfy.nil).after FR5.out).after FR6.out⟩
                    · rw [List.map_append]
                      exact ownsRow_keep NOW5.out FR6.out (by simp)
                    · rw [PS.out]
                      by_cases hjk : j < k
                      · have e1 : ((pk os k).2 ++ [baseD (pk os k).2 (pickTo (os.map (·.text)) (pk os k).2 os[k].text k).1]).getD j 2 = (pk os k).2.getD j 2 := by
                          rw [List.getD_eq_getElem?_getD, List.getD_eq_getElem?_getD, List.getElem?_append_left (by omega)]
                        have e2 : (bs ++ [W2.heap.size]).getD j 0 = bs.getD j 0 := by
                          rw [List.getD_eq_getElem?_getD, List.getD_eq_getElem?_getD, List.getElem?_append_left (by omega)]
                        dsimp only
                        rw [e1, e2]
                        exact ((((NOD.out j hjk).keep hfy (by simp)).keep FR5.out (by simp)).keep FR6.out (by simp)).up (by omega)
                      · obtain rfl : j = k := by omega
                        have e1 : ((pk os j).2 ++ [baseD (pk os j).2 (pickTo (os.map (·.text)) (pk os j).2 os[j].text j).1]).getD j 2 = baseD (pk os j).2 (pickTo (os.map (·.text)) (pk os j).2 os[j].text j).1 := by
                          rw [List.getD_eq_getElem?_getD, List.getElem?_append_right (by omega), LNS.2]
                          simp
                        have e2 : (bs ++ [W2.heap.size]).getD j 0 = W2.heap.size := by
                          rw [List.getD_eq_getElem?_getD, List.getElem?_append_right (by omega), hbl2]
                          simp
                        have e3 : (os.map (·.text)).getD j [] = os[j].text := by
                          rw [List.getD_eq_getElem?_getD, List.getElem?_map, List.getElem?_eq_getElem hlt]; rfl
                        dsimp only
                        rw [e1, e2, e3]
                        have NB6 := FR6.out.keep _ _ (FR5.out.keep _ _ NB3.out (.inr (by simp [otag]))) (.inr (by simp [otag]))
                        generalize (pickTo (os.map (·.text)) (pk os j).2 os[j].text j) = Pq at NB6 PI
                        unfold baseD
                        unfold ptrOf at NB6
                        split
                        · rename_i hneg
                          rw [if_pos hneg] at NB6
                          exact ⟨_, _, _, _, by omega, by omega, NB6⟩
                        · rename_i hneg
                          rw [if_neg hneg] at NB6
                          have hqj : Pq.1.toNat < j := by omega
                          have hn := ((((NOD.out _ hqj).keep hfy (by simp)).keep FR5.out (by simp)).keep FR6.out (by simp)).up (hi' := W2.heap.size + 1) (by omega)
                          have e5 : (pk os j).2.getD Pq.1.toNat 0 = (pk os j).2.getD Pq.1.toNat 2 := by
                            rw [List.getD_eq_getElem?_getD, List.getD_eq_getElem?_getD, List.getElem?_eq_getElem (by omega)]
                            rfl
                          rw [e5]
                          exact ⟨_, _, _, _, _, _, by omega, by omega, NB6, hn⟩
                    · rw [PS.out]
                      exact EnsOwn.snoc (lo := w.heap.size) (e := ⟨os[k].kind, os[k].links, _, _⟩) z1 (fun z hz => ⟨((Z3.out z hz).1.keep FR5.out (Safe.new (by simp))).keep FR6.out (Safe.new (by simp)), ((Z3.out z hz).2.keep FR5.out (Safe.new (by simp))).keep FR6.out (Safe.new (by simp))⟩) ((HI.out.keep FR5.out (Safe.new (by simp))).keep FR6.out (Safe.new (by simp))) ((HO.out.keep FR5.out (Safe.new (by simp))).keep FR6.out (Safe.new (by simp))) LNS.1.symm OWN6.out
                  case measure => simp [intOf]; omega
        · obtain rfl : k = os.length := by omega
          clear hcell
          go_wp2
          go_ret2
          exact ⟨_, rfl, OWN.out, hfr⟩
  · obtain rfl : P = false := by rw [← hP]; unfold packOk; simp; omega
    have i16 : (16 : Int) < (os.length : Int) := by omega
    clear hP hcell
    go_enter Tryz.func19, Tryz.ntmps19
    go_wp2
    go_ret2
    exact ⟨_, rfl, EnsOwn.nil _ _, Fr.refl _ _ _⟩

end Go.Proofs.YtjgbconlpolddaaGreat
