/- The program's (Txn).ok: its channel and its map of counts (printed by py/mkCoTnOk.py). -/
import Derived.Test.YtknoanpgadecbaaGreatDoorQCoIParts
import Derived.Test.YtknoanpgadecbaaGreatDoorQCoLaw
import Derived.Test.YtknoanpgadecbaaGreatDoorQCoLone
import Derived.Test.YtknoanpgadecbaaGreatDoorQM4
import Derived.Conc.EventLaws
import Derived.Conc.SmallLaws
import Derived.BigQuiet
set_option linter.unusedVariables false
set_option linter.unusedSimpArgs false
namespace Go.Proofs.YtknoanpgadecbaaGreatDoor
open Go.RowKit Go.Conc
set_option linter.unusedVariables false

theorem info_int : ∃ i, Tryz.prog.info? 3 = some i ∧ i.bytes = 8 := by
 have h : (Tryz.prog.info? 3).map (·.bytes) = some 8 := by kernel_rfl
 obtain ⟨i, hi, hb⟩ := Option.map_eq_some_iff.1 h
 exact ⟨i, hi, hb⟩

theorem mkChan (n : Nat) (hn : n ≤ 1000000) (w : World) : (Instr.makeChan 138 (.int .i64 (n : Int))).run Tryz.prog w = .ok (.chan (some w.heap.size)) (w.alloc (.chan n #[] false 0 0 false)) := by
 obtain ⟨i, hi, hb⟩ := info_int
 exact run_makeChan (P := Tryz.prog) (w := w) Tryz.underlying138 hi .i64 n (by omega) (by rw [hb]; omega)

theorem LT.rounds {P : Program} {Q : Goroutine → World → Prop} {b : Frame} {k : List Item} {cs : List Frame} {X : Code} (I : Nat → Act → World → Prop) (n : Nat) {a : Act} {w : World} (h0 : I 0 a w)
  (hs : ∀ j a w, j < n → I j a w → (∀ a' w', I (j + 1) a' w' → LoneTo P Q (G (b.at a' (.code X :: .inLoop X :: k)) cs) w') → LoneTo P Q (G (b.at a (.code X :: .inLoop X :: k)) cs) w)
  (he : ∀ a w, I n a w → LoneTo P Q (G (b.at a (.code X :: .inLoop X :: k)) cs) w) : LoneTo P Q (G (b.at a (.code (.loop X) :: k)) cs) w := by
 refine LT.loop ?_
 have key : ∀ d j, j + d = n → ∀ a w, I j a w → LoneTo P Q (G (b.at a (.code X :: .inLoop X :: k)) cs) w := by
  intro d
  induction d with
  | zero => intro j hj a w hi; obtain rfl : j = n := by omega
            exact he a w hi
  | succ d ih => intro j hj a w hi; exact hs j a w (by omega) hi (ih (j + 1) (by omega))
 exact key n 0 (by omega) a w h0

def OkI1 (w : World) (pv : Value) (va : Option Addr) (vcap : Nat) (t : Tn) (X c : Nat) (k : Nat) (a : Act) (wr : World) : Prop :=
 let n := t.votes.length
 (∃ s0 s2 s4 s5 s6 s7 s8 s9 s10 s11 s12 s13 s14 s15 s16 s17 s18 s19 s20 s21 s22 s23 s24 s25 s26 s27 s28 s32 s33 s34 s35 s36 s37 s38 s39 s40 s41 s42 s43 s44 s45 s46 s47 s48 s49 s50 s51 s52 s53 s54 s55 s56 s57 s58 s59 s60 s61 s62 s63 s64 s65 s66 s67 s68 s69 s70 s71 s72 s73 s74 s75 s76 s77 s78 s79 s80 s81 s82 s83 s84 s85 s86 : Value, a = ⟨#[s0, .pointer (some ⟨X, 0, none⟩), s2, .chan (some c), s4, s5, s6, s7, s8, s9, s10, s11, s12, s13, s14, s15, s16, s17, s18, s19, s20, s21, s22, s23, s24, s25, s26, s27, s28, .slice va n vcap, .int .i64 (n : Int), .int .i64 (k : Int), s32, s33, s34, s35, s36, s37, s38, s39, s40, s41, s42, s43, s44, s45, s46, s47, s48, s49, s50, s51, s52, s53, s54, s55, s56, s57, s58, s59, s60, s61, s62, s63, s64, s65, s66, s67, s68, s69, s70, s71, s72, s73, s74, s75, s76, s77, s78, s79, s80, s81, s82, s83, s84, s85, s86], []⟩) ∧ Fr w.heap.size [] w wr ∧ wr.heap[X]? = some (.cells #[pv, .slice va n vcap, .int .i64 t.dec] 74 (0, 0)) ∧
  ∃ s, wr.heap[c]? = some (.chan n ((t.votes.take k).map (Value.int .i64)).toArray false s 0 false)

def OkI2 (w : World) (pv : Value) (va : Option Addr) (vcap : Nat) (t : Tn) (X c m : Nat) (k : Nat) (a : Act) (wr : World) : Prop :=
 let n := t.votes.length
 (∃ s0 s2 s4 s5 s7 s8 s9 s10 s11 s12 s13 s14 s15 s16 s17 s18 s19 s20 s21 s22 s23 s24 s25 s26 s27 s28 s29 s30 s31 s32 s33 s34 s35 s36 s37 s38 s39 s41 s42 s43 s44 s45 s46 s47 s48 s49 s50 s51 s52 s53 s54 s55 s56 s57 s58 s59 s60 s61 s62 s63 s64 s65 s66 s67 s68 s69 s70 s71 s72 s73 s74 s75 s76 s77 s78 s79 s80 s81 s82 s83 s84 s85 s86 : Value, a = ⟨#[s0, .pointer (some ⟨X, 0, none⟩), s2, .chan (some c), s4, s5, .map (some m), s7, s8, s9, s10, s11, s12, s13, s14, s15, s16, s17, s18, s19, s20, s21, s22, s23, s24, s25, s26, s27, s28, s29, s30, s31, s32, s33, s34, s35, s36, s37, s38, s39, .chan (some c), s41, s42, s43, s44, s45, s46, s47, s48, s49, s50, s51, s52, s53, s54, s55, s56, s57, s58, s59, s60, s61, s62, s63, s64, s65, s66, s67, s68, s69, s70, s71, s72, s73, s74, s75, s76, s77, s78, s79, s80, s81, s82, s83, s84, s85, s86], []⟩) ∧ Fr w.heap.size [] w wr ∧ wr.heap[X]? = some (.cells #[pv, .slice va n vcap, .int .i64 t.dec] 74 (0, 0)) ∧
  MapF wr m (t.votes.take k).length (cnt (t.votes.take k)) ∧ ∃ s r, wr.heap[c]? = some (.chan n ((t.votes.drop k).map (Value.int .i64)).toArray true s r false)

theorem enter_at {P : Program} {f : FuncId} {fn : Func} {args tmps : Array Value} {n : Nat} (hf : P.funcs[f]? = some fn) (hn : fn.ntmps = n) (ht : args ++ Array.replicate (n - args.size) undef = tmps) (hb : fn.body.isSome = true) :
  Frame.enter P f args .normal = (base f).at ⟨tmps, []⟩ [.code (fn.body.getD .skip)] := by
 subst ht hn
 simp [Frame.enter, hf, Frame.at, base]
 obtain ⟨b, hb⟩ := Option.isSome_iff_exists.1 hb
 rw [hb]; rfl

theorem setChan_ne {w : World} {k c : Nat} {o : Obj} (h : w.heap[k]? = some o) (hk : k ≠ c) (cap : Nat) (buf : Array Value) (cl : Bool) (s r : Nat) (tm : Bool) : (w.setChan c cap buf cl s r tm).heap[k]? = some o := by
 simp only [World.setChan]; rw [Array.getElem?_setIfInBounds_ne (by omega)]; exact h

theorem Fr.setChan {a w : World} (h : Fr a.heap.size [] a w) {c : Nat} (hc : a.heap.size ≤ c) (cap : Nat) (buf : Array Value) (cl : Bool) (s r : Nat) (tm : Bool) : Fr a.heap.size [] a (w.setChan c cap buf cl s r tm) :=
 Fr.ofBelow (below_setChan (h.below (Nat.le_refl _)) hc cap buf cl s r tm)

end Go.Proofs.YtknoanpgadecbaaGreatDoor

/- (Txn).ok, a loop of it (printed by py/mkCoTnOk.py). -/
namespace Go.Proofs.YtknoanpgadecbaaGreatDoor
open Go.RowKit Go.Conc
set_option linter.unusedVariables false

set_option maxRecDepth 20000 in
set_option maxHeartbeats 4000000 in
theorem txnR1 {Q : Goroutine → World → Prop} {cs : List Frame} (K : List Item) (w : World) (pv : Value) (va : Option Addr) (vcap : Nat) (t : Tn) (c k : Nat) (a : Act) (wr : World) (hk : k < t.votes.length) (hl2 : t.votes.length ≤ 1000) (hX1 : w.heap.size < c)
  (HC : Hid (t.votes = [] ∨ ∃ b off, va = some ⟨b, off, none⟩ ∧ b < w.heap.size ∧ ∀ i (hi : i < t.votes.length), w.cell? ⟨b, off + i, none⟩ = some (.int .i64 t.votes[i])))
  (hI : OkI1 w pv va vcap t w.heap.size c k a wr) (next : ∀ a' w', OkI1 w pv va vcap t w.heap.size c (k + 1) a' w' → LoneTo Tryz.prog Q (G ((base 37).at a' K) cs) w') :
  LoneTo Tryz.prog Q (G ((base 37).at a (.code (codeX (codeR (codeL (codeR (codeR (codeR (Tryz.f37.body.getD .skip))))))) :: K)) cs) wr := by
 unfold OkI1 at hI
 obtain ⟨⟨s0, s2, s4, s5, s6, s7, s8, s9, s10, s11, s12, s13, s14, s15, s16, s17, s18, s19, s20, s21, s22, s23, s24, s25, s26, s27, s28, s32, s33, s34, s35, s36, s37, s38, s39, s40, s41, s42, s43, s44, s45, s46, s47, s48, s49, s50, s51, s52, s53, s54, s55, s56, s57, s58, s59, s60, s61, s62, s63, s64, s65, s66, s67, s68, s69, s70, s71, s72, s73, s74, s75, s76, s77, s78, s79, s80, s81, s82, s83, s84, s85, s86, rfl⟩, hf, hb, s, hch⟩ := hI
 have hki : (k : Int) < (t.votes.length : Int) := by omega
 obtain ⟨b0, off, rfl, hbs, hvat⟩ := HC.out.resolve_left (fun h => by rw [h] at hk; simp at hk)
 have d0 := hf.cell hbs (hvat k hk)
 have hw : IntKind.i64.wrap ((k : Int) + 1) = ((k + 1 : Nat) : Int) := by rw [IntKind.wrap_i64]; omega
 have htk := hid (show t.votes.take (k + 1) = t.votes.take k ++ [t.votes[k]] by simp)
 have HCH := hid hch
 have HF := hid hf
 have HB := hid hb
 have NX := hid next
 have HW := hid hw
 clear hch hf hb next hvat hw HC
 generalize t.votes[k] = x at *
 simp only [codeX, codeL, codeR, Tryz.f37, Option.getD_some]
 refine LT.seq (LT.code ?_)
 go_wp2
 simp only [LTP]
 refine LT.seq (LT.code ?_)
 go_wp2
 simp only [LTP]
 refine LT.seq (LT.block (LT.seq (LT.code ?_)))
 go_wp2
 simp only [LTP]
 refine LT.region ?_
 simp only [List.size_toArray, List.length_cons, List.length_nil, Nat.reduceAdd, Nat.zero_add, List.range, List.range.loop]
 refine LT.op (v := .chan (some c)) (w' := wr) rfl rfl rfl ?_
 refine LT.op (v := .int .i64 x) (w' := wr) rfl rfl rfl ?_
 simp only [Act.put, List.setIfInBounds_toArray, List.set_cons_zero, List.set_cons_succ]
 have HS := hid (heap_setChan wr c t.votes.length (((t.votes.take k).map (Value.int .i64)).toArray.push (.int .i64 x)) false (s + 1) 0 false (lt_of_get HCH.out))
 have HB2 := hid (setChan_ne HB.out (show w.heap.size ≠ c by omega) t.votes.length (((t.votes.take k).map (Value.int .i64)).toArray.push (.int .i64 x)) false (s + 1) 0 false)
 have HF2 := hid (Fr.setChan HF.out (show w.heap.size ≤ c by omega) t.votes.length (((t.votes.take k).map (Value.int .i64)).toArray.push (.int .i64 x)) false (s + 1) 0 false)
 refine LT.send (v := .int .i64 x) (z := .tuple #[]) (w₁ := wr) (by decide) rfl rfl (by simp [execOp, scase, Act.eval]) HCH.out (by simp; omega) ?_
 simp only [Act.put]
 refine LT.done (LT.inBlock (LT.code ?_))
 generalize wr.setChan c t.votes.length (((t.votes.take k).map (Value.int .i64)).toArray.push (.int .i64 x)) false (s + 1) 0 false = wq at *
 go_wp2
 simp only [LTP]
 refine NX.out _ _ ?_
 have hw1 : (k : Int) + 1 = ((k + 1 : Nat) : Int) := by omega
 rw [hw1]
 unfold OkI1
 refine ⟨⟨_, _, _, _, _, _, _, _, _, _, _, _, _, _, _, _, _, _, _, _, _, _, _, _, _, _, _, _, _, _, _, _, _, _, _, _, _, _, _, _, _, _, _, _, _, _, _, _, _, _, _, _, _, _, _, _, _, _, _, _, _, _, _, _, _, _, _, _, _, _, _, _, _, _, _, _, _, _, _, _, _, _, rfl⟩, HF2.out, HB2.out, s + 1, ?_⟩
 rw [HS.out, htk.out]; simp

end Go.Proofs.YtknoanpgadecbaaGreatDoor

/- (Txn).ok, a loop of it (printed by py/mkCoTnOk.py). -/
namespace Go.Proofs.YtknoanpgadecbaaGreatDoor
open Go.RowKit Go.Conc
set_option linter.unusedVariables false

set_option maxRecDepth 20000 in
set_option maxHeartbeats 4000000 in
theorem txnR2 {Q : Goroutine → World → Prop} {cs : List Frame} (K : List Item) (w : World) (pv : Value) (va : Option Addr) (vcap : Nat) (t : Tn) (c m k : Nat) (a : Act) (wr : World) (hk : k < t.votes.length) (hl2 : t.votes.length ≤ 1000) (hX1 : w.heap.size < c) (hcq : c < m)
  (HVB : Hid (∀ v ∈ t.votes, -1000 ≤ v ∧ v ≤ 1000))
  (hI : OkI2 w pv va vcap t w.heap.size c m k a wr) (next : ∀ a' w', OkI2 w pv va vcap t w.heap.size c m (k + 1) a' w' → LoneTo Tryz.prog Q (G ((base 37).at a' K) cs) w') :
  LoneTo Tryz.prog Q (G ((base 37).at a (.code (codeX (codeR (codeL (codeR (codeR (codeR (codeR (codeR (codeR (Tryz.f37.body.getD .skip)))))))))) :: K)) cs) wr := by
 unfold OkI2 at hI
 obtain ⟨⟨s0, s2, s4, s5, s7, s8, s9, s10, s11, s12, s13, s14, s15, s16, s17, s18, s19, s20, s21, s22, s23, s24, s25, s26, s27, s28, s29, s30, s31, s32, s33, s34, s35, s36, s37, s38, s39, s41, s42, s43, s44, s45, s46, s47, s48, s49, s50, s51, s52, s53, s54, s55, s56, s57, s58, s59, s60, s61, s62, s63, s64, s65, s66, s67, s68, s69, s70, s71, s72, s73, s74, s75, s76, s77, s78, s79, s80, s81, s82, s83, s84, s85, s86, rfl⟩, hf, hb, hm, s, r, hch⟩ := hI
 have vb := HVB.out _ (List.getElem_mem hk)
 have htk := hid (show t.votes.take (k + 1) = t.votes.take k ++ [t.votes[k]] by simp)
 rw [List.drop_eq_getElem_cons hk] at hch
 simp only [List.map_cons] at hch
 generalize t.votes[k] = x at *
 have HF := hid hf
 have HB := hid hb
 have HM := hid hm
 have HCH := hid hch
 have NX := hid next
 clear hf hb hm hch next
 simp only [codeX, codeL, codeR, Tryz.f37, Option.getD_some]
 refine LT.seq (LT.region ?_)
 simp only [List.size_toArray, List.length_cons, List.length_nil, Nat.reduceAdd, Nat.zero_add, List.range, List.range.loop]
 refine LT.recv (w₁ := wr) (z := .int .i64 0) (by decide) rfl rfl (by simp [go_sem, rcase, Tryz.underlying138, zeroN]) HCH.out (by simp) ?_
 have hget : ((Value.int .i64 x :: (t.votes.drop (k + 1)).map (Value.int .i64)).toArray.getD 0 undef) = .int .i64 x := by simp
 rw [hget]
 clear hget
 have hcl := lt_of_get HCH.out
 have hxp : (Value.int .i64 x :: (t.votes.drop (k + 1)).map (Value.int .i64)).toArray.extract 1 (Value.int .i64 x :: (t.votes.drop (k + 1)).map (Value.int .i64)).toArray.size = ((t.votes.drop (k + 1)).map (Value.int .i64)).toArray := by
  simp only [List.size_toArray, List.length_cons, List.extract_toArray, List.extract_eq_take_drop, Nat.add_sub_cancel, List.drop_succ_cons, List.drop_zero]
  rw [List.take_length]
 rw [hxp]
 clear hxp
 have hmc : m ≠ c := by omega
 have HS := hid (heap_setChan wr c t.votes.length ((t.votes.drop (k + 1)).map (Value.int .i64)).toArray true s (r + 1) false hcl)
 have HB2 := hid (setChan_ne HB.out (show w.heap.size ≠ c by omega) t.votes.length ((t.votes.drop (k + 1)).map (Value.int .i64)).toArray true s (r + 1) false)
 have HF2 := hid (Fr.setChan HF.out (show w.heap.size ≤ c by omega) t.votes.length ((t.votes.drop (k + 1)).map (Value.int .i64)).toArray true s (r + 1) false)
 have HM2 := hid (HM.out.block (w' := wr.setChan c t.votes.length ((t.votes.drop (k + 1)).map (Value.int .i64)).toArray true s (r + 1) false) fun o ho => setChan_ne ho hmc _ _ _ _ _ _)
 generalize wr.setChan c t.votes.length ((t.votes.drop (k + 1)).map (Value.int .i64)).toArray true s (r + 1) false = wq at *
 clear HF HB HM HCH hcl
 clear wr
 simp only [List.getElem_toArray, List.getElem_cons_zero, List.getElem_cons_succ, Act.put]
 try simp only [List.setIfInBounds_toArray, List.set_cons_zero, List.set_cons_succ]
 refine LT.op (v := .bool true) (w' := wq) rfl rfl rfl ?_
 simp only [List.getElem_toArray, List.getElem_cons_zero, List.getElem_cons_succ, Act.put]
 try simp only [List.setIfInBounds_toArray, List.set_cons_zero, List.set_cons_succ]
 refine LT.done (LT.seq (LT.code ?_))
 go_wp2
 simp only [LTP]
 have hct : (t.votes.take k).count x ≤ 1000 := by
  have := List.count_le_length (a := x) (l := t.votes.take k)
  have := List.length_take_le k t.votes
  have := List.length_take (i := k) (l := t.votes)
  omega
 have hlk := cnt_look HM2.out vb
 obtain ⟨wz, hst, HMz, hgz⟩ := cnt_store HM2.out (by have := List.length_take (i := k) (l := t.votes); omega) vb
 have HST := hid hst
 have HMZ := hid HMz
 have FG := hid (Fr.ofGrown (B := w.heap.size) (T := [1000000]) hgz fun j o e ho => by
  cases e
  obtain ⟨o', h1, h2⟩ := HM2.out.tag
  rw [h1] at ho
  cases ho
  exact ⟨by omega, by simp [h2]⟩)
 have hg := hid (HF2.out.after FG.out)
 have HB3 := hid (FG.out.keep _ _ HB2.out (.inr (by simp [otag])))
 have HS3 := hid (FG.out.keep _ _ HS.out (.inr (by simp [otag])))
 clear hst HMz
 refine LT.block (LT.code ?_)
 generalize (t.votes.take k).count x = q at *
 have hst := HST.out
 go_wp2
 simp only [LTP]
 refine LT.inBlock (NX.out _ _ ?_)
 unfold OkI2
 exact ⟨⟨_, _, _, _, _, _, _, _, _, _, _, _, _, _, _, _, _, _, _, _, _, _, _, _, _, _, _, _, _, _, _, _, _, _, _, _, _, _, _, _, _, _, _, _, _, _, _, _, _, _, _, _, _, _, _, _, _, _, _, _, _, _, _, _, _, _, _, _, _, _, _, _, _, _, _, _, _, _, _, _, _, _, _, rfl⟩, hg.out, HB3.out, by rw [htk.out]; exact HMZ.out, s, r + 1, HS3.out⟩

end Go.Proofs.YtknoanpgadecbaaGreatDoor
