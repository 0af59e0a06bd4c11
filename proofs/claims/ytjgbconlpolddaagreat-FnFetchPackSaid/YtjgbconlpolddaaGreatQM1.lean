/- slices.Backward at a list of one list. -/
import Derived.RangeFuncNested
import Derived.RangeFuncBound
import Derived.RangeFuncCalls
import Derived.RangeFuncLeaves
import Derived.Shelf.Abstract
import Derived.Shelf.RegionOpen
import Derived.WalkKit
import Derived.OwnWalkIn
import Derived.TacticsInMore
import Derived.LoopNIn
import Derived.LoopIn
import Derived.Test.YtjgbconlpolddaaGreatProg
import Derived.Shelf.SlicesQ.Reverse
set_option linter.unusedVariables false
set_option linter.unusedSimpArgs false
namespace Go.Proofs.YtjgbconlpolddaaGreat
open Go.RowKit Go.Shelf
set_option linter.unusedVariables false

attribute [local go_sem] Oper.semAt_some

set_option maxHeartbeats 1000000 in
theorem backward_in (F : Fence) (n : Nat) (hF : F.fn 59) (hro : F.round = none) (a : Option Addr) (len cap : Nat) (w : World) :
    CallsIn F n Tryz.prog 59 #[.slice a len cap] w fun e w' => e = .returned (.func (.func 82) #[] #[.pointer (some ⟨w.heap.size, 0, none⟩)]) ∧ w' = w.alloc (.cells #[.slice a len cap] 92) := by
  refine callsIn_of_wp Tryz.func59 rfl hF ?_ hro
  simp only [Tryz.ntmps59, List.size_toArray, List.length_cons, List.length_nil, Nat.reduceAdd, Nat.reduceSub, Array.replicate_succ, Array.replicate_zero, List.push_toArray, List.append_toArray, List.nil_append, List.cons_append]
  gi_wp2
  go_ret
  exact ⟨rfl, rfl⟩

set_option maxRecDepth 100000 in
set_option maxHeartbeats 2000000 in
theorem back1_in (F : Fence) (n : Nat) (hF : F.fn 82) (hro : F.round = none) (hn : 1 ≤ n) (l Bs b : Nat) (a : Option Addr) (m c : Nat) (J Jx : List Unit → World → Prop)
    (hY : ∀ pre x W, J pre W → pre.length < 1 → YieldAt F (n - 1) Tryz.prog l #[.int .i64 0, .slice a m c] W fun e W' =>
      (e = .returned (.bool true) ∧ J (pre ++ [x]) W' ∧ True) ∨ (e = .returned (.bool false) ∧ Jx (pre ++ [x]) W'))
    (W : World) (hBs : W.cell? ⟨Bs, 0, none⟩ = some (.slice (some ⟨b, 0, none⟩) 1 1)) (hc : W.cell? ⟨b, 0, none⟩ = some (.slice a m c)) (h0 : J [] W) :
    CallsIn F n Tryz.prog 82 #[.func (.yield l) #[] #[], .pointer (some ⟨Bs, 0, none⟩)] W fun e W' => (∃ v, e = .returned v) ∧ (J [()] W' ∨ Jx [()] W') := by
  refine callsIn_of_wp Tryz.func82 rfl hF ?_ hro
  simp only [Tryz.ntmps82, List.size_toArray, List.length_cons, List.length_nil, Nat.reduceAdd, Nat.reduceSub, Array.replicate_succ, Array.replicate_zero, List.push_toArray, List.append_toArray, List.nil_append, List.cons_append]
  gi_wp2
  gi_loopw [3] (fun i wr => (i = .int .i64 0 ∧ wr = W) ∨ (i = .int .i64 (-1) ∧ J [()] wr)) (fun i _ => (intOf i + 1).toNat)
  case atStart => exact .inl ⟨rfl, rfl⟩
  case round =>
    rcases hrel with ⟨rfl, rfl⟩ | ⟨rfl, hj⟩
    · obtain ⟨fn, tmps, assign, body, hy, hR⟩ := hY [] () wr h0 (by simp)
      gi_wp2
      refine hR.mono ?_
      rintro e W3 (⟨rfl, hJ3, -⟩ | ⟨rfl, hJx3⟩)
      · gi_wp2
        go_roundw
        case rel => exact .inr ⟨rfl, hJ3⟩
        case measure => simp [intOf]
      · gi_wp2
        refine bodyPost_ret (results_none rfl _ _ _) rfl ?_
        exact ⟨⟨_, rfl⟩, .inr hJx3⟩
    · gi_wp2
      go_end0
      exact ⟨⟨_, rfl⟩, .inl hj⟩

end Go.Proofs.YtjgbconlpolddaaGreat

/- Objects, deltas and packs: the plain functions, no program in sight. -/
namespace Go.Proofs.YtjgbconlpolddaaGreat
open Go.RowKit

def inR (n lo hi : Int) : Bool := decide (lo ≤ n) && decide (n ≤ hi)

theorem inR_iff {n lo hi : Int} : inR n lo hi = true ↔ lo ≤ n ∧ n ≤ hi := by simp [inR]

/-- A text: its bytes. -/
abbrev Tx := List UInt8

structure Ob where
  kind : Int
  links : List Int
  text : Tx
  deriving DecidableEq

structure Opn where
  pos : Int
  size : Int
  text : Tx
  deriving DecidableEq

structure En where
  kind : Int
  links : List Int
  base : Int
  ops : List Opn
  deriving DecidableEq

/-- Link i is an id, and greater than the one before. -/
def ascAt (l : List Int) (i : Nat) : Bool :=
  match l[i]? with
  | some n => inR n 0 990 && (match i with | 0 => true | j + 1 => match l[j]? with | some m => decide (m < n) | none => true)
  | none => true

def ascTo (l : List Int) : Nat → Bool
  | 0 => true
  | k + 1 => ascTo l k && ascAt l k

def asc (l : List Int) : Bool := ascTo l l.length

theorem ascTo_false {l : List Int} {k : Nat} (h : ascAt l k = false) : ∀ n, k < n → ascTo l n = false := by
  intro n
  induction n with
  | zero => omega
  | succ n ih =>
    intro hk
    by_cases e : k = n
    · subst e; simp [ascTo, h]
    · simp [ascTo, ih (by omega)]

theorem ascTo_at {l : List Int} {n : Nat} (h : ascTo l n = true) : ∀ k, k < n → ascAt l k = true := by
  intro k hk
  cases hu : ascAt l k with
  | true => rfl
  | false => rw [ascTo_false hu n hk] at h; exact h

def kindOk (o : Ob) : Bool :=
  if o.kind = 1 then decide (o.links.length = 0) else if o.kind = 2 then decide (o.text = []) else if o.kind = 3 then decide (0 < o.links.length) else false

/-- A valid object. -/
def obOk (o : Ob) : Bool := asc o.links && decide (o.links.length ≤ 4) && decide (o.text.length ≤ 8) && kindOk o

/-- How many bytes of the second begin the first. -/
def pre : Tx → Tx → Nat
  | x :: a, y :: t => if x = y then pre a t + 1 else 0
  | _, _ => 0

/-- The place and the size of the longest part, among the first k places. -/
def bestTo (b t : Tx) : Nat → Nat × Nat
  | 0 => (0, 0)
  | k + 1 => if (bestTo b t k).2 < pre (b.drop k) t then (k, pre (b.drop k) t) else bestTo b t k

def best (b t : Tx) : Nat × Nat := bestTo b t b.length

/-- One step of a delta: the operations so far, and what is left of the text. -/
def dstep (b t : Tx) (ops : List Opn) : List Opn × Tx :=
  if 2 ≤ (best b t).2 then (ops ++ [⟨(best b t).1, (best b t).2, []⟩], t.drop (best b t).2)
  else match ops.getLast? with
    | some o => if o.size = 0 then (ops.dropLast ++ [⟨o.pos, 0, o.text ++ t.take 1⟩], t.drop 1) else (ops ++ [⟨0, 0, t.take 1⟩], t.drop 1)
    | none => (ops ++ [⟨0, 0, t.take 1⟩], t.drop 1)

def dmake (b : Tx) : Nat → Tx → List Opn → List Opn
  | 0, _, ops => ops
  | n + 1, t, ops => if t = [] then ops else dmake b n (dstep b t ops).2 (dstep b t ops).1

/-- The operations for a text. -/
def delta (b t : Tx) : List Opn := if b.length ≤ 8 ∧ t.length ≤ 8 then dmake b t.length t [] else []

/-- The size of operations. -/
def dsizeTo (ops : List Opn) : Nat → Nat
  | 0 => 0
  | k + 1 => match ops[k]? with | some o => dsizeTo ops k + 1 + o.text.length | none => dsizeTo ops k

def dsize (ops : List Opn) : Nat := dsizeTo ops ops.length

theorem dsizeTo_succ {ops : List Opn} {k : Nat} (h : k < ops.length) : dsizeTo ops (k + 1) = dsizeTo ops k + 1 + ops[k].text.length := by
  simp [dsizeTo, List.getElem?_eq_getElem h]

/-- The sum of an object behind its first k links; behind the first k bytes of its text. -/
def idL (o : Ob) : Nat → Int
  | 0 => 100 * o.kind + o.links.length
  | k + 1 => match o.links[k]? with | some l => (idL o k * 613 + l + 1) % 991 | none => idL o k

def idT (o : Ob) : Nat → Int
  | 0 => idL o o.links.length
  | k + 1 => match o.text[k]? with | some b => (idT o k * 257 + (b.toNat : Int) + 1) % 991 | none => idT o k

/-- The id of an object. -/
def oid (o : Ob) : Int := idT o o.text.length

theorem obOk_kind {o : Ob} (h : obOk o = true) : 1 ≤ o.kind ∧ o.kind ≤ 3 := by
  unfold obOk kindOk at h
  simp only [Bool.and_eq_true] at h
  have := h.2
  split at this
  · omega
  · split at this
    · omega
    · split at this
      · omega
      · cases this

theorem obOk_len {o : Ob} (h : obOk o = true) : o.links.length ≤ 4 ∧ o.text.length ≤ 8 := by
  unfold obOk at h
  simp only [Bool.and_eq_true, decide_eq_true_eq] at h
  exact ⟨h.1.1.2, h.1.2⟩

theorem asc_link {l : List Int} (h : asc l = true) (k : Nat) (hk : k < l.length) : 0 ≤ l[k] ∧ l[k] ≤ 990 := by
  have := ascTo_at h k hk
  simp only [ascAt, List.getElem?_eq_getElem hk, Bool.and_eq_true] at this
  exact inR_iff.1 this.1

theorem obOk_link {o : Ob} (h : obOk o = true) (k : Nat) (hk : k < o.links.length) : 0 ≤ o.links[k] ∧ o.links[k] ≤ 990 := by
  unfold obOk at h
  simp only [Bool.and_eq_true] at h
  exact asc_link h.1.1.1 k hk

theorem idL_succ {o : Ob} {k : Nat} (h : k < o.links.length) : idL o (k + 1) = (idL o k * 613 + o.links[k] + 1) % 991 := by simp [idL, List.getElem?_eq_getElem h]
theorem idT_succ {o : Ob} {k : Nat} (h : k < o.text.length) : idT o (k + 1) = (idT o k * 257 + (o.text[k].toNat : Int) + 1) % 991 := by simp [idT, List.getElem?_eq_getElem h]

theorem idL_in {o : Ob} (h : obOk o = true) (k : Nat) : 0 ≤ idL o k ∧ idL o k ≤ 990 := by
  induction k with
  | zero =>
    have h1 := obOk_kind h
    have h2 := obOk_len h
    show 0 ≤ 100 * o.kind + (o.links.length : Int) ∧ 100 * o.kind + (o.links.length : Int) ≤ 990
    omega
  | succ k ih =>
    by_cases hk : k < o.links.length
    · rw [idL_succ hk]
      have h1 := obOk_link h k hk
      omega
    · have : idL o (k + 1) = idL o k := by simp [idL, List.getElem?_eq_none (Nat.le_of_not_lt hk)]
      rw [this]; exact ih

theorem idT_in {o : Ob} (h : obOk o = true) (k : Nat) : 0 ≤ idT o k ∧ idT o k ≤ 990 := by
  induction k with
  | zero => exact idL_in h _
  | succ k ih =>
    by_cases hk : k < o.text.length
    · rw [idT_succ hk]
      omega
    · have : idT o (k + 1) = idT o k := by simp [idT, List.getElem?_eq_none (Nat.le_of_not_lt hk)]
      rw [this]; exact ih

end Go.Proofs.YtjgbconlpolddaaGreat

/- Making packs: the plain functions. -/
namespace Go.Proofs.YtjgbconlpolddaaGreat
open Go.RowKit

/-- The best base among the first k texts, and the size that it makes. -/
def pickTo (ts : List Tx) (ds : List Nat) (t : Tx) : Nat → Int × Nat
  | 0 => (-1, dsize (delta [] t))
  | k + 1 => if ds.getD k 2 < 2 ∧ dsize (delta (ts.getD k []) t) < (pickTo ts ds t k).2 then ((k : Int), dsize (delta (ts.getD k []) t)) else pickTo ts ds t k

/-- The text of a base. -/
def baseT (ts : List Tx) (b : Int) : Tx := if b < 0 then [] else ts.getD b.toNat []

/-- The depth of an entry with this base. -/
def baseD (ds : List Nat) (b : Int) : Nat := if b < 0 then 0 else ds.getD b.toNat 0 + 1

/-- The entries of the first i objects, and their depths. -/
def pk (os : List Ob) : Nat → List En × List Nat
  | 0 => ([], [])
  | i + 1 => match os[i]? with
    | some o => ((pk os i).1 ++ [⟨o.kind, o.links, (pickTo (os.map (·.text)) (pk os i).2 o.text i).1, delta (baseT (os.map (·.text)) (pickTo (os.map (·.text)) (pk os i).2 o.text i).1) o.text⟩],
        (pk os i).2 ++ [baseD (pk os i).2 (pickTo (os.map (·.text)) (pk os i).2 o.text i).1])
    | none => pk os i

/-- The pack of objects. -/
def pack (os : List Ob) : List En := (pk os os.length).1

/-- Whether there is one. -/
def packOk (os : List Ob) : Bool := decide (os.length ≤ 16) && os.all obOk

theorem pk_succ {os : List Ob} {i : Nat} (h : i < os.length) : pk os (i + 1) = ((pk os i).1 ++ [⟨os[i].kind, os[i].links, (pickTo (os.map (·.text)) (pk os i).2 os[i].text i).1, delta (baseT (os.map (·.text)) (pickTo (os.map (·.text)) (pk os i).2 os[i].text i).1) os[i].text⟩],
        (pk os i).2 ++ [baseD (pk os i).2 (pickTo (os.map (·.text)) (pk os i).2 os[i].text i).1]) := by
  simp [pk, List.getElem?_eq_getElem h]

theorem pickTo_in (ts : List Tx) (ds : List Nat) (t : Tx) (k : Nat) : -1 ≤ (pickTo ts ds t k).1 ∧ (pickTo ts ds t k).1 < k ∧ (pickTo ts ds t k).2 = dsize (delta (baseT ts (pickTo ts ds t k).1) t) ∧ (0 ≤ (pickTo ts ds t k).1 → ds.getD (pickTo ts ds t k).1.toNat 2 < 2) := by
  induction k with
  | zero => exact ⟨Int.le_refl _, by simp [pickTo], by simp [pickTo, baseT], fun h => by simp [pickTo] at h⟩
  | succ k ih =>
    obtain ⟨h1, h2, h3, h4⟩ := ih
    unfold pickTo
    split
    · rename_i hc
      refine ⟨by dsimp only; omega, by dsimp only; omega, ?_, fun _ => ?_⟩
      · have : ¬ (k : Int) < 0 := by omega
        simp [baseT, this]
      · simpa using hc.1
    · exact ⟨h1, by omega, h3, h4⟩

theorem pk_len {os : List Ob} : ∀ {i : Nat}, i ≤ os.length → (pk os i).1.length = i ∧ (pk os i).2.length = i := by
  intro i
  induction i with
  | zero => intro _; exact ⟨rfl, rfl⟩
  | succ i ih =>
    intro h
    obtain ⟨h1, h2⟩ := ih (by omega)
    rw [pk_succ (by omega)]
    simp [h1, h2]

/-- The depth of entry i by the bases. -/
def DepE (bs : List Int) : Nat → Nat → Prop
  | 0, i => ∃ b, bs[i]? = some b ∧ b < 0
  | d + 1, i => ∃ b, bs[i]? = some b ∧ 0 ≤ b ∧ DepE bs d b.toNat

theorem DepE.append {bs cs : List Int} : ∀ {d i : Nat}, DepE bs d i → DepE (bs ++ cs) d i := by
  intro d
  induction d with
  | zero =>
    rintro i ⟨b, h1, h2⟩
    exact ⟨b, by rw [List.getElem?_append_left (List.getElem?_eq_some_iff.1 h1).1]; exact h1, h2⟩
  | succ d ih =>
    rintro i ⟨b, h1, h2, h3⟩
    exact ⟨b, by rw [List.getElem?_append_left (List.getElem?_eq_some_iff.1 h1).1]; exact h1, h2, ih h3⟩

theorem pk_inv {os : List Ob} : ∀ {i : Nat}, i ≤ os.length → (∀ d ∈ (pk os i).2, d ≤ 2) ∧ ∀ j, j < i → DepE ((pk os i).1.map (·.base)) ((pk os i).2.getD j 2) j := by
  intro i
  induction i with
  | zero => intro _; exact ⟨fun d hd => (by cases hd), fun j hj => absurd hj (Nat.not_lt_zero _)⟩
  | succ i ih =>
    intro h
    have hi : i < os.length := by omega
    obtain ⟨h1, h2⟩ := ih (by omega)
    obtain ⟨l1, l2⟩ := pk_len (os := os) (i := i) (by omega)
    obtain ⟨p1, p2, p3, p4⟩ := pickTo_in (os.map (·.text)) (pk os i).2 os[i].text i
    rw [pk_succ hi]
    generalize hP : pickTo (os.map (·.text)) (pk os i).2 os[i].text i = P at *
    refine ⟨fun d hd => ?_, fun j hj => ?_⟩
    · rcases List.mem_append.1 hd with hd | hd
      · exact h1 d hd
      · simp at hd
        subst hd
        unfold baseD
        split
        · omega
        · have := p4 (by omega)
          have hlt : P.1.toNat < (pk os i).2.length := by omega
          rw [List.getD_eq_getElem?_getD, List.getElem?_eq_getElem hlt] at this ⊢
          simp at this ⊢
          omega
    · rw [List.map_append]
      by_cases e : j = i
      · subst e
        have hg : ((pk os j).2 ++ [baseD (pk os j).2 P.1]).getD j 2 = baseD (pk os j).2 P.1 := by
          rw [List.getD_eq_getElem?_getD, List.getElem?_append_right (by omega), l2]
          simp
        rw [hg]
        have hb : (List.map (fun x : En => x.base) (pk os j).1 ++ List.map (fun x : En => x.base) [⟨os[j].kind, os[j].links, P.1, delta (baseT (os.map (·.text)) P.1) os[j].text⟩])[j]? = some P.1 := by
          rw [List.getElem?_append_right (by simp [l1])]
          simp [l1]
        unfold baseD
        split
        · exact ⟨P.1, hb, by assumption⟩
        · have hlt : P.1.toNat < j := by omega
          have hd := h2 P.1.toNat hlt
          have e2 : (pk os j).2.getD P.1.toNat 0 = (pk os j).2.getD P.1.toNat 2 := by
            rw [List.getD_eq_getElem?_getD, List.getD_eq_getElem?_getD, List.getElem?_eq_getElem (by omega)]
            rfl
          rw [e2]
          exact ⟨P.1, hb, by omega, hd.append⟩
      · have hj' : j < i := by omega
        have hg : ((pk os i).2 ++ [baseD (pk os i).2 P.1]).getD j 2 = (pk os i).2.getD j 2 := by
          rw [List.getD_eq_getElem?_getD, List.getD_eq_getElem?_getD, List.getElem?_append_left (by omega)]
        rw [hg]
        exact (h2 j hj').append

end Go.Proofs.YtjgbconlpolddaaGreat

/-
  DERIVED: THE SHELF's CONTRACTS AT THIS DUMP, IN PLAIN WORDS (tools/lay-plain.mjs out of 'ShelfR.lean', which tools/lay-shelf.mjs wrote): THE SAME DECLARATIONS UNDER THE SAME NAMES: 'import', 'namespace', 'open', 'def', 'theorem' AND NOTHING ELSE: no command of the shelf's: FOR A HAND-IN. Each laying: the table of numbers ('.._ren') and one theorem, a field a fact of the dump's own or the kernel's comparison; each contract: ONE APPLICATION.
-/
namespace Go.Proofs
open Go.Shelf
def Tryz.reverseOp_ren : Go.Shelf.Ren := ⟨fun | 35 => 90 | n => n, fun | 22 => 48 | 23 => 91 | 3 => 3 | 4 => 4 | 0 => 0 | n => n, fun | n => n⟩
theorem Tryz.reverseOp : Go.Proofs.SlLaysE0.n35 Tryz.prog Tryz.reverseOp_ren := {
  mixed := by kernel_rfl
  f35 := ⟨Tryz.f90.name, by decide, Tryz.func90.trans (congrArg some (by kernel_rfl))⟩
  t0 := Tryz.underlying0
  a0 := Tryz.isAgg0
  z0 := Tryz.sizeOf0
  v0 := Tryz.zeroValue0
  t3 := Tryz.underlying3
  a3 := Tryz.isAgg3
  z3 := Tryz.sizeOf3
  v3 := Tryz.zeroValue3
  t4 := Tryz.underlying4
  a4 := Tryz.isAgg4
  z4 := Tryz.sizeOf4
  v4 := Tryz.zeroValue4
  t22 := Tryz.underlying48
  a22 := Tryz.isAgg48
  z22 := Tryz.sizeOf48
  v22 := Tryz.zeroValue48 }
def Tryz.reverseOb_ren : Go.Shelf.Ren := ⟨fun | 35 => 124 | n => n, fun | 22 => 23 | 23 => 37 | 3 => 3 | 4 => 4 | 0 => 0 | n => n, fun | n => n⟩
theorem Tryz.reverseOb : Go.Proofs.SlLaysE0.n35 Tryz.prog Tryz.reverseOb_ren := {
  mixed := by kernel_rfl
  f35 := ⟨Tryz.f124.name, by decide, Tryz.func124.trans (congrArg some (by kernel_rfl))⟩
  t0 := Tryz.underlying0
  a0 := Tryz.isAgg0
  z0 := Tryz.sizeOf0
  v0 := Tryz.zeroValue0
  t3 := Tryz.underlying3
  a3 := Tryz.isAgg3
  z3 := Tryz.sizeOf3
  v3 := Tryz.zeroValue3
  t4 := Tryz.underlying4
  a4 := Tryz.isAgg4
  z4 := Tryz.sizeOf4
  v4 := Tryz.zeroValue4
  t22 := Tryz.underlying23
  a22 := Tryz.isAgg23
  z22 := Tryz.sizeOf23
  v22 := Tryz.zeroValue23 }
end Go.Proofs
