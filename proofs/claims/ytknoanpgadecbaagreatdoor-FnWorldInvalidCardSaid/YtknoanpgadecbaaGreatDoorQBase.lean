/- Frames (what a call leaves as it was) and readings (how slices of structs read), for the walks of this seat. -/
import Derived.WalkKit
import Derived.WalkSpells
import Derived.WalkLawsBesides
import Derived.WalkSmall
import Derived.Laws.AppendOwnNone
set_option linter.unusedVariables false
set_option linter.unusedSimpArgs false
namespace Go.Proofs.YtknoanpgadecbaaGreatDoor
open Go.RowKit

theorem hid {p : Prop} (h : p) : Hid p := h

def otag : Obj → Nat
 | .cells _ e _ => e
 | .map _ _ => 1000000
 | .chan .. => 1000001
 | .mapIter .. => 1000002
 | .stringIter .. => 1000003
 | _ => 1000004

structure Fr (B : Nat) (T : List Nat) (w w' : World) : Prop where
 os : w'.os = w.os
 tape : w'.tape = w.tape
 output : w'.output = w.output
 size : w.heap.size ≤ w'.heap.size
 keep : ∀ k o, w.heap[k]? = some o → (k < B ∨ otag o ∉ T) → w'.heap[k]? = some o

theorem lt_of_get {w : World} {k : Nat} {o : Obj} (h : w.heap[k]? = some o) : k < w.heap.size := (Array.getElem?_eq_some_iff.1 h).1

theorem Fr.refl (B : Nat) (T : List Nat) (w : World) : Fr B T w w := ⟨rfl, rfl, rfl, Nat.le_refl _, fun _ _ h _ => h⟩

theorem Fr.trans {B : Nat} {T : List Nat} {a b c : World} (h : Fr B T a b) (k : Fr B T b c) : Fr B T a c :=
 ⟨k.os.trans h.os, k.tape.trans h.tape, k.output.trans h.output, Nat.le_trans h.size k.size, fun i o hi ho => k.keep i o (h.keep i o hi ho) ho⟩

theorem Fr.mono {B B' : Nat} {T T' : List Nat} {w w' : World} (h : Fr B T w w') (hB : B' ≤ B) (hT : ∀ t, t ∈ T → t ∈ T') : Fr B' T' w w' :=
 ⟨h.os, h.tape, h.output, h.size, fun k o hk ho => h.keep k o hk (ho.imp (fun x => Nat.lt_of_lt_of_le x hB) fun x y => x (hT _ y))⟩

theorem Fr.fresh {B : Nat} {T T' : List Nat} {w w' : World} (h : Fr w.heap.size T w w') : Fr B T' w w' :=
 ⟨h.os, h.tape, h.output, h.size, fun k o hk _ => h.keep k o hk (.inl (lt_of_get hk))⟩

theorem Fr.nil {B B' : Nat} {T : List Nat} {w w' : World} (h : Fr B [] w w') : Fr B' T w w' :=
 ⟨h.os, h.tape, h.output, h.size, fun k o hk _ => h.keep k o hk (.inr (by simp))⟩

theorem Fr.drew {B : Nat} {T : List Nat} {a w : World} (h : Fr B T a w) : Fr B T a w.drew := ⟨h.os, h.tape, h.output, h.size, h.keep⟩

theorem Fr.drewN {B : Nat} {T : List Nat} {a w : World} (h : Fr B T a w) (n : Nat) : Fr B T a (w.drewN n) := by
 induction n with
 | zero => exact h
 | succ n ih => exact ⟨h.os, h.tape, h.output, h.size, h.keep⟩

theorem Fr.alloc {B : Nat} {T : List Nat} {a w : World} (h : Fr B T a w) (o : Obj) : Fr B T a (w.alloc o) :=
 h.trans ⟨rfl, rfl, rfl, by simp, fun k x hk _ => by rw [Below.heap_alloc _ _ _ (lt_of_get hk)]; exact hk⟩

theorem Fr.setNew {B : Nat} {T : List Nat} {a w : World} (h : Fr B T a w) {p : Addr} (hp : a.heap.size ≤ p.block) (u : Value) : Fr B T a (w.setCell p u) :=
 ⟨h.os, h.tape, h.output, by have := h.size; simpa [World.setCell] using this, fun k o hk ho => by
  rw [Below.heap_setCell _ _ _ _ (by have := lt_of_get hk; omega)]; exact h.keep k o hk ho⟩

theorem Fr.setOld {B : Nat} {T : List Nat} {a w : World} (h : Fr B T a w) {p : Addr} {o : Obj} (ho : w.heap[p.block]? = some o) (hB : B ≤ p.block) (hT : otag o ∈ T) (u : Value) : Fr B T a (w.setCell p u) :=
 ⟨h.os, h.tape, h.output, by have := h.size; simpa [World.setCell] using this, fun k x hk hx => by
  have hx' := h.keep k x hk hx
  by_cases e : k = p.block
  ·subst e
   rw [hx'] at ho
   cases ho
   rcases hx with hx | hx
   ·omega
   ·exact absurd hT hx
  ·rw [Below.heap_setCell _ _ _ _ e]; exact hx'⟩

theorem Fr.after {B : Nat} {T T' : List Nat} {a w w' : World} (h : Fr B T' a w) (h2 : Fr a.heap.size T w w') : Fr B T' a w' :=
 ⟨h2.os.trans h.os, h2.tape.trans h.tape, h2.output.trans h.output, Nat.le_trans h.size h2.size, fun k o hk ho => h2.keep k o (h.keep k o hk ho) (.inl (lt_of_get hk))⟩

theorem Fr.below {B : Nat} {T : List Nat} {w w' : World} (h : Fr B T w w') (hB : B ≤ w.heap.size) : Below B w w' :=
 ⟨h.os, h.tape, h.output, h.size, fun k hk => by
  have hk' : k < w.heap.size := by omega
  have := h.keep k w.heap[k] (by simp [hk']) (.inl hk)
  rw [this]; simp [hk']⟩

theorem Fr.ofBelow {B : Nat} {T : List Nat} {w w' : World} (h : Below w.heap.size w w') : Fr B T w w' :=
 ⟨h.os, h.tape, h.output, h.size, fun k o hk _ => by rw [h.block k (lt_of_get hk)]; exact hk⟩

theorem Fr.ofGrown {B : Nat} {T : List Nat} {w w' : World} {row : Option Nat} (h : w.grownBy w' row) (hr : ∀ k o, row = some k → w.heap[k]? = some o → B ≤ k ∧ otag o ∈ T) : Fr B T w w' :=
 ⟨h.os, h.tape, h.output, h.size, fun k o hk ho => by
  rw [h.block k (lt_of_get hk) (fun e => by
   obtain ⟨h1, h2⟩ := hr k o e.symm hk
   rcases ho with ho | ho
   ·omega
   ·exact ho h2)]
  exact hk⟩

theorem Fr.cell {B : Nat} {T : List Nat} {w w' : World} (h : Fr B T w w') {b off : Nat} {u : Value} (hb : b < B) (hc : w.cell? ⟨b, off, none⟩ = some u) : w'.cell? ⟨b, off, none⟩ = some u := by
 have hl := World.block_lt_of_cell? _ _ hc
 have := h.keep b w.heap[b] (by simp [hl]) (.inl hb)
 rw [World.cell?_of_block (w := w) (by rw [this]; simp [hl])]; exact hc

def old (B : Nat) : Nat → Bool → Prop := fun b _ => b < B
def new (lo : Nat) : Nat → Bool → Prop := fun b t => lo ≤ b ∧ t = true

def Safe (K : Nat → Bool → Prop) (B : Nat) (T : List Nat) (E : Nat) : Prop := ∀ b t, K b t → b < B ∨ (t = true ∧ E ∉ T)

theorem Safe.old {B B' : Nat} {T : List Nat} {E : Nat} (h : B ≤ B') : Safe (old B) B' T E := fun _ _ hb => .inl (Nat.lt_of_lt_of_le hb h)
theorem Safe.new {lo B : Nat} {T : List Nat} {E : Nat} (h : E ∉ T) : Safe (new lo) B T E := fun _ _ hb => .inr ⟨hb.2, h⟩

def SlR (K : Nat → Bool → Prop) (E sz : Nat) (w : World) (v : Value) (n : Nat) (cs : List Value) : Prop :=
 ∃ a cap, v = .slice a n cap ∧ cs.length = n * sz ∧ n ≤ cap ∧ (a = none → n = 0 ∧ cap = 0) ∧
  (0 < n → ∃ b off cur e fr, a = some ⟨b, off, none⟩ ∧ K b (decide (e = E)) ∧ w.heap[b]? = some (.cells cur e fr) ∧ ∀ j u, cs[j]? = some u → cur[off + j]? = some u)

theorem SlR.keep {K : Nat → Bool → Prop} {E sz B : Nat} {T : List Nat} {w w' : World} {v : Value} {n : Nat} {cs : List Value} (h : SlR K E sz w v n cs) (hf : Fr B T w w') (hs : Safe K B T E) : SlR K E sz w' v n cs := by
 obtain ⟨a, cap, h1, h2, h3, h4, h5⟩ := h
 refine ⟨a, cap, h1, h2, h3, h4, fun hn => ?_⟩
 obtain ⟨b, off, cur, e, fr, g1, g2, g3, g4⟩ := h5 hn
 refine ⟨b, off, cur, e, fr, g1, g2, ?_, g4⟩
 refine hf.keep _ _ g3 ?_
 rcases hs _ _ g2 with h | ⟨h, h'⟩
 ·exact .inl h
 ·right
  have : e = E := of_decide_eq_true h
  subst this
  exact h'

theorem SlR.grow {K : Nat → Bool → Prop} {E sz B : Nat} {w w' : World} {v : Value} {n : Nat} {cs : List Value} (h : SlR K E sz w v n cs) (hf : Fr B [] w w') : SlR K E sz w' v n cs := by
 obtain ⟨a, cap, h1, h2, h3, h4, h5⟩ := h
 refine ⟨a, cap, h1, h2, h3, h4, fun hn => ?_⟩
 obtain ⟨b, off, cur, e, fr, g1, g2, g3, g4⟩ := h5 hn
 exact ⟨b, off, cur, e, fr, g1, g2, hf.keep _ _ g3 (.inr (by simp)), g4⟩

theorem SlR.weak {K K' : Nat → Bool → Prop} {E sz : Nat} {w : World} {v : Value} {n : Nat} {cs : List Value} (h : SlR K E sz w v n cs) (hk : ∀ b t, b < w.heap.size → K b t → K' b t) : SlR K' E sz w v n cs := by
 obtain ⟨a, cap, h1, h2, h3, h4, h5⟩ := h
 refine ⟨a, cap, h1, h2, h3, h4, fun hn => ?_⟩
 obtain ⟨b, off, cur, e, fr, g1, g2, g3, g4⟩ := h5 hn
 exact ⟨b, off, cur, e, fr, g1, hk _ _ (lt_of_get g3) g2, g3, g4⟩

theorem SlR.cells {K : Nat → Bool → Prop} {E sz : Nat} {w : World} {v : Value} {n : Nat} {cs : List Value} (h : SlR K E sz w v n cs) (hn : 0 < n) :
  ∃ b off cap, v = .slice (some ⟨b, off, none⟩) n cap ∧ b < w.heap.size ∧ n ≤ cap ∧ cs.length = n * sz ∧ ∀ j u, cs[j]? = some u → w.cell? ⟨b, off + j, none⟩ = some u := by
 obtain ⟨a, cap, h1, h2, h3, h4, h5⟩ := h
 obtain ⟨b, off, cur, e, fr, g1, g2, g3, g4⟩ := h5 hn
 subst g1
 exact ⟨b, off, cap, h1, lt_of_get g3, h3, h2, fun j u hu => by simp [World.cell?, g3]; exact g4 j u hu⟩

theorem SlR.nil (K : Nat → Bool → Prop) (E sz : Nat) (w : World) : SlR K E sz w (.slice none 0 0) 0 [] := ⟨none, 0, rfl, by simp, Nat.le_refl _, fun _ => ⟨rfl, rfl⟩, fun h => absurd h (Nat.lt_irrefl _)⟩

theorem SlR.ofOwns {lo E sz : Nat} {w : World} {v : Value} {n : Nat} {cs : List Value} (h : w.ownsRow lo E sz v n cs) : SlR (new lo) E sz w v n cs := by
 obtain ⟨h1, h2⟩ := h
 rcases h2 with ⟨rfl, rfl⟩ | ⟨g, cap, cur, rfl, hg, hh, hn, hm, hs, ht⟩
 ·exact ⟨none, 0, rfl, h1, Nat.le_refl _, fun _ => ⟨rfl, rfl⟩, fun h => absurd h (Nat.lt_irrefl _)⟩
 ·refine ⟨some ⟨g, 0, none⟩, cap, rfl, h1, hn, fun h => (by cases h), fun _ => ⟨g, 0, cur, E, (0, 0), rfl, ⟨hg, by simp⟩, hh, fun j u hu => ?_⟩⟩
  rw [← ht, List.getElem?_take] at hu
  split at hu
  ·simpa using hu
  ·cases hu

theorem Fr.ofOwnGrown {lo E sz B : Nat} {T : List Nat} {w w' : World} {v : Value} {n : Nat} {cs : List Value} (h : w.ownsRow lo E sz v n cs) (hg : w.grownBy w' v.ownBlock) (hB : B ≤ lo) (hT : E ∈ T) : Fr B T w w' := by
 refine Fr.ofGrown hg fun k o hk ho => ?_
 rcases h.2 with ⟨rfl, _⟩ | ⟨g, cap, cur, rfl, hg, hh, _⟩
 ·simp [Value.ownBlock] at hk
 ·simp [Value.ownBlock] at hk
  subst hk
  rw [hh] at ho
  cases ho
  exact ⟨by omega, hT⟩

theorem ownsRow_keep {lo E sz B : Nat} {T : List Nat} {w w' : World} {v : Value} {n : Nat} {cs : List Value} (h : w.ownsRow lo E sz v n cs) (hf : Fr B T w w') (hT : E ∉ T) : w'.ownsRow lo E sz v n cs := by
 refine ⟨h.1, ?_⟩
 rcases h.2 with hn | ⟨g, cap, cur, rfl, hg, hh, rest⟩
 ·exact .inl hn
 ·exact .inr ⟨g, cap, cur, rfl, hg, hf.keep _ _ hh (.inr hT), rest⟩

theorem ownsRow_grow {lo E sz B : Nat} {w w' : World} {v : Value} {n : Nat} {cs : List Value} (h : w.ownsRow lo E sz v n cs) (hf : Fr B [] w w') : w'.ownsRow lo E sz v n cs := ownsRow_keep h hf (by simp)

theorem ownsRow_lo {lo lo' E sz : Nat} {w : World} {v : Value} {n : Nat} {cs : List Value} (h : w.ownsRow lo E sz v n cs) (hl : lo' ≤ lo) : w.ownsRow lo' E sz v n cs := by
 refine ⟨h.1, ?_⟩
 rcases h.2 with hn | ⟨g, cap, cur, rfl, hg, rest⟩
 ·exact .inl hn
 ·exact .inr ⟨g, cap, cur, rfl, Nat.le_trans hl hg, rest⟩

theorem own_shape {lo E sz : Nat} {w : World} {v : Value} {n : Nat} {cs : List Value} (h : w.ownsRow lo E sz v n cs) (hn : 0 < n) :
  ∃ g cap, v = .slice (some ⟨g, 0, none⟩) n cap ∧ lo ≤ g ∧ g < w.heap.size ∧ n ≤ cap := by
 rcases h.2 with ⟨_, rfl⟩ | ⟨g, cap, cur, rfl, hg, hh, hc, _⟩
 ·omega
 ·exact ⟨g, cap, rfl, hg, lt_of_get hh, hc⟩

theorem append_where {P : Program} {w : World} (base : Nat) (t ty e : TypeId) (i : TypeInfo) (z : Value) (size bytes : Nat) (ht : P.underlying t = some (.slice e)) (hi : P.info? e = some i) (hz : i.zero = some z)
  (hsize : i.size = size) (hby : i.bytes = bytes) (hzs : z.cells.size = size) (hsz : 0 < size)
  (v : Value) (n : Nat) (xs : List Value) (hown : w.ownsRow base e size v n xs)
  (a : Addr) (m c : Nat) (news : List Value) (hl : news.length = m * size) (hnews : ∀ j u, news[j]? = some u → w.cell? (a.add j) = some u) (h1 : ∀ u ∈ news, u.oneCell' = true)
  (h63 : n + m ≤ maxLen) (hbytes : (n + m) * bytes ≤ 140737488355328) (v' : Value) (w' : World)
  (hrun : (Builtin.append_ #[t, t] ty #[v, .slice (some a) m c]).run P w = .ok v' w') : v'.ownBlock = v.ownBlock ∨ v'.ownBlock = some w.heap.size := by
 subst hsize
 subst hby
 have hsmall : n + m ≤ 9223372036854775807 := by simp only [maxLen] at h63; omega
 rcases hown.2 with ⟨rfl, rfl⟩ | ⟨g, cap, cur, rfl, hbg, hg, hnc, hcm, hcs, htake⟩
 ·by_cases hm : m = 0
  ·subst hm
   have hn : news = [] := List.eq_nil_of_length_eq_zero (by simpa using hl)
   subst hn
   simp [Builtin.append_, run_underlying ht, sizeOf, typeInfo, hi, Builtin.lenOf, Builtin.firstCells, loadCells, loadCellsFrom] at hrun
   rw [← hrun.1]; exact .inl rfl
  ·rw [run_append_nil (P := P) w t ty e i z ht hi hz a m c news hl hnews (by omega) (by omega) (by have hb := hbytes; simp only [Nat.zero_add] at hb; omega)] at hrun
   cases hrun; exact .inr rfl
 ·by_cases hroom : n + m ≤ cap
  ·have hfit : n * i.size + news.length ≤ cur.size := by rw [hl, hcs, ← Nat.add_mul]; exact Nat.mul_le_mul_right _ hroom
   rw [run_append_room (P := P) w t ty e i ht hi g n cap cur hg a m c news hl hnews h1 hroom hfit] at hrun
   cases hrun; exact .inl rfl
  ·rw [run_append_grow (P := P) w t ty e i z ht hi hz ⟨g, 0, none⟩ n cap xs hown.1 (hown.cells (g := g) rfl) a m c news hl hnews (by omega) (by omega) (growslice_fits (by omega) hbytes)] at hrun
   cases hrun; exact .inr rfl

theorem wpList_ap {P : Program} {w : World} {ops : Array Oper} {rest : List Oper} {o : Oper} {a : Act} {Q : Exit → Act → World → Prop} (hgd : o.guard = none) (s x : Operand) (t : TypeId)
  (ho : o.op = .call { callee := .builtin .append, args := #[s, x], argTypes := #[t, t] })
  (lo : Nat) (e : TypeId) (i : TypeInfo) (z : Value) (size bytes : Nat) (ht : P.underlying t = some (.slice e)) (hi : P.info? e = some i) (hz : i.zero = some z)
  (hsize : i.size = size) (hby : i.bytes = bytes) (hzs : z.cells.size = size) (hsz : 0 < size)
  (v : Value) (n : Nat) (xs : List Value) (hs : a.eval s = v) (hown : w.ownsRow lo e size v n xs)
  (K : Nat → Bool → Prop) (E' : Nat) (vx : Value) (m : Nat) (news : List Value) (hx : a.eval x = vx) (hsrc : SlR K E' size w vx m news) (h1 : ∀ u ∈ news, u.oneCell' = true)
  (h63 : n + m ≤ maxLen) (hbytes : (n + m) * bytes ≤ 140737488355328) (hlo : lo ≤ w.heap.size)
  (h : ∀ v' w', w'.ownsRow lo e size v' (n + m) (xs ++ news) → w.grownBy w' v.ownBlock → (v'.ownBlock = v.ownBlock ∨ v'.ownBlock = some w.heap.size) → wpList P ops Q rest (a.put o.dst v') w') : wpList P ops Q (o :: rest) a w := by
 obtain ⟨ad, cap, rfl, hl, hcap, hnone, hc⟩ := hsrc
 cases ad with
 | none =>
  obtain ⟨rfl, rfl⟩ := hnone rfl
  have hnn : news = [] := List.eq_nil_of_length_eq_zero (by simpa using hl)
  subst hnn
  refine wpList_append_own_none hgd s x t ho lo e i size ht hi v n xs hs hown hx ?_
  exact h v w (by simpa using hown) ⟨rfl, rfl, rfl, Nat.le_refl _, fun _ _ _ => rfl⟩ (.inl rfl)
 | some ad =>
  have hnews : ∀ j u, news[j]? = some u → w.cell? (ad.add j) = some u := by
   intro j u hu
   have hm : 0 < m := by
    rcases Nat.eq_zero_or_pos m with rfl | h
    ·have : news = [] := List.eq_nil_of_length_eq_zero (by simpa using hl)
     subst this; simp at hu
    ·exact h
   obtain ⟨b, off, cur, e2, fr, g1, g2, g3, g4⟩ := hc hm
   cases g1
   have hadd : (⟨b, off, none⟩ : Addr).add j = ⟨b, off + j, none⟩ := by unfold Addr.add; split <;> simp_all
   rw [hadd]; simp [World.cell?, g3]; exact g4 j u hu
  refine wpList_plain hgd fun _ hK => ?_
  obtain ⟨v', w', hr, h2, h3, _⟩ := run_append_own (P := P) w lo t o.type e i z size bytes ht hi hz hsize hby hzs hsz v n xs hown ad m cap news hl hnews h1 h63 hbytes hlo
  have h4 := append_where lo t o.type e i z size bytes ht hi hz hsize hby hzs hsz v n xs hown ad m cap news hl hnews h1 h63 hbytes v' w' hr
  unfold Oper.wp execOp
  simp only [ho, resolve, invoke, builtin, Sem.run_bind, Sem.run_pure, Result.andThen_ok, List.map_toArray, List.map_cons, List.map_nil, hs, hx, hr]
  exact hK _ _ (h v' w' h2 h3 h4)

theorem wpList_clone {P : Program} {w : World} {ops : Array Oper} {rest : List Oper} {o : Oper} {a : Act} {Q : Exit → Act → World → Prop} (hgd : o.guard = none) (s x : Operand) (t : TypeId)
  (ho : o.op = .call { callee := .builtin .append, args := #[s, x], argTypes := #[t, t] })
  (e : TypeId) (i : TypeInfo) (z : Value) (size bytes : Nat) (ht : P.underlying t = some (.slice e)) (hi : P.info? e = some i) (hz : i.zero = some z)
  (hsize : i.size = size) (hby : i.bytes = bytes) (hzs : z.cells.size = size) (hsz : 0 < size)
  (z0 : Nat) (hs : a.eval s = .slice (some ⟨z0, 0, none⟩) 0 0) (hz0 : w.heap.size = z0)
  (K : Nat → Bool → Prop) (E' : Nat) (vx : Value) (m : Nat) (news : List Value) (hx : a.eval x = vx) (hsrc : SlR K E' size w vx m news) (h1 : ∀ u ∈ news, u.oneCell' = true)
  (h63 : m ≤ maxLen) (hbytes : m * bytes ≤ 140737488355328)
  (h : ∀ v' w', w'.ownsRow w.heap.size e size v' m news → Fr w.heap.size [] w w' → wpList P ops Q rest (a.put o.dst v') w') : wpList P ops Q (o :: rest) a (w.alloc (.cells #[] e)) := by
 subst hz0
 have hg : Fr 0 [] w (w.alloc (.cells #[] e)) := (Fr.refl 0 [] w).alloc _
 refine wpList_ap hgd s x t ho w.heap.size e i z size bytes ht hi hz hsize hby hzs hsz _ 0 [] hs (World.ownsRow_made w #[] 0 (Nat.le_refl _) (by decide) (by simp)) K E' vx m news hx (hsrc.grow hg) h1 (by simpa using h63) (by simpa using hbytes) (by simp) fun v' w' h2 h3 _ => ?_
 exact h v' w' (by simpa using h2) (((Fr.refl _ _ _).alloc _).after (Fr.ofOwnGrown (sz := size) (World.ownsRow_made w #[] 0 (Nat.le_refl _) (by decide) (by simp)) h3 (Nat.le_refl _) (List.mem_singleton.2 rfl)))

theorem wpList_push {P : Program} {w : World} {ops : Array Oper} {rest : List Oper} {o : Oper} {a : Act} {Q : Exit → Act → World → Prop} {news : List Value} (hgd : o.guard = none) (s x : Operand) (t : TypeId)
  (ho : o.op = .call { callee := .builtin .append, args := #[s, x], argTypes := #[t, t] })
  (lo : Nat) (e : TypeId) (i : TypeInfo) (z : Value) (size bytes : Nat) (ht : P.underlying t = some (.slice e)) (hi : P.info? e = some i) (hz : i.zero = some z)
  (hsize : i.size = size) (hby : i.bytes = bytes) (hzs : z.cells.size = size) (hsz : 0 < size)
  (v : Value) (n : Nat) (xs : List Value) (hown : w.ownsRow lo e size v n xs) (hl : news.length = size) (h1 : ∀ u ∈ news, u.oneCell' = true)
  (h63 : n + 1 ≤ maxLen) (hbytes : (n + 1) * bytes ≤ 140737488355328) (hlo : lo ≤ w.heap.size) (hs : a.eval s = v) (z0 : Nat) (hx : a.eval x = .slice (some ⟨z0, 0, none⟩) 1 1) (hz0 : w.heap.size = z0)
  (h : ∀ v' w', w'.ownsRow lo e size v' (n + 1) (xs ++ news) → Fr lo [e] w w' → w.grownBy w' v.ownBlock ∧ (v'.ownBlock = v.ownBlock ∨ ∀ k, v'.ownBlock = some k → w.heap.size ≤ k) → wpList P ops Q rest (a.put o.dst v') w') : wpList P ops Q (o :: rest) a (w.alloc (.cells news.toArray e)) := by
 subst hz0
 have hown' : (w.alloc (.cells news.toArray e)).ownsRow lo e size v n xs := hown.alloc _
 have hsrc : SlR (new w.heap.size) e size (w.alloc (.cells news.toArray e)) (.slice (some ⟨w.heap.size, 0, none⟩) 1 1) 1 news := SlR.ofOwns (by
  have := World.ownsRow_lit (base := w.heap.size) (e := e) (size := size) w news.toArray 1 (Nat.le_refl _) (by decide) (by simp [hl])
  simpa using this)
 refine wpList_ap hgd s x t ho lo e i z size bytes ht hi hz hsize hby hzs hsz v n xs hs hown' _ _ _ 1 news hx hsrc h1 h63 hbytes (by simp; omega) fun v' w' h2 h3 h4 => ?_
 refine h v' w' h2 (((Fr.refl _ _ _).alloc _).trans (Fr.ofOwnGrown hown' h3 (Nat.le_refl _) (List.mem_singleton.2 rfl))) ⟨⟨h3.os, h3.tape, h3.output, by have := h3.size; simp at this; omega, fun k hk hne => by rw [h3.block k (by simp; omega) hne, Below.heap_alloc _ _ _ hk]⟩, h4.imp id fun hh k hk => ?_⟩
 rw [hh] at hk
 cases hk
 simp

theorem fm_length {α : Type} (f : α → List Value) (sz : Nat) (hf : ∀ x, (f x).length = sz) (l : List α) : (l.flatMap f).length = l.length * sz := by
 induction l with
 | nil => simp
 | cons x l ih => simp [List.flatMap_cons, hf, ih, Nat.succ_mul]; omega

theorem fm_get {α : Type} (f : α → List Value) (sz : Nat) (hf : ∀ x, (f x).length = sz) (l : List α) (i j : Nat) (hj : j < sz) (hi : i < l.length) : (l.flatMap f)[i * sz + j]? = (f l[i])[j]? := by
 induction l generalizing i with
 | nil => simp at hi
 | cons x l ih =>
  rw [List.flatMap_cons]
  cases i with
  | zero => simp [List.getElem?_append, hf, hj]
  | succ i =>
   rw [List.getElem?_append_right (by rw [hf, Nat.succ_mul]; omega), hf]
   have : (i + 1) * sz + j - sz = i * sz + j := by rw [Nat.succ_mul]; omega
   rw [this, ih i (by simpa using hi)]
   simp

theorem block_set {w : World} {b : Nat} {c : Array Value} {e : TypeId} {f : Nat × Nat} (h : w.heap[b]? = some (.cells c e f)) (o : Nat) (u : Value) : (w.setCell ⟨b, o, none⟩ u).heap[b]? = some (.cells (c.setIfInBounds o u) e f) := by
 simp [World.setCell, Array.getElem?_modify, h]

theorem block_setne {w : World} {k : Nat} {o : Obj} {p : Addr} {u : Value} (h : w.heap[k]? = some o) (hk : k ≠ p.block) : (w.setCell p u).heap[k]? = some o := by
 rw [Below.heap_setCell _ _ _ _ hk]; exact h

theorem cell_of {w : World} {b o : Nat} {c : Array Value} {e : TypeId} {f : Nat × Nat} {u : Value} (h : w.heap[b]? = some (.cells c e f)) (hu : c[o]? = some u) : w.cell? ⟨b, o, none⟩ = some u := by simp [World.cell?, h, hu]

theorem free_of {w : World} {b o : Nat} {c : Array Value} {e : TypeId} (h : w.heap[b]? = some (.cells c e (0, 0))) : w.frozen? ⟨b, o, none⟩ = false := by simp [World.frozen?, h]

theorem heap_up {w : World} {n : Nat} {x : Obj} (h : w.heap[n]? = some x) (o : Obj) : (w.alloc o).heap[n]? = some x := by
 rw [Below.heap_alloc _ _ _ (lt_of_get h)]; exact h

theorem heap_alloc_eq (w : World) (o : Obj) {n : Nat} (h : n = w.heap.size) : (w.alloc o).heap[n]? = some o := by
 subst h; exact heap_alloc_new w o

theorem own_any {lo E sz : Nat} {w : World} {v : Value} {n : Nat} {cs : List Value} (h : w.ownsRow lo E sz v n cs) : ∃ a cap, v = .slice a n cap := by
 obtain ⟨a, cap, h, _⟩ := SlR.ofOwns h
 exact ⟨a, cap, h⟩

theorem cell_setne {w : World} {b off : Nat} {u x : Value} {p : Addr} (h : w.cell? ⟨b, off, none⟩ = some u) (hb : b ≠ p.block) : (w.setCell p x).cell? ⟨b, off, none⟩ = some u := by
 rw [World.cell?_of_block (w := w) (Below.heap_setCell _ _ _ _ hb)]; exact h

theorem cell_alloc {w : World} {o : Obj} {b off : Nat} {u : Value} (h : w.cell? ⟨b, off, none⟩ = some u) : (w.alloc o).cell? ⟨b, off, none⟩ = some u := by
 rw [World.cell?_alloc_past _ _ _ (World.block_lt_of_cell? _ _ h)]; exact h

end Go.Proofs.YtknoanpgadecbaaGreatDoor
