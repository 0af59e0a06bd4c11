/- The box of an object under way. -/
import Derived.Test.YtjgbconlpolddaaPkDrawI
namespace Go.Proofs.Ytjgbconlpolddaa
open Go.RowKit
set_option linter.unusedVariables false

/-- The object's box, the result's box, the object's links. -/
structure Bx (B r q : Nat) (w W : World) (X R : Nat) (cs : Array Value) (v : Value) (l : List Int) : Prop where
  box : W.heap[X]? = some (.cells cs 40 (0, 0))
  res : W.heap[R]? = some (.cells #[.int .i64 0, .slice none 0 0, .string ⟨#[]⟩] 40 (0, 0))
  own : W.ownsRow w.heap.size 3 1 v l.length (l.map (Value.int .i64))
  rd : Rdr B W r q
  fr : Fr B [102] w W
  lo : w.heap.size ≤ R
  lt : R < X
  bl : B ≤ w.heap.size

theorem Bx.set {B r q : Nat} {w W : World} {X R : Nat} {cs : Array Value} {v : Value} {l : List Int} (h : Bx B r q w W X R cs v l) (o : Nat) (u : Value) : Bx B r q w (W.setCell ⟨X, o, none⟩ u) X R (cs.setIfInBounds o u) v l := by
  have F : Fr B [40] W (W.setCell ⟨X, o, none⟩ u) := (Fr.refl B [40] W).setOld (p := ⟨X, o, none⟩) h.box (Nat.le_trans h.bl (Nat.le_trans h.lo (Nat.le_of_lt h.lt))) (by simp [otag]) u
  exact ⟨block_set h.box o u, block_setne h.res (Nat.ne_of_lt h.lt), ownsRow_keep h.own F (by simp), h.rd.keep F (by simp), h.fr.setNew (p := ⟨X, o, none⟩) (Nat.le_trans h.lo (Nat.le_of_lt h.lt)) u, h.lo, h.lt, h.bl⟩

/-- Another row of links, in a world that is further on. -/
theorem Bx.next {B r q : Nat} {w W W' : World} {X R : Nat} {cs : Array Value} {v v' : Value} {l l' : List Int} (h : Bx B r q w W X R cs v l) (hf : Fr W.heap.size [] W W') (ho : W'.ownsRow w.heap.size 3 1 v' l'.length (l'.map (Value.int .i64))) : Bx B r q w W' X R cs v' l' :=
  ⟨hf.keep _ _ h.box (.inr (by simp)), hf.keep _ _ h.res (.inr (by simp)), ho, h.rd.keep (hf.nil (B' := B) (T := [])) (by simp), h.fr.trans hf.nil, h.lo, h.lt, h.bl⟩

theorem Bx.drew {B r q : Nat} {w W : World} {X R : Nat} {cs : Array Value} {v : Value} {l : List Int} (h : Bx B r q w W X R cs v l) : Bx B r q w W.drew X R cs v l :=
  ⟨h.box, h.res, h.own, h.rd.keep (Fr.refl B [] W).drew (by simp), h.fr.drew, h.lo, h.lt, h.bl⟩

theorem Bx.ap {B r q : Nat} {w W W' : World} {X R : Nat} {cs : Array Value} {v v' : Value} {l l' : List Int} {o : Obj} (h : Bx B r q w W X R cs v l) (hf : Fr w.heap.size [3] (W.alloc o) W') (ho : W'.ownsRow w.heap.size 3 1 v' l'.length (l'.map (Value.int .i64))) : Bx B r q w W' X R cs v' l' :=
  have F : Fr w.heap.size [3] W W' := ((Fr.refl _ _ W).alloc o).trans hf
  ⟨F.keep _ _ h.box (.inr (by simp [otag])), F.keep _ _ h.res (.inr (by simp [otag])), ho, h.rd.keep (F.mono h.bl (fun _ x => x)) (by simp), h.fr.after F, h.lo, h.lt, h.bl⟩

/-- A further pick. -/
theorem Bx.pick {B r q q' : Nat} {w W W' : World} {X R : Nat} {cs : Array Value} {v : Value} {l : List Int} (h : Bx B r q w W X R cs v l) (hr : Rdr B W' r q') (hf : Fr B [102] W W') : Bx B r q' w W' X R cs v l :=
  ⟨hf.keep _ _ h.box (.inr (by simp [otag])), hf.keep _ _ h.res (.inr (by simp [otag])), ownsRow_keep h.own hf (by simp), hr, h.fr.trans hf, h.lo, h.lt, h.bl⟩

/-- A push to a row that is newer than the boxes. -/
theorem Bx.push {B r q s : Nat} {w W W' : World} {X R : Nat} {cs : Array Value} {v v' : Value} {l l' : List Int} (h : Bx B r q w W X R cs v l) (hX : X < s) (hf : Fr s [3] W W') (ho : W'.ownsRow w.heap.size 3 1 v' l'.length (l'.map (Value.int .i64))) : Bx B r q w W' X R cs v' l' := by
  have hw : w.heap.size ≤ s := Nat.le_trans h.lo (Nat.le_of_lt (Nat.lt_trans h.lt hX))
  exact ⟨hf.keep _ _ h.box (.inl hX), hf.keep _ _ h.res (.inl (Nat.lt_trans h.lt hX)), ho, h.rd.keep (hf.mono (Nat.le_trans h.bl hw) (fun _ x => x)) (by simp), h.fr.after (hf.mono hw (fun _ x => x)), h.lo, h.lt, h.bl⟩

/-- A drawn object, its links in a row of its own. -/
def DrawO (B r p : Nat) (w : World) (e : Ending) (w' : World) : Prop :=
  ∃ (o : Ob) (v : Value) (q : Nat), e = .returned (.agg #[.int .i64 o.kind, v, .string (tx o.text)]) ∧ w'.ownsRow w.heap.size 3 1 v o.links.length (o.links.map (Value.int .i64)) ∧ o.links.length ≤ 1000 ∧ o.text.length ≤ 9 ∧ -1000 ≤ o.kind ∧ o.kind ≤ 1000 ∧ Rdr B w' r q ∧ q ≤ p + 60 ∧ Fr B [102] w w'

theorem Bx.fin {B r q p : Nat} {w W : World} {X : Nat} {kd : Int} {v : Value} {t : Tx} {l : List Int} (h : Bx B r q w W X w.heap.size #[.int .i64 kd, v, .string (tx t)] v l) (h1 : l.length ≤ 1000) (h2 : t.length ≤ 9) (h3 : -1000 ≤ kd) (h4 : kd ≤ 1000) (h5 : q ≤ p + 60) :
    DrawO B r p w (.returned (.agg #[.int .i64 kd, v, .string (tx t)])) (((W.setCell ⟨w.heap.size, 0, none⟩ (.int .i64 kd)).setCell ⟨w.heap.size, 1, none⟩ v).setCell ⟨w.heap.size, 2, none⟩ (.string (tx t))) ∧
    (((W.setCell ⟨w.heap.size, 0, none⟩ (.int .i64 kd)).setCell ⟨w.heap.size, 1, none⟩ v).setCell ⟨w.heap.size, 2, none⟩ (.string (tx t))).heap[w.heap.size]? = some (.cells #[.int .i64 kd, v, .string (tx t)] 40 (0, 0)) := by
  have b1 := block_set h.res 0 (.int .i64 kd)
  have b2 := block_set b1 1 v
  have b3 := block_set b2 2 (.string (tx t))
  have F1 : Fr B [40] W (W.setCell ⟨w.heap.size, 0, none⟩ (.int .i64 kd)) := (Fr.refl B [40] W).setOld (p := ⟨w.heap.size, 0, none⟩) h.res h.bl (by simp [otag]) _
  have F2 := F1.setOld (p := ⟨w.heap.size, 1, none⟩) b1 h.bl (by simp [otag]) v
  have F3 := F2.setOld (p := ⟨w.heap.size, 2, none⟩) b2 h.bl (by simp [otag]) (.string (tx t))
  exact ⟨⟨⟨kd, l, t⟩, v, q, rfl, ownsRow_keep h.own F3 (by simp), h1, h2, h3, h4, h.rd.keep F3 (by simp), h5, ((h.fr.setNew (p := ⟨w.heap.size, 0, none⟩) (Nat.le_refl _) _).setNew (p := ⟨w.heap.size, 1, none⟩) (Nat.le_refl _) _).setNew (p := ⟨w.heap.size, 2, none⟩) (Nat.le_refl _) _⟩, b3⟩

end Go.Proofs.Ytjgbconlpolddaa
