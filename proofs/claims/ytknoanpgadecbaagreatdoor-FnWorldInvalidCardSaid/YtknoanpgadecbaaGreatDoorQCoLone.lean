/- A channel in one goroutine beside the kit's walk: pieces without communication by 'Code.wp', the rest by the machine's own steps. -/
import Derived.Test.YtknoanpgadecbaaGreatDoorQBase
import Derived.Conc.LoneCalls
set_option linter.unusedVariables false
set_option linter.unusedSimpArgs false
namespace Go.Proofs.YtknoanpgadecbaaGreatDoor
open Go.RowKit Go.Conc
set_option linter.unusedVariables false

section
variable {P : Program} {Q : Goroutine → World → Prop} {b : Frame} {k : List Item} {cs : List Frame}

def LTP (P : Program) (Q : Goroutine → World → Prop) (b : Frame) (k : List Item) (cs : List Frame) : Exit → Act → World → Prop
 | .normal, a, w => LoneTo P Q (G (b.at a k) cs) w
 | .exit id, a, w => ∃ k', exitTo id k = some k' ∧ LoneTo P Q (G (b.at a k') cs) w
 | .ret, a, w => ∀ todo, LoneTo P Q (G { b.at a todo with mode := .returning } cs) w
 | _, _, _ => False

theorem LoneTo.steps {g g' : Goroutine} {w w' : World} (h : Steps P (solo g w) (solo g' w')) (h' : LoneTo P Q g' w') : LoneTo P Q g w :=
 let ⟨g₂, w₂, hs, hq⟩ := h'; ⟨g₂, w₂, h.trans hs, hq⟩

theorem LT.code {c : Code} {a : Act} {w : World} (h : c.wp P (LTP P Q b k cs) a w) : LoneTo P Q (G (b.at a (.code c :: k)) cs) w := by
 obtain ⟨e, a', w', hq, harr⟩ := h b k cs
 cases e with
 | normal => exact LoneTo.steps harr hq
 | exit id =>
  obtain ⟨k', h1, h2⟩ := hq
  exact LoneTo.steps (harr k' h1) h2
 | ret =>
  obtain ⟨todo, hs⟩ := harr
  exact LoneTo.steps hs (hq todo)
 | goto l => exact hq.elim
 | panic c => exact hq.elim
 | outgrown => exact hq.elim

theorem LT.seq {x y : Code} {a : Act} {w : World} (h : LoneTo P Q (G (b.at a (.code x :: .code y :: k)) cs) w) : LoneTo P Q (G (b.at a (.code (.seq x y) :: k)) cs) w := LoneTo.step step_seq h
theorem LT.block {id : Nat} {c : Code} {a : Act} {w : World} (h : LoneTo P Q (G (b.at a (.code c :: .inBlock id :: k)) cs) w) : LoneTo P Q (G (b.at a (.code (.block id c) :: k)) cs) w := LoneTo.step step_block h
theorem LT.inBlock {id : Nat} {a : Act} {w : World} (h : LoneTo P Q (G (b.at a k) cs) w) : LoneTo P Q (G (b.at a (.inBlock id :: k)) cs) w := LoneTo.step step_inBlock h
theorem LT.loop {c : Code} {a : Act} {w : World} (h : LoneTo P Q (G (b.at a (.code c :: .inLoop c :: k)) cs) w) : LoneTo P Q (G (b.at a (.code (.loop c) :: k)) cs) w := LoneTo.step step_loop h
theorem LT.inLoop {c : Code} {a : Act} {w : World} (h : LoneTo P Q (G (b.at a (.code c :: .inLoop c :: k)) cs) w) : LoneTo P Q (G (b.at a (.inLoop c :: k)) cs) w := LoneTo.step step_inLoop h
theorem LT.cond {x y : Code} {c : Operand} {t : Bool} {a : Act} {w : World} (hc : a.eval c = .bool t) (h : LoneTo P Q (G (b.at a (.code (if t then x else y) :: k)) cs) w) : LoneTo P Q (G (b.at a (.code (.cond c x y) :: k)) cs) w := LoneTo.step (step_cond hc) h
theorem LT.region {id : Nat} {ops : Array Oper} {a : Act} {w : World} (h : LoneTo P Q (G (b.at a (.inRegion ops (List.range ops.size) :: k)) cs) w) : LoneTo P Q (G (b.at a (.code (.region id ops false) :: k)) cs) w := LoneTo.step step_region h
theorem LT.done {ops : Array Oper} {a : Act} {w : World} (h : LoneTo P Q (G (b.at a k) cs) w) : LoneTo P Q (G (b.at a (.inRegion ops [] :: k)) cs) w := LoneTo.step step_region_end h

theorem LT.op {ops : Array Oper} {i : Nat} {rest : List Nat} {a : Act} {w w' : World} {o : Oper} {v : Value} (ho : ops[i]? = some o) (hg : o.guard = none)
  (hr : (execOp a.eval o).run P w = .ok (.value v) w') (h : LoneTo P Q (G (b.at (a.put o.dst v) (.inRegion ops rest :: k)) cs) w') : LoneTo P Q (G (b.at a (.inRegion ops (i :: rest) :: k)) cs) w := by
 have hw : Region.wanted o (yielded ops a.tmps) = true := by simp [Region.wanted, hg]
 have hs := Go.stepG_op (P := P) (b := b) (k := k) (cs := cs) (w := w) (rest := rest) ho hw
 have hfin : (b.at a (.inRegion ops (i :: rest) :: k)).finish v = b.at (a.put o.dst v) (.inRegion ops rest :: k) := by
  rw [Frame.finish_at, ho]; rfl
 refine LoneTo.step (step_lone_go ?_) h
 rw [hs, ← hfin]
 simp [stepG.apply, hr]

theorem LT.send {ops : Array Oper} {i : Nat} {rest : List Nat} {a : Act} {w w₁ : World} {o : Oper} {c cap s r : Nat} {buf : Array Value} {v z : Value} {tm : Bool} (hb : b.kind ≠ .early) (ho : ops[i]? = some o) (hg : o.guard = none)
  (hr : (execOp a.eval o).run P w = .ok (.comm #[scase c v z] true .send) w₁) (hc : w₁.heap[c]? = some (.chan cap buf false s r tm)) (hroom : buf.size < cap)
  (h : LoneTo P Q (G (b.at (a.put o.dst undef) (.inRegion ops rest :: k)) cs) (w₁.setChan c cap (buf.push v) false (s + 1) r tm)) : LoneTo P Q (G (b.at a (.inRegion ops (i :: rest) :: k)) cs) w := by
 have hw : Region.wanted o (yielded ops a.tmps) = true := by simp [Region.wanted, hg]
 have hfin : (b.at a (.inRegion ops (i :: rest) :: k)).finish undef = b.at (a.put o.dst undef) (.inRegion ops rest :: k) := by
  rw [Frame.finish_at, ho]; rfl
 refine LoneTo.step (step_lone_send_room (stepG_comm ho hw hb hr) hc hroom) ?_
 rw [hfin]; exact h

theorem LT.recv {ops : Array Oper} {i : Nat} {rest : List Nat} {a : Act} {w w₁ : World} {o : Oper} {c cap s r : Nat} {buf : Array Value} {z : Value} {tm closed : Bool} (hb : b.kind ≠ .early) (ho : ops[i]? = some o) (hg : o.guard = none)
  (hr : (execOp a.eval o).run P w = .ok (.comm #[rcase c z] true (.recv true)) w₁) (hc : w₁.heap[c]? = some (.chan cap buf closed s r tm)) (hsome : 0 < buf.size)
  (h : LoneTo P Q (G (b.at (a.put o.dst (.tuple #[buf.getD 0 undef, .bool true])) (.inRegion ops rest :: k)) cs) (w₁.setChan c cap (buf.extract 1 buf.size) closed s (r + 1) tm)) : LoneTo P Q (G (b.at a (.inRegion ops (i :: rest) :: k)) cs) w := by
 have hw : Region.wanted o (yielded ops a.tmps) = true := by simp [Region.wanted, hg]
 have hfin : ∀ v, (b.at a (.inRegion ops (i :: rest) :: k)).finish v = b.at (a.put o.dst v) (.inRegion ops rest :: k) := fun v => by
  rw [Frame.finish_at, ho]; rfl
 refine LoneTo.step (step_lone_recv_buf true (stepG_comm ho hw hb hr) hc hsome) ?_
 rw [hfin]; exact h

theorem LT.shut {ops : Array Oper} {i : Nat} {rest : List Nat} {a : Act} {w w₁ : World} {o : Oper} {c cap s r : Nat} {z : Value} {tm : Bool} (hb : b.kind ≠ .early) (ho : ops[i]? = some o) (hg : o.guard = none)
  (hr : (execOp a.eval o).run P w = .ok (.comm #[rcase c z] true (.recv true)) w₁) (hc : w₁.heap[c]? = some (.chan cap #[] true s r tm))
  (h : LoneTo P Q (G (b.at (a.put o.dst (.tuple #[z, .bool false])) (.inRegion ops rest :: k)) cs) w₁) : LoneTo P Q (G (b.at a (.inRegion ops (i :: rest) :: k)) cs) w := by
 have hw : Region.wanted o (yielded ops a.tmps) = true := by simp [Region.wanted, hg]
 have hfin : ∀ v, (b.at a (.inRegion ops (i :: rest) :: k)).finish v = b.at (a.put o.dst v) (.inRegion ops rest :: k) := fun v => by
  rw [Frame.finish_at, ho]; rfl
 refine LoneTo.step (step_lone_recv_shut true (stepG_comm ho hw hb hr) hc) ?_
 rw [hfin]; exact h
end

theorem LT.body {P : Program} {f : FuncId} {fn : Func} {b : Frame} {cs : List Frame} {c : Code} {a : Act} {w : World} {R : Ending → World → Prop} (hf : P.funcs[f]? = some fn) (hbf : b.fn = f) (hbk : b.kind = .normal)
  (h : c.wp P (bodyPost P fn R) a w) (ho : ∀ w', ¬ R .outgrown w') (hp : ∀ c w', ¬ R (.panicked c) w') : LoneTo P (fun g' w' => ∃ e fr, g' = G fr cs ∧ R e w' ∧ fr.fn = f ∧ fr.leaving P w' e) (G (b.at a [.code c]) cs) w := by
 refine LT.code (wp_mono h fun e a' w' hq => ?_)
 cases e with
 | normal =>
  obtain ⟨hd, v, hr, hR⟩ := hq
  refine LoneTo.step step_end (LoneTo.done ⟨.returned v, _, rfl, hR, hbf, rfl, ?_, hbk, fn, ?_, hr⟩)
  ·exact hd
  ·show P.funcs[b.fn]? = some fn
   rw [hbf]; exact hf
 | ret =>
  obtain ⟨hd, v, hr, hR⟩ := hq
  intro todo
  refine LoneTo.done ⟨.returned v, _, rfl, hR, hbf, rfl, ?_, hbk, fn, ?_, hr⟩
  ·exact hd
  ·show P.funcs[b.fn]? = some fn
   rw [hbf]; exact hf
 | panic chain => exact absurd hq.2 (hp _ _)
 | exit id => exact hq.elim
 | goto l => exact hq.elim
 | outgrown => exact absurd hq (ho _)

end Go.Proofs.YtknoanpgadecbaaGreatDoor
