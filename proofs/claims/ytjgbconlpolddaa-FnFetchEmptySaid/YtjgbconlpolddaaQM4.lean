/- Objects in a row of their own. -/
import Derived.Test.YtjgbconlpolddaaQPkDraw2
import Derived.Test.YtjgbconlpolddaaQPkApply
set_option linter.unusedVariables false
set_option linter.unusedSimpArgs false
namespace Go.Proofs.Ytjgbconlpolddaa
open Go.RowKit
set_option linter.unusedVariables false

/-- Objects in a row of their own. -/
def ObsOwn (lo : Nat) (w : World) (v : Value) (os : List Ob) : Prop :=
  ∃ zs : List (Ob × Value), zs.map (·.1) = os ∧ w.ownsRow lo 40 3 v os.length (zs.flatMap encOb) ∧ ∀ z ∈ zs, IntsR (new lo) w z.2 z.1.links

theorem ObsOwn.reads {lo : Nat} {w : World} {v : Value} {os : List Ob} (h : ObsOwn lo w v os) : ObsR (new lo) w v os := by
  obtain ⟨zs, h1, h2, h3⟩ := h
  exact ⟨zs, h1, SlR.ofOwns h2, h3⟩

theorem ObsOwn.keep {lo B : Nat} {T : List Nat} {w w' : World} {v : Value} {os : List Ob} (h : ObsOwn lo w v os) (hf : Fr B T w w') (h1 : 40 ∉ T) (h2 : 3 ∉ T) : ObsOwn lo w' v os := by
  obtain ⟨zs, g1, g2, g3⟩ := h
  exact ⟨zs, g1, ownsRow_keep g2 hf h1, fun z hz => (g3 z hz).keep hf (Safe.new h2)⟩

theorem ObsOwn.grow {lo B : Nat} {w w' : World} {v : Value} {os : List Ob} (h : ObsOwn lo w v os) (hf : Fr B [] w w') : ObsOwn lo w' v os := h.keep hf (by simp) (by simp)

theorem ObsOwn.lower {lo lo' : Nat} {w : World} {v : Value} {os : List Ob} (h : ObsOwn lo w v os) (hl : lo' ≤ lo) : ObsOwn lo' w v os := by
  obtain ⟨zs, g1, g2, g3⟩ := h
  exact ⟨zs, g1, ownsRow_lo g2 hl, fun z hz => (g3 z hz).weak (fun b t _ hb => ⟨Nat.le_trans hl hb.1, hb.2⟩)⟩

theorem ObsOwn.empty {w : World} {n : Nat} (hn : n = w.heap.size) : ObsOwn n (w.alloc (.cells #[] 40)) (.slice (some ⟨n, 0, none⟩) 0 0) [] := by
  subst hn
  exact ⟨[], rfl, World.ownsRow_lit (e := 40) (size := 3) w #[] 0 (Nat.le_refl _) (by decide) rfl, fun z hz => by cases hz⟩

theorem ObsOwn.snoc {lo n : Nat} {w' : World} {v' : Value} {os : List Ob} {o : Ob} {u : Value} {zs : List (Ob × Value)} (g1 : zs.map (·.1) = os) (g3 : ∀ z ∈ zs, IntsR (new lo) w' z.2 z.1.links)
    (hu : IntsR (new lo) w' u o.links) (hn : n = os.length) (hown : w'.ownsRow lo 40 3 v' (n + 1) (zs.flatMap encOb ++ [.int .i64 o.kind, u, .string (tx o.text)])) : ObsOwn lo w' v' (os ++ [o]) := by
  subst hn
  refine ⟨zs ++ [(o, u)], by simp [g1], ?_, fun z hz => ?_⟩
  · rw [List.flatMap_append, List.length_append]
    simpa [encOb] using hown
  · rcases List.mem_append.1 hz with hz | hz
    · exact g3 z hz
    · simp at hz
      subst hz
      exact hu

theorem ObsOwn.textAt {lo : Nat} {W : World} {b off n cap : Nat} {os : List Ob} (h : ObsOwn lo W (.slice (some ⟨b, off, none⟩) n cap) os) (i : Nat) (hi : i < os.length) : W.cell? ⟨b, off + i * 3 + 2, none⟩ = some (.string (tx os[i].text)) := by
  obtain ⟨a2, cap2, hva2, -, hcell2⟩ := h.reads.shape
  cases hva2
  rcases hcell2 with hh | ⟨b2, off2, hae, -, hcell2⟩
  · subst hh; simp at hi
  · cases hae
    obtain ⟨u, -, -, h2, -⟩ := hcell2 i hi
    exact h2

theorem oneOb3 (x : Int) (a : Option Addr) (n p : Nat) (t : ByteArray) : ∀ u ∈ [Value.int .i64 x, .slice a n p, .string t], u.oneCell' = true := by
  intro u hu
  simp at hu
  rcases hu with rfl | rfl | rfl <;> rfl

/-- What the draws of objects keep to. -/
def Few (os : List Ob) : Prop := ∀ o ∈ os, o.links.length ≤ 1000 ∧ o.text.length ≤ 9 ∧ -1000 ≤ o.kind ∧ o.kind ≤ 1000

theorem Few.snoc {os : List Ob} {o : Ob} (h : Few os) (h1 : o.links.length ≤ 1000) (h2 : o.text.length ≤ 9) (h3 : -1000 ≤ o.kind) (h4 : o.kind ≤ 1000) : Few (os ++ [o]) := by
  intro x hx
  rcases List.mem_append.1 hx with hx | hx
  · exact h x hx
  · simp at hx; subst hx; exact ⟨h1, h2, h3, h4⟩

theorem grownBy_set (W : World) (b o : Nat) (v : Value) : W.grownBy (W.setCell ⟨b, o, none⟩ v) (some b) :=
  ⟨rfl, rfl, rfl, by simp [World.setCell], fun k hk hne => by rw [Below.heap_setCell _ _ _ _ (by intro e; exact hne (by rw [e]))]⟩

/-- The object that goes to the end of the list, in its box. -/
structure Lx (B r q : Nat) (w W : World) (X : Nat) (v : Value) (os : List Ob) (o : Ob) (u : Value) : Prop where
  box : W.heap[X]? = some (.cells #[.int .i64 o.kind, u, .string (tx o.text)] 40 (0, 0))
  lk : IntsR (new w.heap.size) W u o.links
  own : ObsOwn w.heap.size W v os
  nx : v.ownBlock ≠ some X
  rd : Rdr B W r q
  fr : Fr B [102] w W
  lo : w.heap.size ≤ X
  bl : B ≤ w.heap.size

theorem Lx.pick {B r q q' : Nat} {w W W' : World} {X : Nat} {v : Value} {os : List Ob} {o : Ob} {u : Value} (h : Lx B r q w W X v os o u) (hr : Rdr B W' r q') (hf : Fr B [102] W W') : Lx B r q' w W' X v os o u :=
  ⟨hf.keep _ _ h.box (.inr (by simp [otag])), h.lk.keep hf (Safe.new (by simp)), h.own.keep hf (by simp) (by simp), h.nx, hr, h.fr.trans hf, h.lo, h.bl⟩

/-- The same without the links, with any cells. -/
structure Ly (B r q : Nat) (w W : World) (X : Nat) (v : Value) (os : List Ob) (cs : Array Value) : Prop where
  box : W.heap[X]? = some (.cells cs 40 (0, 0))
  own : ObsOwn w.heap.size W v os
  nx : v.ownBlock ≠ some X
  rd : Rdr B W r q
  fr : Fr B [102] w W
  lo : w.heap.size ≤ X
  bl : B ≤ w.heap.size

theorem Lx.ly {B r q : Nat} {w W : World} {X : Nat} {v : Value} {os : List Ob} {o : Ob} {u : Value} (h : Lx B r q w W X v os o u) : Ly B r q w W X v os #[.int .i64 o.kind, u, .string (tx o.text)] := ⟨h.box, h.own, h.nx, h.rd, h.fr, h.lo, h.bl⟩

theorem Ly.lx {B r q : Nat} {w W : World} {X : Nat} {v : Value} {os : List Ob} {o : Ob} {u : Value} (h : Ly B r q w W X v os #[.int .i64 o.kind, u, .string (tx o.text)]) (hu : IntsR (new w.heap.size) W u o.links) : Lx B r q w W X v os o u := ⟨h.box, hu, h.own, h.nx, h.rd, h.fr, h.lo, h.bl⟩

theorem Ly.set {B r q : Nat} {w W : World} {X : Nat} {v : Value} {os : List Ob} {cs : Array Value} (h : Ly B r q w W X v os cs) (j : Nat) (x : Value) : Ly B r q w (W.setCell ⟨X, j, none⟩ x) X v os (cs.setIfInBounds j x) := by
  have F : Fr B [40] W (W.setCell ⟨X, j, none⟩ x) := (Fr.refl B [40] W).setOld (p := ⟨X, j, none⟩) h.box (Nat.le_trans h.bl h.lo) (by simp [otag]) x
  obtain ⟨zs, g1, g2, g3⟩ := h.own
  exact ⟨block_set h.box j x, ⟨zs, g1, g2.kept (grownBy_set W X j x) (.inr h.nx), fun z hz => (g3 z hz).keep F (Safe.new (by simp))⟩, h.nx, h.rd.keep F (by simp), h.fr.setNew (p := ⟨X, j, none⟩) h.lo x, h.lo, h.bl⟩

theorem Ly.grow {B r q : Nat} {w W W' : World} {X : Nat} {v : Value} {os : List Ob} {cs : Array Value} (h : Ly B r q w W X v os cs) (hf : Fr B [] W W') : Ly B r q w W' X v os cs :=
  ⟨hf.keep _ _ h.box (.inr (by simp)), h.own.grow hf, h.nx, h.rd.keep hf (by simp), h.fr.trans hf.nil, h.lo, h.bl⟩

theorem Lx.text {B r q : Nat} {w W : World} {X : Nat} {v : Value} {os : List Ob} {o : Ob} {u : Value} (h : Lx B r q w W X v os o u) (t : Tx) : Lx B r q w (W.setCell ⟨X, 2, none⟩ (.string (tx t))) X v os ⟨o.kind, o.links, t⟩ u := by
  have F : Fr B [40] W (W.setCell ⟨X, 2, none⟩ (.string (tx t))) := (Fr.refl B [40] W).setOld (p := ⟨X, 2, none⟩) h.box (Nat.le_trans h.bl h.lo) (by simp [otag]) _
  exact Ly.lx (h.ly.set 2 (.string (tx t))) (h.lk.keep F (Safe.new (by simp)))

/-- Another object in the box: all three cells, then the fresh row of links. -/
theorem Lx.repl {B r q : Nat} {w W : World} {X : Nat} {v : Value} {os : List Ob} {o : Ob} {u : Value} (h : Lx B r q w W X v os o u) (k : Int) (t : Tx) :
    Lx B r q w ((((W.setCell ⟨X, 0, none⟩ (.int .i64 k)).setCell ⟨X, 1, none⟩ (.slice (some ⟨W.heap.size, 0, none⟩) 0 0)).setCell ⟨X, 2, none⟩ (.string (tx t))).alloc (.cells #[] 3)) X v os ⟨k, [], t⟩ (.slice (some ⟨W.heap.size, 0, none⟩) 0 0) := by
  have h3 := ((h.ly.set 0 (.int .i64 k)).set 1 (.slice (some ⟨W.heap.size, 0, none⟩) 0 0)).set 2 (.string (tx t))
  refine Ly.lx (h3.grow ((Fr.refl B [] _).alloc _)) (SlR.ofOwns ?_)
  have hl := World.ownsRow_lit (base := w.heap.size) (e := 3) (size := 1) (((W.setCell ⟨X, 0, none⟩ (.int .i64 k)).setCell ⟨X, 1, none⟩ (.slice (some ⟨W.heap.size, 0, none⟩) 0 0)).setCell ⟨X, 2, none⟩ (.string (tx t))) #[] 0 h3.fr.size (by decide) rfl
  have hs : (((W.setCell ⟨X, 0, none⟩ (.int .i64 k)).setCell ⟨X, 1, none⟩ (.slice (some ⟨W.heap.size, 0, none⟩) 0 0)).setCell ⟨X, 2, none⟩ (.string (tx t))).heap.size = W.heap.size := by simp [World.setCell]
  rw [hs] at hl
  exact hl

end Go.Proofs.Ytjgbconlpolddaa

/- The program's Op.part and DeltaApply. -/
namespace Go.Proofs.Ytjgbconlpolddaa
open Go.RowKit
set_option linter.unusedVariables false

set_option maxRecDepth 20000 in
set_option maxHeartbeats 4000000 in
theorem part_any (o : Opn) (b : Tx) (w : World) (hb : b.length ≤ 8) :
    Calls Try.prog 81 #[.agg #[.int .i64 o.pos, .int .i64 o.size, .string (tx o.text)], .string (tx b)] w fun e w' => ∃ s, e = .returned (.tuple #[.string s, .bool (opOk b o)]) ∧ (opOk b o = true → s = tx (opPart b o)) ∧ Fr w.heap.size [] w w' := by
  have hsz := tx_size o.text
  have hsb := tx_size b
  have F0 := hid ((Fr.refl w.heap.size [] w).alloc (.cells #[.int .i64 o.pos, .int .i64 o.size, .string (tx o.text)] 109))
  by_cases h0 : o.size = 0
  · have hz : (o.size == 0) = true := by simp [h0]
    have R := hid (show opOk b o = (decide (o.pos = 0) && inR o.text.length 1 8) by unfold opOk; rw [if_pos h0])
    have P := hid (show opPart b o = o.text by unfold opPart; rw [if_pos h0])
    cases hp : (o.pos == 0)
    all_goals have HP := hid hp
    all_goals
      go_enter Try.func81, Try.ntmps81
      go_wp2
      go_quiet (first | (go_at_call 50; exact quiet_eq (inRange_any _ _ _ _)))
      go_wp2
      go_ret2
      refine ⟨_, ?_, fun _ => by rw [P.out], ((Fr.refl w.heap.size [] w).alloc _).drewN _⟩
      rw [R.out]
      have := HP.out
      simp_all
  · have hz : (o.size == 0) = false := by simp [h0]
    by_cases ht : o.text = []
    · have hte : (tx o.text).toList = [] := by rw [tx_list]; exact ht
      by_cases h1 : 1 ≤ o.size
      · by_cases h2 : o.size ≤ (b.length : Int)
        · by_cases h3 : 0 ≤ o.pos
          · by_cases h4 : o.pos ≤ (b.length : Int) - o.size
            · have R := hid (show opOk b o = true by unfold opOk; rw [if_neg h0]; simp [ht, inR]; omega)
              have P := hid (show (tx b).extract o.pos.toNat (o.pos + o.size).toNat = tx (opPart b o) by
                rw [tx_extract]
                unfold opPart
                rw [if_neg h0, show (o.pos + o.size).toNat - o.pos.toNat = o.size.toNat by omega])
              clear ht
              go_enter Try.func81, Try.ntmps81
              go_wp2
              go_ret2
              refine ⟨_, ?_, fun _ => P.out, (Fr.refl _ _ _).alloc _⟩
              rw [R.out]
              try rfl
            · have R := hid (show opOk b o = false by unfold opOk; rw [if_neg h0]; simp [ht, inR]; omega)
              clear ht
              go_enter Try.func81, Try.ntmps81
              go_wp2
              go_ret2
              refine ⟨⟨#[]⟩, ?_, fun h => absurd (R.out.symm.trans h) (by decide), (Fr.refl _ _ _).alloc _⟩
              rw [R.out]
              try rfl
          · have R := hid (show opOk b o = false by unfold opOk; rw [if_neg h0]; simp [ht, inR]; omega)
            clear ht
            go_enter Try.func81, Try.ntmps81
            go_wp2
            go_ret2
            refine ⟨⟨#[]⟩, ?_, fun h => absurd (R.out.symm.trans h) (by decide), (Fr.refl _ _ _).alloc _⟩
            rw [R.out]
            try rfl
        · have R := hid (show opOk b o = false by unfold opOk; rw [if_neg h0]; simp [ht, inR]; omega)
          clear ht
          go_enter Try.func81, Try.ntmps81
          go_wp2
          go_ret2
          refine ⟨⟨#[]⟩, ?_, fun h => absurd (R.out.symm.trans h) (by decide), (Fr.refl _ _ _).alloc _⟩
          rw [R.out]
          try rfl
      · have R := hid (show opOk b o = false by unfold opOk; rw [if_neg h0]; simp [ht, inR]; omega)
        clear ht
        go_enter Try.func81, Try.ntmps81
        go_wp2
        go_ret2
        refine ⟨⟨#[]⟩, ?_, fun h => absurd (R.out.symm.trans h) (by decide), (Fr.refl _ _ _).alloc _⟩
        rw [R.out]
        try rfl
    · have hte : ¬ (tx o.text).toList = [] := by rw [tx_list]; exact ht
      have R := hid (show opOk b o = false by unfold opOk; rw [if_neg h0]; simp [ht])
      clear ht
      go_enter Try.func81, Try.ntmps81
      go_wp2
      go_ret2
      refine ⟨⟨#[]⟩, ?_, fun h => absurd (R.out.symm.trans h) (by decide), (Fr.refl _ _ _).alloc _⟩
      rw [R.out]
      try rfl

end Go.Proofs.Ytjgbconlpolddaa

/- The program's DeltaApply. -/
namespace Go.Proofs.Ytjgbconlpolddaa
open Go.RowKit
set_option linter.unusedVariables false

theorem opPart_le {b : Tx} {o : Opn} (hb : b.length ≤ 8) (h : opOk b o = true) : (opPart b o).length ≤ 8 := by
  unfold opOk at h
  unfold opPart
  split at h
  · rename_i h0
    rw [if_pos h0]
    simp [inR] at h
    omega
  · rename_i h0
    rw [if_neg h0]
    simp
    omega

set_option maxRecDepth 20000 in
set_option maxHeartbeats 4000000 in
theorem implDeltaApply_any (K : Nat → Bool → Prop) (b : Tx) (v : Value) (ops : List Opn) (w : World) (hv : OpsR K w v ops) :
    Calls Try.prog 48 #[.string (tx b), v] w fun e w' => e = .returned (.tuple #[.string (tx ((dapp b ops).getD [])), .bool (dapp b ops).isSome]) ∧ Fr w.heap.size [] w w' := by
  obtain ⟨a, cap, rfl, hcap, hcell⟩ := hv.shape
  have hsb := tx_size b
  generalize hD : dapp b ops = D
  have HD := hid hD
  clear hD hv
  by_cases hb : b.length ≤ 8
  · by_cases ho : ops.length ≤ 8
    · have ib : ¬ (8 : Int) < (b.length : Int) := by omega
      have io : ¬ (8 : Int) < (ops.length : Int) := by omega
      have HD2 := hid (show D = dappTo b ops ops.length by rw [← HD.out]; unfold dapp; rw [if_pos ⟨hb, ho⟩])
      clear HD
      go_enter Try.func48, Try.ntmps48
      go_wp2
      go_loopw [6, 21] (fun vt vi wx => ∃ (k : Nat) (t : Tx), k ≤ ops.length ∧ vi = .int .i64 k ∧ vt = .string (tx t) ∧ t.length ≤ 8 ∧ dappTo b ops k = some t ∧ Fr w.heap.size [] w wx) (fun _ vi _ => ops.length - (intOf vi).toNat)
      case atStart => exact ⟨0, [], Nat.zero_le _, rfl, rfl, by decide, rfl, Fr.refl _ _ _⟩
      case round =>
        obtain ⟨k, t, hk, rfl, rfl, ht, hto, hfr⟩ := hrel
        have TO := hid hto
        have hst := tx_size t
        clear hto
        by_cases hlt : k < ops.length
        · rcases hcell with hh | ⟨bb, off, rfl, hbs, hcell⟩
          · rw [hh] at hlt; cases hlt
          · obtain ⟨h0, h1, h2⟩ := hcell k hlt
            have c0 := hfr.cell hbs h0
            have c1 := hfr.cell hbs h1
            have c2 := hfr.cell hbs h2
            have hbr : bb < wr.heap.size := Nat.lt_of_lt_of_le hbs hfr.size
            have hki : (k : Int) < (ops.length : Int) := by omega
            have SU := hid (dappTo_succ hlt TO.out)
            clear h0 h1 h2 hcell
            cases gk : opOk b ops[k]
            · have NO := hid (show D = none by
                rw [HD2.out]
                refine dappTo_none (k := k + 1) ?_ _ hlt
                rw [SU.out, if_neg (by rw [gk]; simp)])
              have GK := hid gk
              clear gk
              go_wp2_with (go_at_call 81; go_must (refine (part_any ops[k] b _ hb).mono ?_; rintro e w1 ⟨s, rfl, hs, fr1⟩; rw [GK.out]; have F1 := hid ((hfr.alloc (.cells #[.int .i64 ops[k].pos, .int .i64 ops[k].size, .string (tx ops[k].text)] 109)).trans fr1.nil); clear fr1 hs))
              go_ret2
              rw [NO.out]
              exact ⟨rfl, F1.out⟩
            · have hpl := opPart_le hb gk
              have GK := hid gk
              clear gk
              generalize hp : opPart b ops[k] = p at *
              have HP := hid hp
              have hsp := tx_size p
              clear hp
              by_cases hs8 : t.length + p.length ≤ 8
              · have i8 : ¬ (8 : Int) < (t.length : Int) + (p.length : Int) := by omega
                have N1 := hid (show dappTo b ops (k + 1) = some (t ++ p) by rw [SU.out, if_pos ⟨GK.out, hs8⟩])
                go_wp2_with (go_at_call 81; go_must (refine (part_any ops[k] b _ hb).mono ?_; rintro e w1 ⟨s, rfl, hs, fr1⟩; obtain rfl := hs GK.out; rw [GK.out, HP.out]; have F1 := hid ((hfr.alloc (.cells #[.int .i64 ops[k].pos, .int .i64 ops[k].size, .string (tx ops[k].text)] 109)).trans fr1.nil); clear fr1 hs))
                go_roundw
                case rel => exact ⟨k + 1, t ++ p, by omega, by go_num, by rw [tx_append], by simp; omega, N1.out, F1.out⟩
                case measure => simp [intOf]; omega
              · have i8 : (8 : Int) < (t.length : Int) + (p.length : Int) := by omega
                have NO := hid (show D = none by
                  rw [HD2.out]
                  refine dappTo_none (k := k + 1) ?_ _ hlt
                  rw [SU.out, if_neg (fun h => hs8 h.2)])
                go_wp2_with (go_at_call 81; go_must (refine (part_any ops[k] b _ hb).mono ?_; rintro e w1 ⟨s, rfl, hs, fr1⟩; obtain rfl := hs GK.out; rw [GK.out, HP.out]; have F1 := hid ((hfr.alloc (.cells #[.int .i64 ops[k].pos, .int .i64 ops[k].size, .string (tx ops[k].text)] 109)).trans fr1.nil); clear fr1 hs))
                go_ret2
                rw [NO.out]
                exact ⟨rfl, F1.out⟩
        · obtain rfl : k = ops.length := by omega
          clear hcell
          have DS := hid (HD2.out.trans TO.out)
          go_wp2
          go_ret2
          rw [DS.out]
          exact ⟨rfl, hfr⟩
    · have ib : ¬ (8 : Int) < (b.length : Int) := by omega
      have io : (8 : Int) < (ops.length : Int) := by omega
      have NO := hid (show D = none by rw [← HD.out]; unfold dapp; rw [if_neg (fun h => ho h.2)])
      clear HD
      go_enter Try.func48, Try.ntmps48
      go_wp2
      go_ret2
      rw [NO.out]
      exact ⟨rfl, Fr.refl _ _ _⟩
  · have ib : (8 : Int) < (b.length : Int) := by omega
    have NO := hid (show D = none by rw [← HD.out]; unfold dapp; rw [if_neg (fun h => hb h.1)])
    clear HD
    go_enter Try.func48, Try.ntmps48
    go_wp2
    go_ret2
    rw [NO.out]
    exact ⟨rfl, Fr.refl _ _ _⟩

end Go.Proofs.Ytjgbconlpolddaa
