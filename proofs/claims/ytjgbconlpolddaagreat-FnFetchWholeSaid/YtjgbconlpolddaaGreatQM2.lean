/- A map of records keyed by ints, as a function. -/
import Derived.Test.YtjgbconlpolddaaGreatProg
import Derived.Test.YtjgbconlpolddaaGreatQBase
import Derived.Maps.Own
import Derived.Maps.OwnSet
import Derived.Maps.OwnOps
import Derived.Deep.QuietTactic
import Derived.BigQuiet
import Derived.Test.YtjgbconlpolddaaGreatQM1
import Derived.Deep.DeepMust
import Derived.StillTailTactics
import Derived.RegionTactic
import Derived.BigRegion
import Derived.Deep.RegionHeld3
import Derived.Lib.Strings
import Derived.Deep.AppendLies
import Derived.Deep.RegionLaw
import Derived.Deep.DeepCutAuto
set_option linter.unusedVariables false
set_option linter.unusedSimpArgs false
namespace Go.Proofs.YtjgbconlpolddaaGreat
open Go.RowKit
set_option linter.unusedVariables false

/-- An element that reads as itself. -/
def heldElem (v : Value) : Option (DataW Value × List MemPlace) := some (.held v, [])

/-- Block m is a map of at most n entries, keyed by ints, that holds f. -/
def MapF (w : World) (m n : Nat) (f : Int → Option Value) : Prop :=
  ∃ D : DataW Value, w.ownsMap Tryz.prog 3 heldElem m n D ∧ Maps.IsMap D ∧ (∀ k z, D.atKey (.int .i64 k) z = (match f k with | some v => .held v | none => z)) ∧ ∀ k, Maps.has D (.int .i64 k) = (f k).isSome

def upd {α : Type} (f : Int → Option α) (t : Int) (v : α) : Int → Option α := fun k => if k = t then some v else f k

theorem lawI : Maps.Keyed Tryz.prog 3 := Maps.int_keyed Tryz.underlying3

theorem wf64 {a : Int} (h : -9223372036854775808 ≤ a ∧ a ≤ 9223372036854775807) : (Lit.int .i64 a).wf = true := WalkArith.wf_i64 h

theorem MapF.made (w : World) : MapF (w.alloc (.map #[] 0)) w.heap.size 0 (fun _ => none) :=
  ⟨.map [], World.ownsMap_made w Tryz.prog 3 heldElem, ⟨[], rfl⟩, fun k z => rfl, fun k => rfl⟩

theorem MapF.empty {w : World} {m : Nat} (h : w.heap[m]? = some (.map #[] 0)) : MapF w m 0 (fun _ => none) :=
  ⟨.map [], ⟨#[], 0, h, ⟨by simp, MapKept.stamped_empty 0, by simp⟩, Nat.le_refl _, rfl⟩, ⟨[], rfl⟩, fun k z => rfl, fun k => rfl⟩

theorem MapF.keep {B : Nat} {T : List Nat} {w w' : World} {m n : Nat} {f : Int → Option Value} (h : MapF w m n f) (hf : Fr B T w w') (hT : 1000000 ∉ T) : MapF w' m n f := by
  obtain ⟨D, ⟨es, c, h1, h2⟩, h3⟩ := h
  exact ⟨D, ⟨es, c, hf.keep _ _ h1 (.inr hT), h2⟩, h3⟩

theorem MapF.block {w w' : World} {m n : Nat} {f : Int → Option Value} (h : MapF w m n f) (hk : ∀ o, w.heap[m]? = some o → w'.heap[m]? = some o) : MapF w' m n f := by
  obtain ⟨D, ⟨es, c, h1, h2⟩, h3⟩ := h
  exact ⟨D, ⟨es, c, hk _ h1, h2⟩, h3⟩

theorem MapF.alloc {w : World} {m n : Nat} {f : Int → Option Value} (h : MapF w m n f) (o : Obj) : MapF (w.alloc o) m n f := h.block fun _ hx => heap_up hx _

theorem MapF.lt {w : World} {m n : Nat} {f : Int → Option Value} (h : MapF w m n f) : m < w.heap.size := by
  obtain ⟨D, ⟨es, c, h1, _⟩, _⟩ := h
  exact lt_of_get h1

theorem MapF.tag {w : World} {m n : Nat} {f : Int → Option Value} (h : MapF w m n f) : ∃ o, w.heap[m]? = some o ∧ otag o = 1000000 := by
  obtain ⟨D, ⟨es, c, h1, _⟩, _⟩ := h
  exact ⟨_, h1, rfl⟩

theorem held_of {v : Value} {d : DataW Value} {ps : List MemPlace} (h : heldElem v = some (d, ps)) : d = .held v := by
  unfold heldElem at h; cases h; rfl

/-- 'v, ok := m[k]' as it runs. -/
theorem MapF.look (t e : TypeId) (z : Value) {w : World} {m n : Nat} {f : Int → Option Value} (h : MapF w m n f) (ht : Tryz.prog.underlying t = some (.map 3 e)) (hz : (zeroValue e).run Tryz.prog w = .ok z w) (k : Int) (hk : (Lit.int .i64 k).wf = true) :
    (Instr.lookup t (.map (some m)) (.int .i64 k) true).run Tryz.prog w = .ok (.tuple #[(f k).getD z, .bool (f k).isSome]) w := by
  obtain ⟨D, ho, hm, ha, hh⟩ := h
  obtain ⟨v, ps, hr, hv⟩ := ho.look_ok lawI ht hz (zd := .held z) (zp := []) rfl (Maps.keyOf_int_mk Tryz.underlying3 hk)
  rw [hr, hh k]
  have := held_of hv
  rw [ha k] at this
  cases hf : f k with
  | none => rw [hf] at this; cases this; rfl
  | some x => rw [hf] at this; cases this; rfl

theorem MapF.look1 (t e : TypeId) (z : Value) {w : World} {m n : Nat} {f : Int → Option Value} (h : MapF w m n f) (ht : Tryz.prog.underlying t = some (.map 3 e)) (hz : (zeroValue e).run Tryz.prog w = .ok z w) (k : Int) (hk : (Lit.int .i64 k).wf = true) :
    (Instr.lookup t (.map (some m)) (.int .i64 k) false).run Tryz.prog w = .ok ((f k).getD z) w := by
  obtain ⟨D, ho, hm, ha, hh⟩ := h
  obtain ⟨v, ps, hr, hv⟩ := ho.lookup lawI ht hz (zd := .held z) (zp := []) rfl (Maps.keyOf_int_mk Tryz.underlying3 hk)
  rw [hr]
  have := held_of hv
  rw [ha k] at this
  cases hf : f k with
  | none => rw [hf] at this; cases this; rfl
  | some x => rw [hf] at this; cases this; rfl

/-- 'm[k] = v' as it runs. -/
theorem MapF.store (t e : TypeId) {w : World} {m n : Nat} {f : Int → Option Value} (h : MapF w m n f) (ht : Tryz.prog.underlying t = some (.map 3 e)) (hn : n < maxLen) (k : Int) (v : Value) (hk : (Lit.int .i64 k).wf = true) :
    ∃ w', (Instr.mapUpdate t (.map (some m)) (.int .i64 k) v).run Tryz.prog w = .ok () w' ∧ MapF w' m (n + 1) (upd f k v) ∧ w.grownBy w' (some m) := by
  obtain ⟨D, ho, hm, ha, hh⟩ := h
  have hkey := Maps.keyOf_int_mk Tryz.underlying3 hk
  obtain ⟨w', hr, ho', hg⟩ := ho.update lawI ht hn (val := v) (d := .held v) (ps := []) hkey rfl
  refine ⟨w', hr, ⟨_, ho', hm.put _ _, fun j z => ?_, fun j => ?_⟩, hg⟩
  · unfold upd
    by_cases e : j = k
    · subst e
      rw [if_pos rfl, Maps.atKey_put_same hm (lawI.key hkey)]
    · rw [if_neg e, Maps.atKey_put_other (by simpa using e), ha j z]
  · unfold upd
    by_cases e : j = k
    · subst e
      rw [if_pos rfl, Maps.has_put_same hm (lawI.key hkey)]; rfl
    · rw [if_neg e, Maps.has_put_other (by simpa using e), hh j]

end Go.Proofs.YtjgbconlpolddaaGreat

/- The reader of codes: l6Open and pick. -/
namespace Go.Proofs.YtjgbconlpolddaaGreat
open Go.RowKit
set_option linter.unusedVariables false

theorem xor_i64_nat (a b : Nat) (ha : a < 4611686018427387904) (hb : b < 4611686018427387904) :
    bits .xor .i64 (a : Int) (b : Int) = ((a ^^^ b : Nat) : Int) := by
  have hx : a ^^^ b < 2 ^ 62 := Nat.xor_lt_two_pow (by omega) (by omega)
  have h1 : (BitVec.ofInt 64 (a : Int)).toNat = a := by
    rw [BitVec.ofInt_natCast, BitVec.toNat_ofNat]; exact Nat.mod_eq_of_lt (by omega)
  have h2 : (BitVec.ofInt 64 (b : Int)).toNat = b := by
    rw [BitVec.ofInt_natCast, BitVec.toNat_ofNat]; exact Nat.mod_eq_of_lt (by omega)
  show IntKind.i64.wrap ((BitVec.ofInt 64 (a : Int) ^^^ BitVec.ofInt 64 (b : Int)).toNat : Int) = _
  rw [BitVec.toNat_xor, h1, h2, IntKind.wrap_i64]
  omega

/-- The reader in block r: p bytes read; its bytes lie below B. -/
def Rdr (B : Nat) (w : World) (r p : Nat) : Prop :=
  B ≤ r ∧ ∃ a len cap, w.heap[r]? = some (.cells #[.slice a len cap, .int .i64 (p : Int)] 110 (0, 0)) ∧ len ≤ 2000 ∧
    (0 < len → ∃ b off, a = some ⟨b, off, none⟩ ∧ b < B ∧ ∀ i, i < len → ∃ c : Nat, c < 256 ∧ w.cell? ⟨b, off + i, none⟩ = some (.int .u8 (c : Int)))

theorem Rdr.keep {B : Nat} {T : List Nat} {w w' : World} {r p : Nat} (h : Rdr B w r p) (hf : Fr B T w w') (hT : 110 ∉ T) : Rdr B w' r p := by
  obtain ⟨h0, a, len, cap, h1, h2, h3⟩ := h
  refine ⟨h0, a, len, cap, hf.keep _ _ h1 (.inr hT), h2, fun hl => ?_⟩
  obtain ⟨b, off, g1, g2, g3⟩ := h3 hl
  refine ⟨b, off, g1, g2, fun i hi => ?_⟩
  obtain ⟨c, hc, hcc⟩ := g3 i hi
  exact ⟨c, hc, hf.cell g2 hcc⟩

theorem Rdr.lt {B : Nat} {w : World} {r p : Nat} (h : Rdr B w r p) : r < w.heap.size := by
  obtain ⟨_, a, len, cap, h1, _⟩ := h
  exact lt_of_get h1

/-- Behind the step of the counter. -/
theorem Rdr.step {B : Nat} {w : World} {r p : Nat} (h : Rdr B w r p) : Rdr B (w.setCell ⟨r, 1, none⟩ (.int .i64 ((p : Int) + 1))) r (p + 1) ∧ Fr B [110] w (w.setCell ⟨r, 1, none⟩ (.int .i64 ((p : Int) + 1))) := by
  obtain ⟨h0, a, len, cap, h1, h2, h3⟩ := h
  have hf : Fr B [110] w (w.setCell ⟨r, 1, none⟩ (.int .i64 ((p : Int) + 1))) := (Fr.refl _ _ _).setOld (p := ⟨r, 1, none⟩) h1 h0 (by simp [otag]) _
  refine ⟨⟨h0, a, len, cap, ?_, h2, fun hl => ?_⟩, hf⟩
  · simp [World.setCell, Array.getElem?_modify, h1]
  · obtain ⟨b, off, g1, g2, g3⟩ := h3 hl
    refine ⟨b, off, g1, g2, fun i hi => ?_⟩
    obtain ⟨c, hc, hcc⟩ := g3 i hi
    exact ⟨c, hc, hf.cell g2 hcc⟩

/-- What pick says. -/
def PickPost (B r p : Nat) (n : Int) (w : World) (e : Ending) (w' : World) : Prop :=
  ∃ k : Nat, e = .returned (.int .i64 (k : Int)) ∧ (k = 0 ∨ (k : Int) < n) ∧ Rdr B w' r (p + 1) ∧ Fr B [110] w w'

theorem pick_post {B r p : Nat} {n : Int} {w : World} (h : Rdr B w r p) (m : Nat) {x : Int} (h0 : 0 ≤ x) (hx : x = 0 ∨ x < n) :
    PickPost B r p n w (.returned (.int .i64 x)) ((w.setCell ⟨r, 1, none⟩ (.int .i64 ((p : Int) + 1))).drewN m) := by
  obtain ⟨k, rfl⟩ := Int.eq_ofNat_of_zero_le h0
  obtain ⟨g1, g2⟩ := h.step
  exact ⟨k, rfl, by omega, g1.keep ((Fr.refl B [] _).drewN m) (by simp), g2.drewN m⟩

theorem rd_x (v1 v2 p q : Nat) (n : Int) (hn : 1 ≤ n) (h1 : v1 < 256) (h2 : v2 < 256) (hp : p ≤ 1000000000) (hq : q ≤ p) :
    0 ≤ (bits BinOp.xor IntKind.i64 ((v1 : Int) * 131 + v2 * 1117 + p * 29 + (q : Int) * 53) (((v1 : Int) * 131 + v2 * 1117 + p * 29 + (q : Int) * 53) / 64)).tmod n ∧
    (bits BinOp.xor IntKind.i64 ((v1 : Int) * 131 + v2 * 1117 + p * 29 + (q : Int) * 53) (((v1 : Int) * 131 + v2 * 1117 + p * 29 + (q : Int) * 53) / 64)).tmod n < n := by
  have e : (v1 : Int) * 131 + v2 * 1117 + p * 29 + (q : Int) * 53 = ((v1 * 131 + v2 * 1117 + p * 29 + q * 53 : Nat) : Int) := by omega
  rw [e]
  have e2 : ((v1 * 131 + v2 * 1117 + p * 29 + q * 53 : Nat) : Int) / 64 = (((v1 * 131 + v2 * 1117 + p * 29 + q * 53) / 64 : Nat) : Int) := by omega
  rw [e2, xor_i64_nat _ _ (by omega) (by omega)]
  exact ⟨Int.tmod_nonneg _ (by omega), Int.tmod_lt_of_pos _ (by omega)⟩

set_option maxHeartbeats 400000 in
theorem pick_mix (B r b off len cap p v1 v2 : Nat) (n : Int) (w : World) (hp : p ≤ 1000000000)
    (hR : Rdr B w r p)
    (c0 : w.cell? ⟨r, 0, none⟩ = some (.slice (some ⟨b, off, none⟩) len cap))
    (c1 : w.cell? ⟨r, 1, none⟩ = some (.int .i64 p))
    (f1 : w.frozen? ⟨r, 1, none⟩ = false)
    (hbr : b ≠ r) (hl : len ≤ 2000)
    (hn : 1 ≤ n) (hlen : len ≠ 0) (hge : len ≤ p)
    (h1 : v1 < 256) (h2 : v2 < 256)
    (hc1 : w.cell? ⟨b, off + p % len, none⟩ = some (.int .u8 v1))
    (hc2 : w.cell? ⟨b, off + (p * 7 + 3) % len, none⟩ = some (.int .u8 v2)) :
    Calls Tryz.prog 68 #[.pointer (some ⟨r, 0, none⟩), .int .i64 n] w (PickPost B r p n w) := by
  have hl0 : ((len : Int) == 0) = false := by simp; omega
  have hl1 : (0 : Int) < (len : Int) := by omega
  have hge' : ¬ (p : Int) < (len : Int) := by omega
  have hn' : ¬ n < 1 := by omega
  have a1 : 0 ≤ (p : Int) % len := Int.emod_nonneg _ (by omega)
  have a2 : (p : Int) % len < len := Int.emod_lt_of_pos _ (by omega)
  have a3 : 0 ≤ ((p : Int) * 7 + 3) % len := Int.emod_nonneg _ (by omega)
  have a4 : ((p : Int) * 7 + 3) % len < len := Int.emod_lt_of_pos _ (by omega)
  have a5 : 0 ≤ (p : Int) / len := Int.ediv_nonneg (by omega) (by omega)
  have a6 : (p : Int) / len ≤ p := Int.ediv_le_self _ (by omega)
  have hfin : 0 ≤ (bits BinOp.xor IntKind.i64 ((v1 : Int) * 131 + v2 * 1117 + p * 29 + ((p : Int) / len) * 53) (((v1 : Int) * 131 + v2 * 1117 + p * 29 + ((p : Int) / len) * 53) / 64)).tmod n ∧
    (bits BinOp.xor IntKind.i64 ((v1 : Int) * 131 + v2 * 1117 + p * 29 + ((p : Int) / len) * 53) (((v1 : Int) * 131 + v2 * 1117 + p * 29 + ((p : Int) / len) * 53) / 64)).tmod n < n := by
    have := rd_x v1 v2 p (p / len) n hn h1 h2 hp (Nat.div_le_self _ _)
    rw [Int.natCast_ediv] at this
    exact this
  have HF := hid hfin
  clear hfin
  go_enter Tryz.func68, Tryz.ntmps68
  go_wp2
  go_quiet (fail)
  go_wp2
  go_ret
  exact pick_post hR _ HF.out.1 (.inr HF.out.2)

set_option maxHeartbeats 400000 in
theorem pick_byte (B r b off len cap p v1 : Nat) (n : Int) (w : World) (hp : p ≤ 1000000000)
    (hR : Rdr B w r p)
    (c0 : w.cell? ⟨r, 0, none⟩ = some (.slice (some ⟨b, off, none⟩) len cap))
    (c1 : w.cell? ⟨r, 1, none⟩ = some (.int .i64 p))
    (f1 : w.frozen? ⟨r, 1, none⟩ = false)
    (hbr : b ≠ r) (hl : len ≤ 2000)
    (hn : 1 ≤ n) (hge : p < len)
    (h1 : v1 < 256)
    (hc1 : w.cell? ⟨b, off + p, none⟩ = some (.int .u8 v1)) :
    Calls Tryz.prog 68 #[.pointer (some ⟨r, 0, none⟩), .int .i64 n] w (PickPost B r p n w) := by
  have hl0 : ((len : Int) == 0) = false := by simp; omega
  have hge' : (p : Int) < (len : Int) := by omega
  have hn' : ¬ n < 1 := by omega
  have hfin : 0 ≤ (v1 : Int) % n ∧ (v1 : Int) % n < n := ⟨Int.emod_nonneg _ (by omega), Int.emod_lt_of_pos _ (by omega)⟩
  have HF := hid hfin
  clear hfin
  go_enter Tryz.func68, Tryz.ntmps68
  go_wp2
  go_ret
  exact pick_post hR 0 HF.out.1 (.inr HF.out.2)

set_option maxHeartbeats 400000 in
theorem pick_none (B r len cap p : Nat) (a : Option Addr) (n : Int) (w : World) (hp : p ≤ 1000000000)
    (hR : Rdr B w r p)
    (c0 : w.cell? ⟨r, 0, none⟩ = some (.slice a len cap))
    (c1 : w.cell? ⟨r, 1, none⟩ = some (.int .i64 p))
    (f1 : w.frozen? ⟨r, 1, none⟩ = false)
    (hn : n < 1) :
    Calls Tryz.prog 68 #[.pointer (some ⟨r, 0, none⟩), .int .i64 n] w (PickPost B r p n w) := by
  go_enter Tryz.func68, Tryz.ntmps68
  go_wp2
  go_ret
  exact pick_post hR 0 (Int.le_refl 0) (.inl rfl)

set_option maxHeartbeats 400000 in
theorem pick_empty (B r cap p : Nat) (a : Option Addr) (n : Int) (w : World) (hp : p ≤ 1000000000)
    (hR : Rdr B w r p)
    (c0 : w.cell? ⟨r, 0, none⟩ = some (.slice a 0 cap))
    (c1 : w.cell? ⟨r, 1, none⟩ = some (.int .i64 p))
    (f1 : w.frozen? ⟨r, 1, none⟩ = false)
    (hn : 1 ≤ n) :
    Calls Tryz.prog 68 #[.pointer (some ⟨r, 0, none⟩), .int .i64 n] w (PickPost B r p n w) := by
  have hn' : ¬ n < 1 := by omega
  go_enter Tryz.func68, Tryz.ntmps68
  go_wp2
  go_ret
  exact pick_post hR 0 (Int.le_refl 0) (.inl rfl)

/-- pick, wherever it is called. -/
theorem pick_any (B r p : Nat) (n : Int) (w : World) (hp : p ≤ 1000000000) (hR : Rdr B w r p) :
    Calls Tryz.prog 68 #[.pointer (some ⟨r, 0, none⟩), .int .i64 n] w (PickPost B r p n w) := by
  obtain ⟨h0, a, len, cap, h1, h2, h3⟩ := id hR
  have c0 : w.cell? ⟨r, 0, none⟩ = some (.slice a len cap) := by simp [World.cell?, h1]
  have c1 : w.cell? ⟨r, 1, none⟩ = some (.int .i64 p) := by simp [World.cell?, h1]
  have f1 : w.frozen? ⟨r, 1, none⟩ = false := by simp [World.frozen?, h1]
  by_cases hn : n < 1
  · exact pick_none B r len cap p a n w hp hR c0 c1 f1 hn
  · rcases Nat.eq_zero_or_pos len with rfl | hl
    · exact pick_empty B r cap p a n w hp hR c0 c1 f1 (by omega)
    · obtain ⟨b, off, rfl, g2, g3⟩ := h3 hl
      by_cases hge : p < len
      · obtain ⟨v1, g4, g5⟩ := g3 p hge
        exact pick_byte B r b off len cap p v1 n w hp hR c0 c1 f1 (by omega) h2 (by omega) hge g4 g5
      · obtain ⟨v1, g4, g5⟩ := g3 (p % len) (Nat.mod_lt _ hl)
        obtain ⟨v2, g6, g7⟩ := g3 ((p * 7 + 3) % len) (Nat.mod_lt _ hl)
        exact pick_mix B r b off len cap p v1 v2 n w hp hR c0 c1 f1 (by omega) h2 (by omega) (by omega) (by omega) g4 g6 g5 g7

end Go.Proofs.YtjgbconlpolddaaGreat

/- How objects, operations and entries read. -/
namespace Go.Proofs.YtjgbconlpolddaaGreat
open Go.RowKit
set_option linter.unusedVariables false

/-- A text, as bytes of the model. -/
def tx (t : Tx) : ByteArray := ⟨t.toArray⟩

theorem tx_size (t : Tx) : (tx t).size = t.length := by simp [tx, ByteArray.size]
theorem tx_data (t : Tx) : (tx t).data.toList = t := by simp [tx]
theorem tx_of (s : ByteArray) : tx s.data.toList = s := by simp [tx]
theorem tx_inj {a b : Tx} (h : tx a = tx b) : a = b := by rw [← tx_data a, h, tx_data]

def encOp (o : Opn) : List Value := [.int .i64 o.pos, .int .i64 o.size, .string (tx o.text)]
def encOb (z : Ob × Value) : List Value := [.int .i64 z.1.kind, z.2, .string (tx z.1.text)]
def encEn (z : En × (Value × Value)) : List Value := [.int .i64 z.1.kind, z.2.1, .int .i64 z.1.base, z.2.2]

def IntsR (K : Nat → Bool → Prop) (w : World) (v : Value) (l : List Int) : Prop := SlR K 3 1 w v l.length (l.map (Value.int .i64))
def OpsR (K : Nat → Bool → Prop) (w : World) (v : Value) (l : List Opn) : Prop := SlR K 91 3 w v l.length (l.flatMap encOp)
def ObsR (K : Nat → Bool → Prop) (w : World) (v : Value) (os : List Ob) : Prop :=
  ∃ zs : List (Ob × Value), zs.map (·.1) = os ∧ SlR K 37 3 w v os.length (zs.flatMap encOb) ∧ ∀ z ∈ zs, IntsR K w z.2 z.1.links
def EnsR (K : Nat → Bool → Prop) (w : World) (v : Value) (es : List En) : Prop :=
  ∃ zs : List (En × (Value × Value)), zs.map (·.1) = es ∧ SlR K 50 4 w v es.length (zs.flatMap encEn) ∧ ∀ z ∈ zs, IntsR K w z.2.1 z.1.links ∧ OpsR K w z.2.2 z.1.ops

theorem IntsR.keep {K : Nat → Bool → Prop} {B : Nat} {T : List Nat} {w w' : World} {v : Value} {l : List Int} (h : IntsR K w v l) (hf : Fr B T w w') (hs : Safe K B T 3) : IntsR K w' v l := SlR.keep h hf hs
theorem IntsR.grow {K : Nat → Bool → Prop} {B : Nat} {w w' : World} {v : Value} {l : List Int} (h : IntsR K w v l) (hf : Fr B [] w w') : IntsR K w' v l := SlR.grow h hf
theorem IntsR.weak {K K' : Nat → Bool → Prop} {w : World} {v : Value} {l : List Int} (h : IntsR K w v l) (hk : ∀ b t, b < w.heap.size → K b t → K' b t) : IntsR K' w v l := SlR.weak h hk
theorem OpsR.keep {K : Nat → Bool → Prop} {B : Nat} {T : List Nat} {w w' : World} {v : Value} {l : List Opn} (h : OpsR K w v l) (hf : Fr B T w w') (hs : Safe K B T 91) : OpsR K w' v l := SlR.keep h hf hs
theorem OpsR.grow {K : Nat → Bool → Prop} {B : Nat} {w w' : World} {v : Value} {l : List Opn} (h : OpsR K w v l) (hf : Fr B [] w w') : OpsR K w' v l := SlR.grow h hf
theorem OpsR.weak {K K' : Nat → Bool → Prop} {w : World} {v : Value} {l : List Opn} (h : OpsR K w v l) (hk : ∀ b t, b < w.heap.size → K b t → K' b t) : OpsR K' w v l := SlR.weak h hk

theorem ObsR.keep {K : Nat → Bool → Prop} {B : Nat} {T : List Nat} {w w' : World} {v : Value} {os : List Ob} (h : ObsR K w v os) (hf : Fr B T w w') (hs : Safe K B T 37) (hs' : Safe K B T 3) : ObsR K w' v os := by
  obtain ⟨zs, h1, h2, h3⟩ := h
  exact ⟨zs, h1, h2.keep hf hs, fun z hz => (h3 z hz).keep hf hs'⟩
theorem ObsR.grow {K : Nat → Bool → Prop} {B : Nat} {w w' : World} {v : Value} {os : List Ob} (h : ObsR K w v os) (hf : Fr B [] w w') : ObsR K w' v os := by
  obtain ⟨zs, h1, h2, h3⟩ := h
  exact ⟨zs, h1, h2.grow hf, fun z hz => (h3 z hz).grow hf⟩
theorem ObsR.weak {K K' : Nat → Bool → Prop} {w : World} {v : Value} {os : List Ob} (h : ObsR K w v os) (hk : ∀ b t, b < w.heap.size → K b t → K' b t) : ObsR K' w v os := by
  obtain ⟨zs, h1, h2, h3⟩ := h
  exact ⟨zs, h1, h2.weak hk, fun z hz => (h3 z hz).weak hk⟩
theorem EnsR.keep {K : Nat → Bool → Prop} {B : Nat} {T : List Nat} {w w' : World} {v : Value} {es : List En} (h : EnsR K w v es) (hf : Fr B T w w') (hs : Safe K B T 50) (hs' : Safe K B T 3) (hs'' : Safe K B T 91) : EnsR K w' v es := by
  obtain ⟨zs, h1, h2, h3⟩ := h
  exact ⟨zs, h1, h2.keep hf hs, fun z hz => ⟨(h3 z hz).1.keep hf hs', (h3 z hz).2.keep hf hs''⟩⟩
theorem EnsR.grow {K : Nat → Bool → Prop} {B : Nat} {w w' : World} {v : Value} {es : List En} (h : EnsR K w v es) (hf : Fr B [] w w') : EnsR K w' v es := by
  obtain ⟨zs, h1, h2, h3⟩ := h
  exact ⟨zs, h1, h2.grow hf, fun z hz => ⟨(h3 z hz).1.grow hf, (h3 z hz).2.grow hf⟩⟩
theorem EnsR.weak {K K' : Nat → Bool → Prop} {w : World} {v : Value} {es : List En} (h : EnsR K w v es) (hk : ∀ b t, b < w.heap.size → K b t → K' b t) : EnsR K' w v es := by
  obtain ⟨zs, h1, h2, h3⟩ := h
  exact ⟨zs, h1, h2.weak hk, fun z hz => ⟨(h3 z hz).1.weak hk, (h3 z hz).2.weak hk⟩⟩

theorem IntsR.shape {K : Nat → Bool → Prop} {w : World} {v : Value} {l : List Int} (h : IntsR K w v l) :
    ∃ a cap, v = .slice a l.length cap ∧ l.length ≤ cap ∧ (l = [] ∨ ∃ b off, a = some ⟨b, off, none⟩ ∧ b < w.heap.size ∧ ∀ i (hi : i < l.length), w.cell? ⟨b, off + i, none⟩ = some (.int .i64 l[i])) := by
  rcases l with _ | ⟨u, l⟩
  · obtain ⟨a, cap, h1, h2, h3, h4, h5⟩ := h
    exact ⟨a, cap, h1, h3, .inl rfl⟩
  · obtain ⟨b, off, cap, h1, h2, h3, h4, h5⟩ := SlR.cells h (by simp)
    refine ⟨_, cap, h1, h3, .inr ⟨b, off, rfl, h2, fun i hi => ?_⟩⟩
    exact h5 i _ (by rw [List.getElem?_map, List.getElem?_eq_getElem hi]; rfl)

theorem OpsR.shape {K : Nat → Bool → Prop} {w : World} {v : Value} {l : List Opn} (h : OpsR K w v l) :
    ∃ a cap, v = .slice a l.length cap ∧ l.length ≤ cap ∧ (l = [] ∨ ∃ b off, a = some ⟨b, off, none⟩ ∧ b < w.heap.size ∧ ∀ i (hi : i < l.length),
      w.cell? ⟨b, off + i * 3, none⟩ = some (.int .i64 l[i].pos) ∧ w.cell? ⟨b, off + i * 3 + 1, none⟩ = some (.int .i64 l[i].size) ∧ w.cell? ⟨b, off + i * 3 + 2, none⟩ = some (.string (tx l[i].text))) := by
  rcases l with _ | ⟨u, l⟩
  · obtain ⟨a, cap, h1, h2, h3, h4, h5⟩ := h
    exact ⟨a, cap, h1, h3, .inl rfl⟩
  · obtain ⟨b, off, cap, h1, h2, h3, h4, h5⟩ := SlR.cells h (by simp)
    refine ⟨_, cap, h1, h3, .inr ⟨b, off, rfl, h2, fun i hi => ⟨?_, ?_, ?_⟩⟩⟩
    · exact h5 (i * 3) _ (by have := fm_get encOp 3 (fun _ => rfl) (u :: l) i 0 (by omega) hi; simpa [encOp] using this)
    · exact h5 (i * 3 + 1) _ (by have := fm_get encOp 3 (fun _ => rfl) (u :: l) i 1 (by omega) hi; simpa [encOp] using this)
    · exact h5 (i * 3 + 2) _ (by have := fm_get encOp 3 (fun _ => rfl) (u :: l) i 2 (by omega) hi; simpa [encOp] using this)

theorem map_fst_get {α β : Type} {zs : List (α × β)} {l : List α} (hz : zs.map (·.1) = l) {i : Nat} (hi : i < l.length) : ∃ h : i < zs.length, l[i] = zs[i].1 := by
  subst hz
  have : i < zs.length := by simpa using hi
  exact ⟨this, by simp⟩

theorem ObsR.shape {K : Nat → Bool → Prop} {w : World} {v : Value} {os : List Ob} (h : ObsR K w v os) :
    ∃ a cap, v = .slice a os.length cap ∧ os.length ≤ cap ∧ (os = [] ∨ ∃ b off, a = some ⟨b, off, none⟩ ∧ b < w.heap.size ∧ ∀ i (hi : i < os.length), ∃ u,
      w.cell? ⟨b, off + i * 3, none⟩ = some (.int .i64 os[i].kind) ∧ w.cell? ⟨b, off + i * 3 + 1, none⟩ = some u ∧ w.cell? ⟨b, off + i * 3 + 2, none⟩ = some (.string (tx os[i].text)) ∧ IntsR K w u os[i].links) := by
  obtain ⟨zs, hz, hs, hu⟩ := h
  rcases os with _ | ⟨r, rs⟩
  · obtain ⟨a, cap, h1, h2, h3, h4, h5⟩ := hs
    exact ⟨a, cap, h1, h3, .inl rfl⟩
  · obtain ⟨b, off, cap, h1, h2, h3, h4, h5⟩ := SlR.cells hs (by simp)
    refine ⟨_, cap, h1, h3, .inr ⟨b, off, rfl, h2, fun i hi => ?_⟩⟩
    obtain ⟨hi', e⟩ := map_fst_get hz hi
    rw [e]
    refine ⟨zs[i].2, ?_, ?_, ?_, hu _ (List.getElem_mem hi')⟩
    · exact h5 (i * 3) _ (by have := fm_get encOb 3 (fun _ => rfl) zs i 0 (by omega) hi'; simpa [encOb] using this)
    · exact h5 (i * 3 + 1) _ (by have := fm_get encOb 3 (fun _ => rfl) zs i 1 (by omega) hi'; simpa [encOb] using this)
    · exact h5 (i * 3 + 2) _ (by have := fm_get encOb 3 (fun _ => rfl) zs i 2 (by omega) hi'; simpa [encOb] using this)

theorem EnsR.shape {K : Nat → Bool → Prop} {w : World} {v : Value} {es : List En} (h : EnsR K w v es) :
    ∃ a cap, v = .slice a es.length cap ∧ es.length ≤ cap ∧ (es = [] ∨ ∃ b off, a = some ⟨b, off, none⟩ ∧ b < w.heap.size ∧ ∀ i (hi : i < es.length), ∃ u p,
      w.cell? ⟨b, off + i * 4, none⟩ = some (.int .i64 es[i].kind) ∧ w.cell? ⟨b, off + i * 4 + 1, none⟩ = some u ∧ w.cell? ⟨b, off + i * 4 + 2, none⟩ = some (.int .i64 es[i].base) ∧ w.cell? ⟨b, off + i * 4 + 3, none⟩ = some p ∧ IntsR K w u es[i].links ∧ OpsR K w p es[i].ops) := by
  obtain ⟨zs, hz, hs, hu⟩ := h
  rcases es with _ | ⟨r, rs⟩
  · obtain ⟨a, cap, h1, h2, h3, h4, h5⟩ := hs
    exact ⟨a, cap, h1, h3, .inl rfl⟩
  · obtain ⟨b, off, cap, h1, h2, h3, h4, h5⟩ := SlR.cells hs (by simp)
    refine ⟨_, cap, h1, h3, .inr ⟨b, off, rfl, h2, fun i hi => ?_⟩⟩
    obtain ⟨hi', e⟩ := map_fst_get hz hi
    rw [e]
    refine ⟨zs[i].2.1, zs[i].2.2, ?_, ?_, ?_, ?_, hu _ (List.getElem_mem hi')⟩
    · exact h5 (i * 4) _ (by have := fm_get encEn 4 (fun _ => rfl) zs i 0 (by omega) hi'; simpa [encEn] using this)
    · exact h5 (i * 4 + 1) _ (by have := fm_get encEn 4 (fun _ => rfl) zs i 1 (by omega) hi'; simpa [encEn] using this)
    · exact h5 (i * 4 + 2) _ (by have := fm_get encEn 4 (fun _ => rfl) zs i 2 (by omega) hi'; simpa [encEn] using this)
    · exact h5 (i * 4 + 3) _ (by have := fm_get encEn 4 (fun _ => rfl) zs i 3 (by omega) hi'; simpa [encEn] using this)

end Go.Proofs.YtjgbconlpolddaaGreat

/- append as one step of a region that draws: onto a row of one's own, from any reading. -/
namespace Go.Proofs.YtjgbconlpolddaaGreat
open Go.RowKit
set_option linter.unusedVariables false

theorem step_ap {P : Program} {w : World} {ops : Array Oper} {o : Oper} {a : Act} {K' : Act → World → Prop} {Q : Exit → Act → World → Prop} {E0 : Prop} (hgd : o.guard = none) (s x : Operand) (t : TypeId)
    (ho : o.op = .call { callee := .builtin .append, args := #[s, x], argTypes := #[t, t] })
    (lo : Nat) (e : TypeId) (i : TypeInfo) (z : Value) (size bytes : Nat) (ht : P.underlying t = some (.slice e)) (hi : P.info? e = some i) (hz : i.zero = some z)
    (hsize : i.size = size) (hby : i.bytes = bytes) (hzs : z.cells.size = size) (hsz : 0 < size)
    (v : Value) (n : Nat) (xs : List Value) (hs : a.eval s = v) (hown : w.ownsRow lo e size v n xs)
    (K : Nat → Bool → Prop) (E' : Nat) (vx : Value) (m : Nat) (news : List Value) (hx : a.eval x = vx) (hsrc : SlR K E' size w vx m news) (h1 : ∀ u ∈ news, u.oneCell' = true)
    (h63 : n + m ≤ maxLen) (hbytes : (n + m) * bytes ≤ 140737488355328) (hlo : lo ≤ w.heap.size)
    (h : ∀ v' w', w'.ownsRow lo e size v' (n + m) (xs ++ news) → Fr lo [e] w w' → K' (a.put o.dst v') w') :
    if Region.wanted o (yielded ops a.tmps) = true then Oper.wp P o a w K' Q else E0 := by
  have hw : Region.wanted o (yielded ops a.tmps) = true := by simp [Region.wanted, hgd]
  rw [if_pos hw]
  obtain ⟨ad, cap, rfl, hl, hcap, hnone, hc⟩ := hsrc
  cases ad with
  | none =>
    obtain ⟨rfl, rfl⟩ := hnone rfl
    have hnn : news = [] := List.eq_nil_of_length_eq_zero (by simpa using hl)
    subst hnn
    have hrun := run_append_owned_none (P := P) (w := w) lo t o.type e i size ht hi v n xs hown
    unfold Oper.wp
    simp [execOp, ho, resolve, invoke, builtin, hs, hx, hrun, Result.andThen]
    exact h v w (by simpa using hown) (Fr.refl _ _ _)
  | some ad =>
    have hnews : ∀ j u, news[j]? = some u → w.cell? (ad.add j) = some u := by
      intro j u hu
      have hm : 0 < m := by
        rcases Nat.eq_zero_or_pos m with rfl | h
        · have : news = [] := List.eq_nil_of_length_eq_zero (by simpa using hl)
          subst this; simp at hu
        · exact h
      obtain ⟨b, off, cur, e2, fr, g1, g2, g3, g4⟩ := hc hm
      cases g1
      have hadd : (⟨b, off, none⟩ : Addr).add j = ⟨b, off + j, none⟩ := by unfold Addr.add; split <;> simp_all
      rw [hadd]; simp [World.cell?, g3]; exact g4 j u hu
    obtain ⟨v', w', hr, h2, h3, _⟩ := run_append_own (P := P) w lo t o.type e i z size bytes ht hi hz hsize hby hzs hsz v n xs hown ad m cap news hl hnews h1 h63 hbytes hlo
    unfold Oper.wp execOp
    simp only [ho, resolve, invoke, builtin, Sem.run_bind, Sem.run_pure, Result.andThen_ok, List.map_toArray, List.map_cons, List.map_nil, hs, hx, hr]
    exact h v' w' h2 (Fr.ofOwnGrown hown h3 (Nat.le_refl _) (List.mem_singleton.2 rfl))

/-- The reading of a literal block of one element. -/
theorem SlR.lit {w : World} {e sz : Nat} {cs : List Value} (hl : cs.length = sz) : SlR (new w.heap.size) e sz (w.alloc (.cells cs.toArray e)) (.slice (some ⟨w.heap.size, 0, none⟩) 1 1) 1 cs := SlR.ofOwns (by
  have := World.ownsRow_lit (base := w.heap.size) (e := e) (size := sz) w cs.toArray 1 (Nat.le_refl _) (by decide) (by simp [hl])
  simpa using this)

end Go.Proofs.YtjgbconlpolddaaGreat

/- Draws: picks at hand; the opening of a code; bytes that came in. -/
namespace Go.Proofs.YtjgbconlpolddaaGreat
open Go.RowKit
set_option linter.unusedVariables false

theorem pick_at {B r p : Nat} {n : Int} {w : World} (hR : Rdr B w r p) (hp : p ≤ 1000000000) :
    Calls Tryz.prog 68 #[.pointer (some ⟨r, 0, none⟩), .int .i64 n] w (PickPost B r p n w) := pick_any B r p n w hp hR

theorem Rdr.alloc {B r p : Nat} {w : World} (h : Rdr B w r p) (o : Obj) : Rdr B (w.alloc o) r p := h.keep ((Fr.refl B [] w).alloc o) (by simp)

theorem cell3 {w : World} {b t : Nat} {x y z : Int} {f : Nat × Nat} (h : w.heap[b]? = some (.cells #[.int .i64 x, .int .i64 y, .int .i64 z] t f)) {k : Nat} (hk : k < 3) :
    ∃ n, w.cell? ⟨b, k, none⟩ = some (.int .i64 n) ∧ (n = x ∨ n = y ∨ n = z) := by
  match k, hk with
  | 0, _ => exact ⟨x, cell_of h rfl, .inl rfl⟩
  | 1, _ => exact ⟨y, cell_of h rfl, .inr (.inl rfl)⟩
  | 2, _ => exact ⟨z, cell_of h rfl, .inr (.inr rfl)⟩

/-- A slice of bytes that came in: its bytes lie below B. -/
def Bytes (B : Nat) (w : World) (a : Option Addr) (n cap : Nat) : Prop :=
  n ≤ cap ∧ (0 < n → ∃ b off, a = some ⟨b, off, none⟩ ∧ b < B ∧ ∀ i, i < n → ∃ c : Nat, c < 256 ∧ w.cell? ⟨b, off + i, none⟩ = some (.int .u8 (c : Int)))

set_option maxRecDepth 20000 in
set_option maxHeartbeats 1000000 in
theorem l6Open_any {w : World} {a : Option Addr} {n cap : Nat} (hb : Bytes w.heap.size w a n cap) (hm : cap ≤ maxLen) :
    Calls Tryz.prog 41 #[.slice a n cap] w fun e w' => e = .returned (.pointer (some ⟨w.heap.size, 0, none⟩)) ∧ Rdr w.heap.size w' w.heap.size 0 ∧ Fr w.heap.size [] w w' := by
  obtain ⟨hc, hbb⟩ := hb
  have HB := hid hbb
  unfold maxLen at hm
  clear hbb
  have key : ∀ m : Nat, m ≤ n → m ≤ 2000 → Rdr w.heap.size (w.alloc (.cells #[.slice a m cap, .int .i64 0] 110)) w.heap.size 0 := fun m hm1 hm2 =>
    ⟨Nat.le_refl _, a, m, cap, heap_alloc_new w _, hm2, fun hl => by
      obtain ⟨b, off, g1, g2, g3⟩ := HB.out (by omega)
      refine ⟨b, off, g1, g2, fun i hi => ?_⟩
      obtain ⟨c, hc, hcc⟩ := g3 i (by omega)
      exact ⟨c, hc, cell_alloc hcc⟩⟩
  have KEY := hid key
  clear key
  by_cases hn : 2000 < n
  · have hn' : (2000 : Int) < (n : Int) := by omega
    have hnc : (2000 : Int) ≤ (cap : Int) := by omega
    go_enter Tryz.func41, Tryz.ntmps41
    go_wp2
    go_ret
    exact ⟨rfl, KEY.out 2000 (by omega) (by omega), (Fr.refl _ _ _).alloc _⟩
  · have hn' : ¬ (2000 : Int) < (n : Int) := by omega
    go_enter Tryz.func41, Tryz.ntmps41
    go_wp2
    go_ret
    exact ⟨rfl, KEY.out n (by omega) (by omega), (Fr.refl _ _ _).alloc _⟩

theorem Bytes.up {B B' : Nat} {T : List Nat} {w w' : World} {a : Option Addr} {n cap : Nat} (h : Bytes B w a n cap) (hf : Fr B T w w') (hB : B ≤ B') : Bytes B' w' a n cap := by
  refine ⟨h.1, fun hn => ?_⟩
  obtain ⟨b, off, h1, h2, h3⟩ := h.2 hn
  exact ⟨b, off, h1, Nat.lt_of_lt_of_le h2 hB, fun i hi => by
    obtain ⟨c, hc, hcc⟩ := h3 i hi
    exact ⟨c, hc, hf.cell h2 hcc⟩⟩

/-- A slice of bytes that came in, as the walk wants it. -/
theorem bytes_in {w : World} {a : Option Addr} {len cap : Nat} (h : (a = none ∧ len = 0 ∧ cap = 0) ∨ ∃ (x : Addr) (zs : List Int), a = some x ∧ len ≤ cap ∧ cap ≤ maxLen ∧ zs.length = cap ∧ (∀ i, i < zs.length → w.cell? (x.add i) = some (.int .u8 (zs.getD i 0))) ∧ ∀ n ∈ zs, (Lit.int .u8 n).wf = true) :
    Bytes w.heap.size w a len cap ∧ cap ≤ maxLen := by
  rcases h with ⟨rfl, rfl, rfl⟩ | ⟨x, zs, rfl, hl, hm, hz, hc, hw⟩
  · exact ⟨⟨Nat.le_refl _, fun h => absurd h (Nat.lt_irrefl _)⟩, Nat.zero_le _⟩
  · refine ⟨⟨hl, fun hn => ?_⟩, hm⟩
    obtain ⟨b, off, spot⟩ := x
    have h0 := hc 0 (by omega)
    have hspot : spot = none := by simpa [Addr.add] using World.cell?_spot h0
    subst hspot
    have hadd : ∀ i, (⟨b, off, none⟩ : Addr).add i = ⟨b, off + i, none⟩ := fun i => by unfold Addr.add; split <;> simp_all
    rw [hadd] at h0
    refine ⟨b, off, rfl, World.block_lt_of_cell? _ _ h0, fun i hi => ?_⟩
    have hi' : i < zs.length := by omega
    have h1 := hc i hi'
    rw [hadd] at h1
    have h2 := hw zs[i] (List.getElem_mem hi')
    rw [List.getD_eq_getElem?_getD, List.getElem?_eq_getElem hi', Option.getD_some] at h1
    have h3 : 0 ≤ zs[i] ∧ zs[i] ≤ 255 := by
      have e1 : IntKind.u8.min = 0 := rfl
      have e2 : IntKind.u8.max = 255 := rfl
      simp [Lit.wf] at h2
      omega
    refine ⟨zs[i].toNat, by omega, ?_⟩
    rw [h1]
    congr 2
    omega

end Go.Proofs.YtjgbconlpolddaaGreat
