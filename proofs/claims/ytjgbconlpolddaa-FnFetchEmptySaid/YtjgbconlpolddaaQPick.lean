/- The reader of codes: l6Open and pick. -/
import Derived.Test.YtjgbconlpolddaaProg
import Derived.Test.YtjgbconlpolddaaQBase
import Derived.Deep.QuietTactic
import Derived.BigQuiet
set_option linter.unusedVariables false
set_option linter.unusedSimpArgs false
namespace Go.Proofs.Ytjgbconlpolddaa
open Go.RowKit
set_option linter.unusedVariables false

theorem xor_i64_nat (a b : Nat) (ha : a < 4611686018427387904) (hb : b < 4611686018427387904) :
    bits .xor .i64 (a : Int) (b : Int) = ((a ^^^ b : Nat) : Int) := by
  have hx : a ^^^ b < 2 ^ 62 := Nat.xor_lt_two_pow (by omega) (by omega)
  have h1 : (BitVec.ofInt 64 (a : Int)).toNat = a := by
    rw [BitVec.ofInt_natCast, BitVec.toNat_ofNat]; exact Nat.mod_eq_of_lt (by omega)
  have h2 : (BitVec.ofInt 64 (b : Int)).toNat = b := by
    rw [BitVec.ofInt_natCast, BitVec.toNat_ofNat]; exact Nat.mod_eq_of_lt (by omega)
  show IntKind.i64.wrap ((BitVec.ofInt 64 (a : Int) ^^^ BitVec.ofInt 64 (b : Int)).toNat : Int) = _
  rw [BitVec.toNat_xor, h1, h2, IntKind.wrap_i64]
  omega

/-- The reader in block r: p bytes read; its bytes lie below B. -/
def Rdr (B : Nat) (w : World) (r p : Nat) : Prop :=
  B ≤ r ∧ ∃ a len cap, w.heap[r]? = some (.cells #[.slice a len cap, .int .i64 (p : Int)] 102 (0, 0)) ∧ len ≤ 2000 ∧
    (0 < len → ∃ b off, a = some ⟨b, off, none⟩ ∧ b < B ∧ ∀ i, i < len → ∃ c : Nat, c < 256 ∧ w.cell? ⟨b, off + i, none⟩ = some (.int .u8 (c : Int)))

theorem Rdr.keep {B : Nat} {T : List Nat} {w w' : World} {r p : Nat} (h : Rdr B w r p) (hf : Fr B T w w') (hT : 102 ∉ T) : Rdr B w' r p := by
  obtain ⟨h0, a, len, cap, h1, h2, h3⟩ := h
  refine ⟨h0, a, len, cap, hf.keep _ _ h1 (.inr hT), h2, fun hl => ?_⟩
  obtain ⟨b, off, g1, g2, g3⟩ := h3 hl
  refine ⟨b, off, g1, g2, fun i hi => ?_⟩
  obtain ⟨c, hc, hcc⟩ := g3 i hi
  exact ⟨c, hc, hf.cell g2 hcc⟩

theorem Rdr.lt {B : Nat} {w : World} {r p : Nat} (h : Rdr B w r p) : r < w.heap.size := by
  obtain ⟨_, a, len, cap, h1, _⟩ := h
  exact lt_of_get h1

/-- Behind the step of the counter. -/
theorem Rdr.step {B : Nat} {w : World} {r p : Nat} (h : Rdr B w r p) : Rdr B (w.setCell ⟨r, 1, none⟩ (.int .i64 ((p : Int) + 1))) r (p + 1) ∧ Fr B [102] w (w.setCell ⟨r, 1, none⟩ (.int .i64 ((p : Int) + 1))) := by
  obtain ⟨h0, a, len, cap, h1, h2, h3⟩ := h
  have hf : Fr B [102] w (w.setCell ⟨r, 1, none⟩ (.int .i64 ((p : Int) + 1))) := (Fr.refl _ _ _).setOld (p := ⟨r, 1, none⟩) h1 h0 (by simp [otag]) _
  refine ⟨⟨h0, a, len, cap, ?_, h2, fun hl => ?_⟩, hf⟩
  · simp [World.setCell, Array.getElem?_modify, h1]
  · obtain ⟨b, off, g1, g2, g3⟩ := h3 hl
    refine ⟨b, off, g1, g2, fun i hi => ?_⟩
    obtain ⟨c, hc, hcc⟩ := g3 i hi
    exact ⟨c, hc, hf.cell g2 hcc⟩

/-- What pick says. -/
def PickPost (B r p : Nat) (n : Int) (w : World) (e : Ending) (w' : World) : Prop :=
  ∃ k : Nat, e = .returned (.int .i64 (k : Int)) ∧ (k = 0 ∨ (k : Int) < n) ∧ Rdr B w' r (p + 1) ∧ Fr B [102] w w'

theorem pick_post {B r p : Nat} {n : Int} {w : World} (h : Rdr B w r p) (m : Nat) {x : Int} (h0 : 0 ≤ x) (hx : x = 0 ∨ x < n) :
    PickPost B r p n w (.returned (.int .i64 x)) ((w.setCell ⟨r, 1, none⟩ (.int .i64 ((p : Int) + 1))).drewN m) := by
  obtain ⟨k, rfl⟩ := Int.eq_ofNat_of_zero_le h0
  obtain ⟨g1, g2⟩ := h.step
  exact ⟨k, rfl, by omega, g1.keep ((Fr.refl B [] _).drewN m) (by simp), g2.drewN m⟩

theorem rd_x (v1 v2 p q : Nat) (n : Int) (hn : 1 ≤ n) (h1 : v1 < 256) (h2 : v2 < 256) (hp : p ≤ 1000000000) (hq : q ≤ p) :
    0 ≤ (bits BinOp.xor IntKind.i64 ((v1 : Int) * 131 + v2 * 1117 + p * 29 + (q : Int) * 53) (((v1 : Int) * 131 + v2 * 1117 + p * 29 + (q : Int) * 53) / 64)).tmod n ∧
    (bits BinOp.xor IntKind.i64 ((v1 : Int) * 131 + v2 * 1117 + p * 29 + (q : Int) * 53) (((v1 : Int) * 131 + v2 * 1117 + p * 29 + (q : Int) * 53) / 64)).tmod n < n := by
  have e : (v1 : Int) * 131 + v2 * 1117 + p * 29 + (q : Int) * 53 = ((v1 * 131 + v2 * 1117 + p * 29 + q * 53 : Nat) : Int) := by omega
  rw [e]
  have e2 : ((v1 * 131 + v2 * 1117 + p * 29 + q * 53 : Nat) : Int) / 64 = (((v1 * 131 + v2 * 1117 + p * 29 + q * 53) / 64 : Nat) : Int) := by omega
  rw [e2, xor_i64_nat _ _ (by omega) (by omega)]
  exact ⟨Int.tmod_nonneg _ (by omega), Int.tmod_lt_of_pos _ (by omega)⟩

set_option maxHeartbeats 400000 in
theorem pick_mix (B r b off len cap p v1 v2 : Nat) (n : Int) (w : World) (hp : p ≤ 1000000000)
    (hR : Rdr B w r p)
    (c0 : w.cell? ⟨r, 0, none⟩ = some (.slice (some ⟨b, off, none⟩) len cap))
    (c1 : w.cell? ⟨r, 1, none⟩ = some (.int .i64 p))
    (f1 : w.frozen? ⟨r, 1, none⟩ = false)
    (hbr : b ≠ r) (hl : len ≤ 2000)
    (hn : 1 ≤ n) (hlen : len ≠ 0) (hge : len ≤ p)
    (h1 : v1 < 256) (h2 : v2 < 256)
    (hc1 : w.cell? ⟨b, off + p % len, none⟩ = some (.int .u8 v1))
    (hc2 : w.cell? ⟨b, off + (p * 7 + 3) % len, none⟩ = some (.int .u8 v2)) :
    Calls Try.prog 71 #[.pointer (some ⟨r, 0, none⟩), .int .i64 n] w (PickPost B r p n w) := by
  have hl0 : ((len : Int) == 0) = false := by simp; omega
  have hl1 : (0 : Int) < (len : Int) := by omega
  have hge' : ¬ (p : Int) < (len : Int) := by omega
  have hn' : ¬ n < 1 := by omega
  have a1 : 0 ≤ (p : Int) % len := Int.emod_nonneg _ (by omega)
  have a2 : (p : Int) % len < len := Int.emod_lt_of_pos _ (by omega)
  have a3 : 0 ≤ ((p : Int) * 7 + 3) % len := Int.emod_nonneg _ (by omega)
  have a4 : ((p : Int) * 7 + 3) % len < len := Int.emod_lt_of_pos _ (by omega)
  have a5 : 0 ≤ (p : Int) / len := Int.ediv_nonneg (by omega) (by omega)
  have a6 : (p : Int) / len ≤ p := Int.ediv_le_self _ (by omega)
  have hfin : 0 ≤ (bits BinOp.xor IntKind.i64 ((v1 : Int) * 131 + v2 * 1117 + p * 29 + ((p : Int) / len) * 53) (((v1 : Int) * 131 + v2 * 1117 + p * 29 + ((p : Int) / len) * 53) / 64)).tmod n ∧
    (bits BinOp.xor IntKind.i64 ((v1 : Int) * 131 + v2 * 1117 + p * 29 + ((p : Int) / len) * 53) (((v1 : Int) * 131 + v2 * 1117 + p * 29 + ((p : Int) / len) * 53) / 64)).tmod n < n := by
    have := rd_x v1 v2 p (p / len) n hn h1 h2 hp (Nat.div_le_self _ _)
    rw [Int.natCast_ediv] at this
    exact this
  have HF := hid hfin
  clear hfin
  go_enter Try.func71, Try.ntmps71
  go_wp2
  go_quiet (fail)
  go_wp2
  go_ret
  exact pick_post hR _ HF.out.1 (.inr HF.out.2)

set_option maxHeartbeats 400000 in
theorem pick_byte (B r b off len cap p v1 : Nat) (n : Int) (w : World) (hp : p ≤ 1000000000)
    (hR : Rdr B w r p)
    (c0 : w.cell? ⟨r, 0, none⟩ = some (.slice (some ⟨b, off, none⟩) len cap))
    (c1 : w.cell? ⟨r, 1, none⟩ = some (.int .i64 p))
    (f1 : w.frozen? ⟨r, 1, none⟩ = false)
    (hbr : b ≠ r) (hl : len ≤ 2000)
    (hn : 1 ≤ n) (hge : p < len)
    (h1 : v1 < 256)
    (hc1 : w.cell? ⟨b, off + p, none⟩ = some (.int .u8 v1)) :
    Calls Try.prog 71 #[.pointer (some ⟨r, 0, none⟩), .int .i64 n] w (PickPost B r p n w) := by
  have hl0 : ((len : Int) == 0) = false := by simp; omega
  have hge' : (p : Int) < (len : Int) := by omega
  have hn' : ¬ n < 1 := by omega
  have hfin : 0 ≤ (v1 : Int) % n ∧ (v1 : Int) % n < n := ⟨Int.emod_nonneg _ (by omega), Int.emod_lt_of_pos _ (by omega)⟩
  have HF := hid hfin
  clear hfin
  go_enter Try.func71, Try.ntmps71
  go_wp2
  go_ret
  exact pick_post hR 0 HF.out.1 (.inr HF.out.2)

set_option maxHeartbeats 400000 in
theorem pick_none (B r len cap p : Nat) (a : Option Addr) (n : Int) (w : World) (hp : p ≤ 1000000000)
    (hR : Rdr B w r p)
    (c0 : w.cell? ⟨r, 0, none⟩ = some (.slice a len cap))
    (c1 : w.cell? ⟨r, 1, none⟩ = some (.int .i64 p))
    (f1 : w.frozen? ⟨r, 1, none⟩ = false)
    (hn : n < 1) :
    Calls Try.prog 71 #[.pointer (some ⟨r, 0, none⟩), .int .i64 n] w (PickPost B r p n w) := by
  go_enter Try.func71, Try.ntmps71
  go_wp2
  go_ret
  exact pick_post hR 0 (Int.le_refl 0) (.inl rfl)

set_option maxHeartbeats 400000 in
theorem pick_empty (B r cap p : Nat) (a : Option Addr) (n : Int) (w : World) (hp : p ≤ 1000000000)
    (hR : Rdr B w r p)
    (c0 : w.cell? ⟨r, 0, none⟩ = some (.slice a 0 cap))
    (c1 : w.cell? ⟨r, 1, none⟩ = some (.int .i64 p))
    (f1 : w.frozen? ⟨r, 1, none⟩ = false)
    (hn : 1 ≤ n) :
    Calls Try.prog 71 #[.pointer (some ⟨r, 0, none⟩), .int .i64 n] w (PickPost B r p n w) := by
  have hn' : ¬ n < 1 := by omega
  go_enter Try.func71, Try.ntmps71
  go_wp2
  go_ret
  exact pick_post hR 0 (Int.le_refl 0) (.inl rfl)

/-- pick, wherever it is called. -/
theorem pick_any (B r p : Nat) (n : Int) (w : World) (hp : p ≤ 1000000000) (hR : Rdr B w r p) :
    Calls Try.prog 71 #[.pointer (some ⟨r, 0, none⟩), .int .i64 n] w (PickPost B r p n w) := by
  obtain ⟨h0, a, len, cap, h1, h2, h3⟩ := id hR
  have c0 : w.cell? ⟨r, 0, none⟩ = some (.slice a len cap) := by simp [World.cell?, h1]
  have c1 : w.cell? ⟨r, 1, none⟩ = some (.int .i64 p) := by simp [World.cell?, h1]
  have f1 : w.frozen? ⟨r, 1, none⟩ = false := by simp [World.frozen?, h1]
  by_cases hn : n < 1
  · exact pick_none B r len cap p a n w hp hR c0 c1 f1 hn
  · rcases Nat.eq_zero_or_pos len with rfl | hl
    · exact pick_empty B r cap p a n w hp hR c0 c1 f1 (by omega)
    · obtain ⟨b, off, rfl, g2, g3⟩ := h3 hl
      by_cases hge : p < len
      · obtain ⟨v1, g4, g5⟩ := g3 p hge
        exact pick_byte B r b off len cap p v1 n w hp hR c0 c1 f1 (by omega) h2 (by omega) hge g4 g5
      · obtain ⟨v1, g4, g5⟩ := g3 (p % len) (Nat.mod_lt _ hl)
        obtain ⟨v2, g6, g7⟩ := g3 ((p * 7 + 3) % len) (Nat.mod_lt _ hl)
        exact pick_mix B r b off len cap p v1 v2 n w hp hR c0 c1 f1 (by omega) h2 (by omega) (by omega) (by omega) g4 g6 g5 g7

end Go.Proofs.Ytjgbconlpolddaa
