/- Draws: picks at hand; the opening of a code; bytes that came in. -/
import Derived.Test.YtjgbconlpolddaaPick
import Derived.Deep.DeepMust
import Derived.Deep.DeepCutAuto
namespace Go.Proofs.Ytjgbconlpolddaa
open Go.RowKit
set_option linter.unusedVariables false

theorem pick_at {B r p : Nat} {n : Int} {w : World} (hR : Rdr B w r p) (hp : p ≤ 1000000000) :
    Calls Try.prog 71 #[.pointer (some ⟨r, 0, none⟩), .int .i64 n] w (PickPost B r p n w) := pick_any B r p n w hp hR

theorem Rdr.alloc {B r p : Nat} {w : World} (h : Rdr B w r p) (o : Obj) : Rdr B (w.alloc o) r p := h.keep ((Fr.refl B [] w).alloc o) (by simp)

theorem cell3 {w : World} {b t : Nat} {x y z : Int} {f : Nat × Nat} (h : w.heap[b]? = some (.cells #[.int .i64 x, .int .i64 y, .int .i64 z] t f)) {k : Nat} (hk : k < 3) :
    ∃ n, w.cell? ⟨b, k, none⟩ = some (.int .i64 n) ∧ (n = x ∨ n = y ∨ n = z) := by
  match k, hk with
  | 0, _ => exact ⟨x, cell_of h rfl, .inl rfl⟩
  | 1, _ => exact ⟨y, cell_of h rfl, .inr (.inl rfl)⟩
  | 2, _ => exact ⟨z, cell_of h rfl, .inr (.inr rfl)⟩

/-- A slice of bytes that came in: its bytes lie below B. -/
def Bytes (B : Nat) (w : World) (a : Option Addr) (n cap : Nat) : Prop :=
  n ≤ cap ∧ (0 < n → ∃ b off, a = some ⟨b, off, none⟩ ∧ b < B ∧ ∀ i, i < n → ∃ c : Nat, c < 256 ∧ w.cell? ⟨b, off + i, none⟩ = some (.int .u8 (c : Int)))

set_option maxRecDepth 20000 in
set_option maxHeartbeats 1000000 in
theorem l6Open_any {w : World} {a : Option Addr} {n cap : Nat} (hb : Bytes w.heap.size w a n cap) (hm : cap ≤ maxLen) :
    Calls Try.prog 34 #[.slice a n cap] w fun e w' => e = .returned (.pointer (some ⟨w.heap.size, 0, none⟩)) ∧ Rdr w.heap.size w' w.heap.size 0 ∧ Fr w.heap.size [] w w' := by
  obtain ⟨hc, hbb⟩ := hb
  have HB := hid hbb
  unfold maxLen at hm
  clear hbb
  have key : ∀ m : Nat, m ≤ n → m ≤ 2000 → Rdr w.heap.size (w.alloc (.cells #[.slice a m cap, .int .i64 0] 102)) w.heap.size 0 := fun m hm1 hm2 =>
    ⟨Nat.le_refl _, a, m, cap, heap_alloc_new w _, hm2, fun hl => by
      obtain ⟨b, off, g1, g2, g3⟩ := HB.out (by omega)
      refine ⟨b, off, g1, g2, fun i hi => ?_⟩
      obtain ⟨c, hc, hcc⟩ := g3 i (by omega)
      exact ⟨c, hc, cell_alloc hcc⟩⟩
  have KEY := hid key
  clear key
  by_cases hn : 2000 < n
  · have hn' : (2000 : Int) < (n : Int) := by omega
    have hnc : (2000 : Int) ≤ (cap : Int) := by omega
    go_enter Try.func34, Try.ntmps34
    go_wp2
    go_ret
    exact ⟨rfl, KEY.out 2000 (by omega) (by omega), (Fr.refl _ _ _).alloc _⟩
  · have hn' : ¬ (2000 : Int) < (n : Int) := by omega
    go_enter Try.func34, Try.ntmps34
    go_wp2
    go_ret
    exact ⟨rfl, KEY.out n (by omega) (by omega), (Fr.refl _ _ _).alloc _⟩

theorem Bytes.up {B B' : Nat} {T : List Nat} {w w' : World} {a : Option Addr} {n cap : Nat} (h : Bytes B w a n cap) (hf : Fr B T w w') (hB : B ≤ B') : Bytes B' w' a n cap := by
  refine ⟨h.1, fun hn => ?_⟩
  obtain ⟨b, off, h1, h2, h3⟩ := h.2 hn
  exact ⟨b, off, h1, Nat.lt_of_lt_of_le h2 hB, fun i hi => by
    obtain ⟨c, hc, hcc⟩ := h3 i hi
    exact ⟨c, hc, hf.cell h2 hcc⟩⟩

/-- A slice of bytes that came in, as the walk wants it. -/
theorem bytes_in {w : World} {a : Option Addr} {len cap : Nat} (h : (a = none ∧ len = 0 ∧ cap = 0) ∨ ∃ (x : Addr) (zs : List Int), a = some x ∧ len ≤ cap ∧ cap ≤ maxLen ∧ zs.length = cap ∧ (∀ i, i < zs.length → w.cell? (x.add i) = some (.int .u8 (zs.getD i 0))) ∧ ∀ n ∈ zs, (Lit.int .u8 n).wf = true) :
    Bytes w.heap.size w a len cap ∧ cap ≤ maxLen := by
  rcases h with ⟨rfl, rfl, rfl⟩ | ⟨x, zs, rfl, hl, hm, hz, hc, hw⟩
  · exact ⟨⟨Nat.le_refl _, fun h => absurd h (Nat.lt_irrefl _)⟩, Nat.zero_le _⟩
  · refine ⟨⟨hl, fun hn => ?_⟩, hm⟩
    obtain ⟨b, off, spot⟩ := x
    have h0 := hc 0 (by omega)
    have hspot : spot = none := by simpa [Addr.add] using World.cell?_spot h0
    subst hspot
    have hadd : ∀ i, (⟨b, off, none⟩ : Addr).add i = ⟨b, off + i, none⟩ := fun i => by unfold Addr.add; split <;> simp_all
    rw [hadd] at h0
    refine ⟨b, off, rfl, World.block_lt_of_cell? _ _ h0, fun i hi => ?_⟩
    have hi' : i < zs.length := by omega
    have h1 := hc i hi'
    rw [hadd] at h1
    have h2 := hw zs[i] (List.getElem_mem hi')
    rw [List.getD_eq_getElem?_getD, List.getElem?_eq_getElem hi', Option.getD_some] at h1
    have h3 : 0 ≤ zs[i] ∧ zs[i] ≤ 255 := by
      have e1 : IntKind.u8.min = 0 := rfl
      have e2 : IntKind.u8.max = 255 := rfl
      simp [Lit.wf] at h2
      omega
    refine ⟨zs[i].toNat, by omega, ?_⟩
    rw [h1]
    congr 2
    omega

end Go.Proofs.Ytjgbconlpolddaa
