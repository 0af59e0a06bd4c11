/- The opening of a code, and the draw of a shard. -/
import Derived.Test.YtkcpecihgldflaaDraw2
namespace Go.Proofs.Ytkcpecihgldflaa
open Go.RowKit
set_option linter.unusedVariables false

/-- A slice of bytes that came in: its bytes lie below B. -/
def Bytes (B : Nat) (w : World) (a : Option Addr) (n cap : Nat) : Prop :=
  n ≤ cap ∧ (0 < n → ∃ b off, a = some ⟨b, off, none⟩ ∧ b < B ∧ ∀ i, i < n → ∃ c : Nat, c < 256 ∧ w.cell? ⟨b, off + i, none⟩ = some (.int .u8 (c : Int)))

set_option maxRecDepth 20000 in
set_option maxHeartbeats 1000000 in
theorem l6Open_any {w : World} {a : Option Addr} {n cap : Nat} (hb : Bytes w.heap.size w a n cap) (hm : cap ≤ maxLen) :
    Calls Try.prog 31 #[.slice a n cap] w fun e w' => e = .returned (.pointer (some ⟨w.heap.size, 0, none⟩)) ∧ Rdr w.heap.size w' w.heap.size 0 ∧ Fr w.heap.size [] w w' := by
  obtain ⟨hc, hbb⟩ := hb
  have HB := hid hbb
  unfold maxLen at hm
  clear hbb
  have key : ∀ m : Nat, m ≤ n → m ≤ 2000 → Rdr w.heap.size (w.alloc (.cells #[.slice a m cap, .int .i64 0] 95)) w.heap.size 0 := fun m hm1 hm2 =>
    ⟨Nat.le_refl _, a, m, cap, heap_alloc_new w _, hm2, fun hl => by
      obtain ⟨b, off, g1, g2, g3⟩ := HB.out (by omega)
      refine ⟨b, off, g1, g2, fun i hi => ?_⟩
      obtain ⟨c, hc, hcc⟩ := g3 i (by omega)
      exact ⟨c, hc, cell_alloc hcc⟩⟩
  have KEY := hid key
  clear key
  by_cases hn : 2000 < n
  · have hn' : (2000 : Int) < (n : Int) := by omega
    have hnc : (2000 : Int) ≤ (cap : Int) := by omega
    go_enter Try.func31, Try.ntmps31
    go_wp2
    go_ret
    exact ⟨rfl, KEY.out 2000 (by omega) (by omega), (Fr.refl _ _ _).alloc _⟩
  · have hn' : ¬ (2000 : Int) < (n : Int) := by omega
    go_enter Try.func31, Try.ntmps31
    go_wp2
    go_ret
    exact ⟨rfl, KEY.out n (by omega) (by omega), (Fr.refl _ _ _).alloc _⟩

end Go.Proofs.Ytkcpecihgldflaa
