/- The reference's ShardValid and ShardAsk. -/
import Derived.Test.YtkcpecihgldflaaRecover
namespace Go.Proofs.Ytkcpecihgldflaa
open Go.RowKit
set_option linter.unusedVariables false

/-- A shard whose sizes are small. -/
def Small (rs : List Rc) : Prop := rs.length ≤ 1000000000 ∧ ∀ r ∈ rs, r.ups.length ≤ 1000000000

set_option maxRecDepth 20000 in
set_option maxHeartbeats 2000000 in
theorem specShardValid_any (K : Nat → Bool → Prop) (v : Value) (rs : List Rc) (w : World) (hv : RecsR K w v rs) (hs : Small rs) :
    Calls Try.prog 43 #[.agg #[v]] w fun e w' => e = .returned (.bool (valid rs)) ∧ Fr w.heap.size [] w w' := by
  obtain ⟨a, cap, rfl, hcap, -⟩ := hv.shape
  have HV := hid hv
  have HS := hid hs
  clear hv hs
  go_enter Try.func43, Try.ntmps43
  go_wp2_with (go_at_call 33; go_must (refine (l21Recover_any K _ rs _ (HV.out.grow ((Fr.refl 0 [] w).alloc _)) HS.out.1 HS.out.2).mono ?_; rintro e w1 ⟨v1, v2, s, rfl, r1, r2, l1, l2, hx, fr1⟩; obtain ⟨xa, xcap, rfl, _, _⟩ := r1.shape; obtain ⟨ya, ycap, rfl, _, _⟩ := r2.shape; clear r1 r2 hx))
  go_ret
  exact ⟨rfl, (((Fr.refl _ _ _).alloc _).trans fr1.nil).alloc _⟩

set_option maxRecDepth 20000 in
set_option maxHeartbeats 2000000 in
theorem specShardAsk_any (K : Nat → Bool → Prop) (v : Value) (rs : List Rc) (t : Int) (w : World) (hv : RecsR K w v rs) (hs : Small rs) :
    Calls Try.prog 12 #[.agg #[v], .int .i64 t] w fun e w' => e = .returned (.int .i64 (if valid rs && inR t 0 11 then ask rs t else -1)) ∧ Fr w.heap.size [] w w' := by
  obtain ⟨a, cap, rfl, hcap, -⟩ := hv.shape
  have HV := hid hv
  have HS := hid hs
  clear hv hs
  cases g1 : valid rs
  all_goals cases g2 : inR t 0 11
  all_goals
    go_enter Try.func12, Try.ntmps12
    go_wp2_with (first
      | (go_at_call 43; go_must (refine (specShardValid_any K _ rs _ (HV.out.grow ((Fr.refl 0 [] w).alloc _)) HS.out).mono ?_; rintro e w1 ⟨rfl, fr1⟩; have F1 := hid ((((Fr.refl w.heap.size [] w).alloc _).trans fr1.nil)); have b1 := fr1.keep _ _ (heap_alloc_new w (.cells #[.slice a rs.length cap] 25)) (.inr (by simp)); have c1 := cell_of (o := 0) b1 rfl))
      | (go_at_call 44; go_must (refine (l12Txn_any _ _).mono ?_; rintro e w' ⟨rfl, rfl⟩))
      | (go_at_call 45; go_must (refine (l21Ask_any K _ rs _ _ (HV.out.grow F1.out) HS.out.1).mono ?_; rintro e w' ⟨rfl, rfl⟩)))
    go_ret
    exact ⟨rfl, F1.out⟩

end Go.Proofs.Ytkcpecihgldflaa
