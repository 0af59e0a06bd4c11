/- The program's LocksOf, where the transaction holds no lock. -/
import Derived.Test.YtkcpecihgldflaaIOps
namespace Go.Proofs.Ytkcpecihgldflaa
open Go.RowKit
set_option linter.unusedVariables false

/-- A lock: of nobody, or of a transaction. -/
def LockOk (n : Int) : Prop := n = -1 ∨ inR n 0 11 = true

set_option maxRecDepth 20000 in
set_option maxHeartbeats 1000000 in
theorem lockBad_any (n : Int) (w : World) (h : LockOk n) :
    Calls Try.prog 75 #[.int .i64 n] w fun e w' => e = .returned (.bool false) ∧ w' = w := by
  by_cases h1 : n = -1
  · subst h1
    go_enter Try.func75, Try.ntmps75
    go_wp2
    go_ret
    exact ⟨rfl, rfl⟩
  · have h2 : inR n 0 11 = true := by rcases h with h | h; exact absurd h h1; exact h
    have H2 := hid h2
    clear h2 h
    have h3 : (n != -1) = true := by simp [bne, h1]
    have h4 : ((n == -1) : Bool) = false := by simp [h1]
    go_enter Try.func75, Try.ntmps75
    go_wp2_with (go_at_call 38; go_must (refine (isTxn_any _ _).mono ?_; rintro e w' ⟨rfl, rfl⟩; rw [H2.out]))
    go_ret
    exact ⟨rfl, rfl⟩

set_option maxRecDepth 20000 in
set_option maxHeartbeats 1000000 in
theorem indexFunc_locks (K : Nat → Bool → Prop) (v : Value) (l : List Int) (w : World) (hv : IntsR K w v l) (h4 : l.length = 4) (hok : ∀ (i : Nat) (x : Int), l[i]? = some x → LockOk x) (f : Value) (hf : f = .func (.func 75) #[] #[]) :
    Calls Try.prog 83 #[v, f] w fun e w' => e = .returned (.int .i64 (-1)) ∧ Fr w.heap.size [] w w' := by
  subst hf
  obtain ⟨a, cap, rfl, hcap, hcell⟩ := hv.shape
  match l, h4 with
  | [x0, x1, x2, x3], _ =>
    rcases hcell with hh | ⟨b, off, rfl, hbs, hcell⟩
    · cases hh
    · have c0 : w.cell? ⟨b, off, none⟩ = some (.int .i64 x0) := hcell 0 (by simp)
      have c1 : w.cell? ⟨b, off + 1, none⟩ = some (.int .i64 x1) := hcell 1 (by simp)
      have c2 : w.cell? ⟨b, off + 2, none⟩ = some (.int .i64 x2) := hcell 2 (by simp)
      have c3 : w.cell? ⟨b, off + 3, none⟩ = some (.int .i64 x3) := hcell 3 (by simp)
      have o0 := hok 0 x0 rfl
      have o1 := hok 1 x1 rfl
      have o2 := hok 2 x2 rfl
      have o3 := hok 3 x3 rfl
      clear hcell hok hv
      simp only [List.length_cons, List.length_nil] at hcap ⊢
      go_enter Try.func83, Try.ntmps83
      go_wp2
      refine wp_loop_rounds 5 ?_
      rw [rounds_succ]
      go_wp2_with (go_at_call 75; go_must (refine (lockBad_any _ _ o0).mono ?_; rintro e w1 ⟨rfl, rfl⟩))
      rw [rounds_succ]
      go_wp2_with (go_at_call 75; go_must (refine (lockBad_any _ _ o1).mono ?_; rintro e w1 ⟨rfl, rfl⟩))
      rw [rounds_succ]
      go_wp2_with (go_at_call 75; go_must (refine (lockBad_any _ _ o2).mono ?_; rintro e w1 ⟨rfl, rfl⟩))
      rw [rounds_succ]
      go_wp2_with (go_at_call 75; go_must (refine (lockBad_any _ _ o3).mono ?_; rintro e w1 ⟨rfl, rfl⟩))
      rw [rounds_succ]
      go_wp2
      go_ret
      exact ⟨rfl, Fr.refl _ _ _⟩

set_option maxRecDepth 20000 in
set_option maxHeartbeats 1000000 in
theorem containsFunc_locks (K : Nat → Bool → Prop) (v : Value) (l : List Int) (w : World) (hv : IntsR K w v l) (h4 : l.length = 4) (hok : ∀ (i : Nat) (x : Int), l[i]? = some x → LockOk x) (f : Value) (hf : f = .func (.func 75) #[] #[]) :
    Calls Try.prog 74 #[v, f] w fun e w' => e = .returned (.bool false) ∧ Fr w.heap.size [] w w' := by
  subst hf
  have HV := hid hv
  have HO := hid hok
  clear hv hok
  go_enter Try.func74, Try.ntmps74
  go_wp2_with (go_at_call 83; go_must (refine (indexFunc_locks K _ l _ HV.out h4 HO.out _ rfl).mono ?_; rintro e w1 ⟨rfl, fr1⟩))
  go_ret
  exact ⟨rfl, fr1⟩

set_option maxRecDepth 20000 in
set_option maxHeartbeats 1000000 in
theorem locksValid_any (K : Nat → Bool → Prop) (v : Value) (l : List Int) (w : World) (hv : IntsR K w v l) (h4 : l.length = 4) (hok : ∀ (i : Nat) (x : Int), l[i]? = some x → LockOk x) :
    Calls Try.prog 59 #[v] w fun e w' => e = .returned (.bool true) ∧ Fr w.heap.size [] w w' := by
  have HV := hid hv
  have HO := hid hok
  obtain ⟨a, cap, rfl, hcap, -⟩ := hv.shape
  rw [h4] at hcap HV ⊢
  clear hv hok
  go_enter Try.func59, Try.ntmps59
  go_wp2_with (go_at_call 74; go_must (refine (containsFunc_locks K _ l _ HV.out h4 HO.out _ rfl).mono ?_; rintro e w1 ⟨rfl, fr1⟩))
  go_ret
  exact ⟨rfl, fr1⟩

set_option maxRecDepth 20000 in
set_option maxHeartbeats 1000000 in
theorem locksOf_none (K : Nat → Bool → Prop) (v : Value) (l : List Int) (t : Int) (w : World) (hv : IntsR K w v l) (h4 : l.length = 4) (ht : inR t 0 11 = true) (hok : ∀ (i : Nat) (x : Int), l[i]? = some x → LockOk x ∧ x ≠ t) :
    Calls Try.prog 30 #[v, .int .i64 t] w fun e w' => e = .returned (.slice none 0 0) ∧ Fr w.heap.size [] w w' := by
  have HV := hid hv
  have HT := hid ht
  have HO := hid (fun i x hx => (hok i x hx).1)
  obtain ⟨a, cap, rfl, hcap, hcell⟩ := hv.shape
  match l, h4 with
  | [x0, x1, x2, x3], h4 =>
    rcases hcell with hh | ⟨b, off, rfl, hbs, hcell⟩
    · cases hh
    · have c0 : w.cell? ⟨b, off, none⟩ = some (.int .i64 x0) := hcell 0 (by simp)
      have c1 : w.cell? ⟨b, off + 1, none⟩ = some (.int .i64 x1) := hcell 1 (by simp)
      have c2 : w.cell? ⟨b, off + 2, none⟩ = some (.int .i64 x2) := hcell 2 (by simp)
      have c3 : w.cell? ⟨b, off + 3, none⟩ = some (.int .i64 x3) := hcell 3 (by simp)
      have o0 : (x0 == t) = false := by simpa using (hok 0 x0 rfl).2
      have o1 : (x1 == t) = false := by simpa using (hok 1 x1 rfl).2
      have o2 : (x2 == t) = false := by simpa using (hok 2 x2 rfl).2
      have o3 : (x3 == t) = false := by simpa using (hok 3 x3 rfl).2
      clear hcell hok hv ht
      have h5 : [x0, x1, x2, x3].length = 4 := rfl
      rw [h5] at hcap HV ⊢
      go_enter Try.func30, Try.ntmps30
      go_wp2_with (first
        | (go_at_call 59; go_must (refine (locksValid_any K _ _ _ HV.out h4 HO.out).mono ?_; rintro e w1 ⟨rfl, fr1⟩; have d0 := fr1.cell hbs c0; have d1 := fr1.cell hbs c1; have d2 := fr1.cell hbs c2; have d3 := fr1.cell hbs c3; clear c0 c1 c2 c3))
        | (go_at_call 38; go_must (refine (isTxn_any _ _).mono ?_; rintro e w' ⟨rfl, rfl⟩; rw [HT.out])))
      refine wp_loop_rounds 5 ?_
      rw [rounds_succ]
      go_wp2
      rw [rounds_succ]
      go_wp2
      rw [rounds_succ]
      go_wp2
      rw [rounds_succ]
      go_wp2
      rw [rounds_succ]
      go_wp2
      go_ret
      exact ⟨rfl, fr1⟩

end Go.Proofs.Ytkcpecihgldflaa
