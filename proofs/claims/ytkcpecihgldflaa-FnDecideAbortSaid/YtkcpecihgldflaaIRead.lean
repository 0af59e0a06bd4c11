/- The program's Shard.read. -/
import Derived.Test.YtkcpecihgldflaaIAdd
import Derived.Test.YtkcpecihgldflaaHNew
namespace Go.Proofs.Ytkcpecihgldflaa
open Go.RowKit
set_option linter.unusedVariables false

theorem own_four {lo g : Nat} {w : World} {cs : List Value} (h : w.ownsRow lo 3 1 (.slice (some ⟨g, 0, none⟩) 4 4) 4 cs) : w.heap[g]? = some (.cells cs.toArray 3 (0, 0)) := by
  rcases h.2 with ⟨h1, _⟩ | ⟨g', cap, cur, h1, hg, hh, hn, hm, hs, ht⟩
  · cases h1
  · cases h1
    have : cur = cs.toArray := by
      rw [← ht]
      have hl : cur.toList.length = 4 := by simpa using hs
      rw [List.take_of_length_le (by omega)]
    rw [← this]; exact hh

theorem HistNew.hist {lo lo' : Nat} {w : World} {h l m : Nat} (hh : HistNew lo w h l m) (hl : lo' ≤ lo) (rs : List Rc) : Hist lo' w h l m 0 St.begin (fun t => lastTo rs t 0) := by
  obtain ⟨p1, p2, p3, p4, p5, p6⟩ := hh
  exact ⟨by omega, by omega, by omega, rfl, rfl, p4, own_four p6, _, MapF.empty p5, fun t => trivial⟩

theorem lastTo_upd {rs : List Rc} {k : Nat} (h : k < rs.length) : (fun t => lastTo rs t (k + 1)) = upd (fun t => lastTo rs t k) rs[k].txn rs[k] := by
  funext t
  rw [lastTo_succ h]
  unfold upd
  by_cases e : t = rs[k].txn
  · rw [if_pos e, if_pos e.symm]
  · rw [if_neg e, if_neg (fun h => e h.symm)]

/-- What 'read' gives. -/
def ReadP (w : World) (rs : List Rc) (e : Ending) (w' : World) : Prop :=
  ∃ h : Nat, e = .returned (.tuple #[.pointer (some ⟨h, 0, none⟩), .bool (valid rs)]) ∧ (∀ s, recover rs = some s → ∃ l m, Hist w.heap.size w' h l m rs.length s (fun t => lastTo rs t rs.length)) ∧ Fr w.heap.size [] w w'

set_option maxRecDepth 20000 in
set_option maxHeartbeats 1000000 in
theorem read_any (K : Nat → Bool → Prop) (v : Value) (rs : List Rc) (w : World) (hv : RecsR K w v rs) (hs : Small rs) (hnc : NC rs) :
    Calls Try.prog 37 #[.agg #[v]] w (ReadP w rs) := by
  obtain ⟨a, cap, rfl, hcap, hcell⟩ := (hv.weak (K' := old w.heap.size) (fun b t hb _ => hb)).shape
  have HC := hid hcell
  have HS := hid hs
  have HN := hid hnc
  have hsl := hs.1
  clear hv hcell hs hnc
  go_enter Try.func37, Try.ntmps37
  go_wp2_with (go_at_call 63; go_must (refine (newHistory_any _).mono ?_; rintro e w1 ⟨h, l, m, rfl, hn, fr1⟩; have B1 := hid (fr1.keep _ _ (heap_alloc_new w (.cells #[.slice a rs.length cap] 25)) (.inr (by simp))); have c0 := cell_of (o := 0) B1.out rfl; have H1 := hid (hn.hist (lo' := w.heap.size) (by simp) rs); have F1 := hid ((((Fr.refl w.heap.size histT w).alloc (.cells #[.slice a rs.length cap] 25)).trans fr1.nil)); clear hn fr1))
  go_loopw [11] (fun i wr => ∃ (k : Nat) (s : St), k ≤ rs.length ∧ i = .int .i64 k ∧ recTo rs k = some s ∧ Hist w.heap.size wr h l m k s (fun t => lastTo rs t k) ∧ wr.heap[w.heap.size]? = some (.cells #[.slice a rs.length cap] 25 (0, 0)) ∧ Fr w.heap.size histT w wr) (fun i _ => rs.length - (intOf i).toNat)
  case atStart => exact ⟨0, _, Nat.zero_le _, rfl, rfl, H1.out, B1.out, F1.out⟩
  case round =>
    clear c0
    obtain ⟨k, s, hk, rfl, hrec, hh, hb, hfr⟩ := hrel
    have HR := hid hrec
    have HH := hid hh
    have B := hid hb
    have c0 := cell_of (o := 0) hb rfl
    clear hrec hh hb
    by_cases hlt : k < rs.length
    · rcases HC.out with rfl | ⟨b, off, rfl, hbs, hcell⟩
      · simp at hlt
      · obtain ⟨u, h0, h1, h2, h3⟩ := hcell k hlt
        obtain ⟨ua, ucap, rfl, _, _⟩ := h3.shape
        have k0 := hfr.cell hbs h0
        have k1 := hfr.cell hbs h1
        have k2 := hfr.cell hbs h2
        have HU := hid (h3.keep hfr (Safe.old (Nat.le_refl _)))
        have HI := hid (istep_eq HR.out hk rs[k])
        have hul := HS.out.2 _ (List.getElem_mem hlt)
        have HLU := hid (lastTo_upd hlt)
        have HRS := hid (recTo_succ HR.out hlt)
        clear h0 h1 h2 h3 hcell
        have HB2 := hid (heap_up B.out (.cells #[.int .i64 rs[k].kind, .int .i64 rs[k].txn, .slice ua rs[k].ups.length ucap] 72))
        rcases hi : istepO (lastTo rs rs[k].txn k) s rs[k] with _ | s'
        · have hz := hid (show recover rs = none from recTo_none (by rw [HRS.out, ← HI.out, hi]) _ hlt)
          have HII := hid hi
          clear hi
          go_wp2_with (go_at_call 41; go_must (refine (add_any w.heap.size h l m k s (fun t => lastTo rs t k) _ rs[k] _ (HH.out.grow ((Fr.refl 0 [] wr).alloc _)) (by omega) hul (HU.out.grow ((Fr.refl 0 [] wr).alloc _)) (HN.out k hlt s HR.out)).mono ?_; rintro e w2 ⟨x, rfl, hx, hs2, fr2⟩; rw [HII.out] at hx; subst hx; clear hs2))
          go_ret2
          exact ⟨h, by rw [valid_none hz.out]; rfl, fun s hs => (by rw [hz.out] at hs; cases hs), Fr.fresh ((hfr.alloc _).trans fr2)⟩
        · have hz := hid (show recTo rs (k + 1) = some s' by rw [HRS.out, ← HI.out, hi])
          have HII := hid hi
          clear hi
          go_wp2_with (go_at_call 41; go_must (refine (add_any w.heap.size h l m k s (fun t => lastTo rs t k) _ rs[k] _ (HH.out.grow ((Fr.refl 0 [] wr).alloc _)) (by omega) hul (HU.out.grow ((Fr.refl 0 [] wr).alloc _)) (HN.out k hlt s HR.out)).mono ?_; rintro e w2 ⟨x, rfl, hx, hs2, fr2⟩; rw [HII.out] at hx; subst hx; have H2 := hid (hs2 s' HII.out); clear hs2))
          go_roundw
          case rel => exact ⟨k + 1, s', by omega, by go_num, hz.out, by rw [HLU.out]; exact H2.out, fr2.keep _ _ HB2.out (.inr (by simp [otag])), (hfr.alloc _).trans fr2⟩
          case measure => simp [intOf]; omega
    · obtain rfl : k = rs.length := by omega
      have HV := hid (valid_some (s := s) HR.out)
      have hdl : decide ((rs.length : Int) ≤ 30) = decide (rs.length ≤ 30) := decide_eq_decide.2 (by omega)
      have HD := hid hdl
      clear hdl
      go_wp2
      go_quiet (fail)
      go_wp2
      go_ret2
      exact ⟨h, by rw [HV.out, ← HD.out]; rfl, fun s' hs => (by rw [show recover rs = some s from HR.out] at hs; cases hs; exact ⟨l, m, HH.out.grow ((Fr.refl 0 [] wr).drewN _)⟩), Fr.fresh (hfr.drewN _)⟩

end Go.Proofs.Ytkcpecihgldflaa
