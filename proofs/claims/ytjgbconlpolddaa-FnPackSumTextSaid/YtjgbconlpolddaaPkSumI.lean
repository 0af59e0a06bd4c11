/- The program's PackSum. -/
import Derived.Test.YtjgbconlpolddaaPkSum
import Derived.Test.YtjgbconlpolddaaPkObjI
import Derived.Test.YtjgbconlpolddaaPkId
namespace Go.Proofs.Ytjgbconlpolddaa
open Go.RowKit
set_option linter.unusedVariables false

set_option maxRecDepth 20000 in
set_option maxHeartbeats 2000000 in
theorem implPackSum_any (K : Nat → Bool → Prop) (v : Value) (es : List En) (os : List Ob) (w : World) (hv : EnsR K w v es) (hm : Mild K w.heap.size) (hbl : ∀ e ∈ es, e.links.length ≤ 1000000000) (hu : unpack es = some os) :
    Calls Try.prog 16 #[v] w fun e w' => e = .returned (.int .i64 (sumTo os os.length)) ∧ Fr w.heap.size [] w w' := by
  obtain ⟨a, cap, rfl, hcap, -⟩ := hv.shape
  obtain ⟨hl, hol, hok⟩ := unpack_ok hu
  have HV := hid hv
  have HU := hid hu
  have HOK := hid hok
  have ST := hid (show (os.length : Int) = sumTo os 0 from rfl)
  have HBL := hid hbl
  clear hv hu hok hbl
  go_enter Try.func16, Try.ntmps16
  go_wp2_with (go_at_call 13; go_must (refine (implPackObjects_any K _ es _ HV.out hm HBL.out).mono ?_; rintro e w1 ⟨fr1, hres⟩; obtain ⟨v1, rfl, own1⟩ := unpacked_of HU.out hres; obtain ⟨la, lcap, rfl, -, hcell1⟩ := own1.reads.shape; have HC := hid hcell1; have F1 := hid fr1; clear fr1 hres own1 hcell1))
  go_loopw [5, 19] (fun vn vi wx => ∃ k : Nat, k ≤ os.length ∧ vi = .int .i64 k ∧ vn = .int .i64 (sumTo os k) ∧ Fr w1.heap.size [] w1 wx) (fun _ vi _ => os.length - (intOf vi).toNat)
  case atStart => exact ⟨0, Nat.zero_le _, rfl, by rw [← ST.out, hol], Fr.refl _ _ _⟩
  case round =>
    obtain ⟨k, hk, rfl, rfl, hfr⟩ := hrel
    have hsi := sumTo_in (os := os) (by omega) k
    by_cases hlt : k < os.length
    · rcases HC.out with hh | ⟨b, off, rfl, hbs, hcell⟩
      · rw [hh] at hlt; cases hlt
      · obtain ⟨u, h0, h1, h2, hu⟩ := hcell k hlt
        obtain ⟨ua, ucap, rfl, _, _⟩ := hu.shape
        have c0 := hfr.cell hbs h0
        have c1 := hfr.cell hbs h1
        have c2 := hfr.cell hbs h2
        have HL := hid (hu.grow (hfr.alloc (.cells #[.int .i64 os[k].kind, .slice ua os[k].links.length ucap, .string (tx os[k].text)] 40)))
        have hki : (k : Int) < (os.length : Int) := by omega
        have HS := hid (sumTo_succ hlt)
        have OK := hid (HOK.out _ (List.getElem_mem hlt))
        have hoi := oid_in OK.out
        have hmm : (sumTo os k * 613 + oid os[k] + 1).tmod 991 = (sumTo os k * 613 + oid os[k] + 1) % 991 := Int.tmod_eq_emod_of_nonneg (by omega)
        clear h0 h1 h2 hu hcell
        go_wp2_with (go_at_call 51; go_must (refine (id_any (new w.heap.size) _ os[k] _ HL.out OK.out).mono ?_; rintro e w2 ⟨rfl, fr2⟩; have F2 := hid ((hfr.alloc (.cells #[.int .i64 os[k].kind, .slice ua os[k].links.length ucap, .string (tx os[k].text)] 40)).trans fr2.nil); clear fr2))
        go_roundw
        case rel => exact ⟨k + 1, by omega, by go_num, by rw [HS.out], F2.out⟩
        case measure => simp [intOf]; omega
    · obtain rfl : k = os.length := by omega
      go_wp2
      go_ret
      exact ⟨rfl, F1.out.trans hfr.nil⟩

end Go.Proofs.Ytjgbconlpolddaa
