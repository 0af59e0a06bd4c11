/- The walk of FnFetchStore. -/
import Derived.Test.YtjgbconlpolddaaQM7
import Derived.Test.YtjgbconlpolddaaQPkObjI
set_option linter.unusedVariables false
set_option linter.unusedSimpArgs false
namespace Go.Proofs.Ytjgbconlpolddaa
open Go.RowKit
set_option linter.unusedVariables false

theorem unpacked_at {lo : Nat} {w' : World} {es : List En} {os : List Ob} {e : Ending} (hu : unpack es = some os) (h : (unpack es = none ∧ e = .returned (.tuple #[.slice none 0 0, .bool false])) ∨ ∃ os v', unpack es = some os ∧ e = .returned (.tuple #[v', .bool true]) ∧ ObsOwn lo w' v' os) : ∃ v', e = .returned (.tuple #[v', .bool true]) ∧ ObsOwn lo w' v' os := by
  rcases h with ⟨h, _⟩ | ⟨os', v', h1, h2, h3⟩
  · rw [hu] at h; cases h
  · rw [hu] at h1; cases h1
    exact ⟨v', h2, h3⟩

theorem storeGet_mem (K : Nat → Bool → Prop) (v : Value) (os : List Ob) (o : Ob) (w : World) (hv : ObsR K w v os) (hok : stOk os = true) (ho : o ∈ os) :
    Calls Try.prog 20 #[v, .int .i64 (oid o)] w fun e w' => ∃ v', e = .returned (.tuple #[.agg #[.int .i64 o.kind, v', .string (tx o.text)], .bool true]) ∧ IntsR (new w.heap.size) w' v' o.links ∧ Fr w.heap.size [] w w' := by
  obtain ⟨k, hk, rfl⟩ := List.mem_iff_getElem.1 ho
  exact storeGet_found K v os w hv hok k hk _ rfl (findK_self hok hk).1 (findK_self hok hk).2

set_option maxRecDepth 20000 in
set_option maxHeartbeats 4000000 in
theorem fetchStore_walk {w : World} {a : Option Addr} {n cap : Nat} (hb : Bytes w.heap.size w a n cap) (hm : cap ≤ maxLen) :
    Calls Try.prog 7 #[.slice a n cap] w fun e w' => e = .returned (.bool true) ∧ Fr w.heap.size [] w w' := by
  have hnc := hb.1
  have HB := hid hb
  clear hb
  go_enter Try.func7, Try.ntmps7
  by_cases hn1 : n ≤ 1048576
  · have in1 : ¬ (1048576 : Int) < (n : Int) := by omega
    go_upto_region 4 with (go_at_call 17; go_must (refine (drawFetchStore_any HB.out hm).mono ?_; rintro e w1 ⟨v, vp, os, es, rfl, own1, hl, hok, ens1, hfew, fr1⟩; have O1 := hid own1; have E1 := hid ens1.reads; have F1 := hid fr1; have OK := hid hok; have EF := hid hfew; obtain ⟨va, vcap, rfl, _, _⟩ := own1.reads.shape; clear own1 ens1 fr1 hok hfew))
    have OB := hid (obs_b hl OK.out)
    have OB1 := hid OB.out.1
    have OB2 := hid OB.out.2
    have EL := hid (show ∀ e ∈ es, e.links.length ≤ 1000000000 from fun e he => by have := (EF.out.2 e he).1; omega)
    have hel : es.length ≤ 1000000 := by have := EF.out.1; omega
    obtain ⟨R, hR⟩ : ∃ R, fetch os es = R := ⟨_, rfl⟩
    have HR := hid hR
    clear hR EF
    cases R with
    | none =>
      go_wp2_with (first
        | (go_at_call 18; go_must (refine (implFetch_any _ _ _ _ os es _ O1.out.reads E1.out (Mild.new _ _) OB2.out OB1.out EL.out).mono ?_; rintro e w2 ⟨v2, rfl, own2, fr2⟩; rw [HR.out] at own2 ⊢; have R2 := hid own2.reads; have F2 := hid (F1.out.trans fr2.nil); have O2 := hid (O1.out.grow fr2); have E2 := hid (E1.out.grow fr2); clear own2 fr2))
        | (go_at_call 19; go_must (refine (specFetch_any _ _ _ _ os es _ O2.out.reads E2.out OB2.out OB1.out hel EL.out).mono ?_; rintro e w3 ⟨v3, rfl, own3, fr3⟩; rw [HR.out] at own3 ⊢; have R3 := hid own3.reads; have R2 := hid (R2.out.grow fr3); have F3 := hid (F2.out.trans fr3.nil); clear own3 fr3))
        | (go_at_call 15; go_must (refine (sameObjects_eq _ _ _ _ [] _ R2.out R3.out ⟨Nat.zero_le _, fun o ho => (by cases ho)⟩).mono ?_; rintro e w4 ⟨rfl, fr4⟩; have F3 := hid (F3.out.trans fr4.nil); have R2 := hid (R2.out.grow fr4); have R3 := hid (R3.out.grow fr4); clear fr4)))
      go_ret
      exact ⟨rfl, F3.out⟩
    | some xs =>
      obtain ⟨list, hun, hso, hpa⟩ := fetch_some HR.out
      have XOK := hid (fetch_ok HR.out)
      have XB := hid (stOk_b XOK.out)
      have US := hid hun
      have LOK := hid (unpack_ok hun).2.2
      have hll : list.length ≤ 1000000 := by have := (unpack_ok hun).2.1; have := (unpack_ok hun).1; omega
      have ML := hid (show ∀ p ∈ list, p ∈ xs from fun p hp => (putTo_ok hso LOK.out (Nat.le_refl _) hpa).2.2 p (by rw [List.take_length]; exact hp))
      have MO := hid (show ∀ p ∈ os, p ∈ xs from (putTo_ok hso LOK.out (Nat.le_refl _) hpa).2.1)
      clear hun hso hpa
      go_upto_region 9 with (first
        | (go_at_call 18; go_must (refine (implFetch_any _ _ _ _ os es _ O1.out.reads E1.out (Mild.new _ _) OB2.out OB1.out EL.out).mono ?_; rintro e w2 ⟨v2, rfl, own2, fr2⟩; rw [HR.out] at own2 ⊢; have own2 : ObsOwn _ _ _ xs := own2; have R2 := hid own2; have F2 := hid (F1.out.trans fr2.nil); have O2 := hid (O1.out.grow fr2); have E2 := hid (E1.out.grow fr2); clear own2 fr2))
        | (go_at_call 19; go_must (refine (specFetch_any _ _ _ _ os es _ O2.out.reads E2.out OB2.out OB1.out hel EL.out).mono ?_; rintro e w3 ⟨v3, rfl, own3, fr3⟩; rw [HR.out] at own3 ⊢; have own3 : ObsOwn _ _ _ xs := own3; have R3 := hid own3; have R2 := hid (R2.out.grow fr3); have F3 := hid (F2.out.trans fr3.nil); have O3 := hid (O2.out.grow fr3); have E3 := hid (E2.out.grow fr3); clear own3 fr3))
        | (go_at_call 15; go_must (refine (sameObjects_eq _ _ _ _ xs _ R2.out.reads R3.out.reads XB.out).mono ?_; rintro e w4 ⟨rfl, fr4⟩; have F4 := hid (F3.out.trans fr4.nil); have O4 := hid (O3.out.grow fr4); have R4 := hid (R2.out.grow fr4); have E4 := hid (E3.out.grow fr4); clear fr4))
        | (go_at_call 13; go_must (refine (implPackObjects_any _ _ es _ E4.out (Mild.new _ _) EL.out).mono ?_; rintro e w5 ⟨fr5, hres⟩; obtain ⟨v5, rfl, own5⟩ := unpacked_at US.out hres; have L5 := hid own5; have R5 := hid (R4.out.grow fr5); have O5 := hid (O4.out.grow fr5); have F5 := hid (F4.out.trans fr5.nil); obtain ⟨la, lcap, rfl, _, _⟩ := own5.reads.shape; clear fr5 hres own5)))
      clear O1 O2 O3 O4 R2 R3 R4 F1 F2 F3 F4 E1 E2 E3 E4 US HR EL OB OB1 OB2
      obtain ⟨W5, rfl⟩ : ∃ W : World, W = w5 := ⟨_, rfl⟩
      go_wp2
      go_loopw [11] (fun vi wx => ∃ k : Nat, k ≤ list.length ∧ vi = .int .i64 k ∧ Fr W5.heap.size [] W5 wx) (fun vi _ => list.length - (intOf vi).toNat)
      case atStart => exact ⟨0, Nat.zero_le _, rfl, Fr.refl _ _ _⟩
      case round =>
        obtain ⟨k, hk, rfl, hfr⟩ := hrel
        have FR := hid hfr
        clear hfr
        by_cases hlt : k < list.length
        · obtain ⟨b, off, rfl⟩ : ∃ b off, la = some ⟨b, off, none⟩ := by
            obtain ⟨_, _, he, _, hh⟩ := L5.out.reads.shape
            cases he
            rcases hh with hh | ⟨b, off, hh, _⟩
            · rw [hh] at hlt; cases hlt
            · exact ⟨b, off, hh⟩
          obtain ⟨ua, ucap, h0, h1, h2, hu⟩ := (L5.out.grow FR.out).atS k hlt
          have IN := hid (ML.out _ (List.getElem_mem hlt))
          have OKK := hid (LOK.out _ (List.getElem_mem hlt))
          have hlen := (obOk_len OKK.out).1
          have HU := hid hu
          have hki : (k : Int) < (list.length : Int) := by omega
          clear hu
          generalize list[k] = o at *
          go_upto_region 13 with (first
            | (go_at_call 21; go_must (refine (objectId_any _ _ o _ HU.out OKK.out).mono ?_; rintro e w6 ⟨rfl, fr6⟩; have F6 := hid (FR.out.trans fr6.nil); have U6 := hid (HU.out.grow fr6); have R6 := hid (R5.out.grow F6.out); have A6 := hid (fr6.nil (B' := wr.heap.size) (T := [])); clear fr6))
            | (go_at_call 20; go_must (refine (storeGet_mem _ _ xs o _ R6.out.reads XOK.out IN.out).mono ?_; rintro e w7 ⟨v7, rfl, hv7, fr7⟩; obtain ⟨xa, xcap, rfl, _, _⟩ := hv7.shape; have V7 := hid hv7; have U7 := hid (U6.out.grow fr7); have F7 := hid (F6.out.trans fr7.nil); have A7 := hid (A6.out.trans fr7.nil); clear fr7 hv7)))
          have hbr : b < wr.heap.size := World.block_lt_of_cell? _ _ h0
          have hbr7 : b < w7.heap.size := Nat.lt_of_lt_of_le hbr A7.out.size
          have c0 := cell_alloc (o := .cells #[.int .i64 o.kind, .slice xa o.links.length xcap, .string (tx o.text)] 40) (A7.out.cell hbr h0)
          have c1 := cell_alloc (o := .cells #[.int .i64 o.kind, .slice xa o.links.length xcap, .string (tx o.text)] 40) (A7.out.cell hbr h1)
          have c2 := cell_alloc (o := .cells #[.int .i64 o.kind, .slice xa o.links.length xcap, .string (tx o.text)] 40) (A7.out.cell hbr h2)
          have XB8 := heap_alloc_new w7 (.cells #[.int .i64 o.kind, .slice xa o.links.length xcap, .string (tx o.text)] 40)
          have x0 := cell_of (o := 0) XB8 rfl
          have x1 := cell_of (o := 1) XB8 rfl
          have x2 := cell_of (o := 2) XB8 rfl
          have F8 := hid (F7.out.alloc (.cells #[.int .i64 o.kind, .slice xa o.links.length xcap, .string (tx o.text)] 40))
          have V8 := hid (V7.out.grow ((Fr.refl 0 [] w7).alloc (.cells #[.int .i64 o.kind, .slice xa o.links.length xcap, .string (tx o.text)] 40)))
          have U8 := hid (U7.out.grow ((Fr.refl 0 [] w7).alloc (.cells #[.int .i64 o.kind, .slice xa o.links.length xcap, .string (tx o.text)] 40)))
          clear XB8 h0 h1 h2
          obtain ⟨W8, hW8⟩ : ∃ W : World, w7.alloc (.cells #[.int .i64 o.kind, .slice xa o.links.length xcap, .string (tx o.text)] 40) = W := ⟨_, rfl⟩
          have hz8 : w7.heap.size < W8.heap.size := by rw [← hW8]; simp
          have hb8 : b < W8.heap.size := Nat.lt_trans hbr7 hz8
          rw [hW8] at c0 c1 c2 x0 x1 x2 F8 V8 U8 ⊢
          clear hW8
          have fr1 : Fr W8.heap.size [] W8 W8.drew := (Fr.refl W8.heap.size [] W8).drew
          refine wp_region_held_drew (S := (fun x => x.cell? ⟨b, off + k * 3, none⟩ = some (.int .i64 o.kind) ∧ x.cell? ⟨b, off + k * 3 + 1, none⟩ = some (.slice ua o.links.length ucap) ∧ x.cell? ⟨b, off + k * 3 + 2, none⟩ = some (.string (tx o.text)) ∧ x.cell? ⟨w7.heap.size, 0, none⟩ = some (.int .i64 o.kind) ∧ x.cell? ⟨w7.heap.size, 1, none⟩ = some (.slice xa o.links.length xcap) ∧ x.cell? ⟨w7.heap.size, 2, none⟩ = some (.string (tx o.text)))) (by kernel_rfl) ?_ (fun hHeld => ?_)
          · exact ⟨c0, c1, c2, x0, x1, x2⟩
          refine wpAnyH_take (i := 0) (v := ?_) rfl (by kernel_rfl) (by kernel_rfl) (by kernel_rfl) (fun _ _ _ h => h) (Or.inl ⟨by rfl, ?_⟩) (by assumption) ?_
          rotate_left
          · intro w hSw; (try dsimp only at hSw); go_simp; try with_reducible rfl
          (try simp only [Act.put, List.getElem_toArray, List.getElem_cons_succ, List.getElem_cons_zero, List.getElem?_toArray, List.getElem?_cons_succ, List.getElem?_cons_zero, List.setIfInBounds_toArray, List.set_cons_zero, List.set_cons_succ])
          refine wpAnyH_take (i := 1) (v := ?_) rfl (by kernel_rfl) (by kernel_rfl) (by kernel_rfl) (fun _ _ _ h => h) (Or.inl ⟨by rfl, ?_⟩) (by assumption) ?_
          rotate_left
          · intro w hSw; (try dsimp only at hSw); go_simp; try with_reducible rfl
          (try simp only [Act.put, List.getElem_toArray, List.getElem_cons_succ, List.getElem_cons_zero, List.getElem?_toArray, List.getElem?_cons_succ, List.getElem?_cons_zero, List.setIfInBounds_toArray, List.set_cons_zero, List.set_cons_succ])
          refine wpAnyH_take (i := 2) (v := ?_) rfl (by kernel_rfl) (by kernel_rfl) (by kernel_rfl) (fun _ _ _ h => h) (Or.inl ⟨by rfl, ?_⟩) (by assumption) ?_
          rotate_left
          · intro w hSw; (try dsimp only at hSw); go_simp; try with_reducible rfl
          (try simp only [Act.put, List.getElem_toArray, List.getElem_cons_succ, List.getElem_cons_zero, List.getElem?_toArray, List.getElem?_cons_succ, List.getElem?_cons_zero, List.setIfInBounds_toArray, List.set_cons_zero, List.set_cons_succ])
          refine wpAnyH_take (i := 3) (v := ?_) rfl (by kernel_rfl) (by kernel_rfl) (by kernel_rfl) (fun _ _ _ h => h) (Or.inl ⟨by rfl, ?_⟩) (by assumption) ?_
          rotate_left
          · intro w hSw; (try dsimp only at hSw); go_simp; try with_reducible rfl
          (try simp only [Act.put, List.getElem_toArray, List.getElem_cons_succ, List.getElem_cons_zero, List.getElem?_toArray, List.getElem?_cons_succ, List.getElem?_cons_zero, List.setIfInBounds_toArray, List.set_cons_zero, List.set_cons_succ])
          refine wpAnyH_take (i := 4) (v := ?_) rfl (by kernel_rfl) (by kernel_rfl) (by kernel_rfl) (fun _ _ _ h => h) (Or.inl ⟨by rfl, ?_⟩) (by assumption) ?_
          rotate_left
          · intro w hSw; (try dsimp only at hSw); go_simp; try with_reducible rfl
          (try simp only [Act.put, List.getElem_toArray, List.getElem_cons_succ, List.getElem_cons_zero, List.getElem?_toArray, List.getElem?_cons_succ, List.getElem?_cons_zero, List.setIfInBounds_toArray, List.set_cons_zero, List.set_cons_succ])
          refine wpAnyH_take (i := 5) (v := ?_) rfl (by kernel_rfl) (by kernel_rfl) (by kernel_rfl) (fun _ _ _ h => h) (Or.inl ⟨by rfl, ?_⟩) (by assumption) ?_
          rotate_left
          · intro w hSw; (try dsimp only at hSw); go_simp; try with_reducible rfl
          (try simp only [Act.put, List.getElem_toArray, List.getElem_cons_succ, List.getElem_cons_zero, List.getElem?_toArray, List.getElem?_cons_succ, List.getElem?_cons_zero, List.setIfInBounds_toArray, List.set_cons_zero, List.set_cons_succ])
          refine wpAnyH_take (i := 6) (v := ?_) rfl (by kernel_rfl) (by kernel_rfl) (by kernel_rfl) (fun _ _ _ h => h) (Or.inl ⟨by rfl, ?_⟩) (by assumption) ?_
          rotate_left
          · intro w hSw; (try dsimp only at hSw); go_simp; try with_reducible rfl
          (try simp only [Act.put, List.getElem_toArray, List.getElem_cons_succ, List.getElem_cons_zero, List.getElem?_toArray, List.getElem?_cons_succ, List.getElem?_cons_zero, List.setIfInBounds_toArray, List.set_cons_zero, List.set_cons_succ])
          refine wpAnyH_take (i := 7) (v := ?_) rfl (by kernel_rfl) (by kernel_rfl) (by kernel_rfl) (fun _ _ _ h => h) (Or.inl ⟨by rfl, ?_⟩) (by assumption) ?_
          rotate_left
          · intro w hSw; (try dsimp only at hSw); go_simp; try with_reducible rfl
          (try simp only [Act.put, List.getElem_toArray, List.getElem_cons_succ, List.getElem_cons_zero, List.getElem?_toArray, List.getElem?_cons_succ, List.getElem?_cons_zero, List.setIfInBounds_toArray, List.set_cons_zero, List.set_cons_succ])
          refine wpAnyH_ready (rs := [8]) (by kernel_rfl) (by simp) ?_
          refine AllReadyH.cons rfl (fun K hK => ?_) AllReadyH.nil
          go_simp
          (go_at_call 22; go_must (refine (sameObject_eq _ _ _ _ o _ (V8.out.grow fr1) (U8.out.grow fr1) (by omega)).mono ?_; rintro e w9 ⟨rfl, fr⟩; have fr1 : Fr W8.heap.size [] W8 w9 := fr1.trans fr.nil))
          refine hK.out _ _ ?_ (fun hHeld => ?_)
          · exact ⟨fr1.cell hb8 c0, fr1.cell hb8 c1, fr1.cell hb8 c2, fr1.cell hz8 x0, fr1.cell hz8 x1, fr1.cell hz8 x2⟩
          clear hK K
          (try simp only [Act.put, List.getElem_toArray, List.getElem_cons_succ, List.getElem_cons_zero, List.getElem?_toArray, List.getElem?_cons_succ, List.getElem?_cons_zero, List.setIfInBounds_toArray, List.set_cons_zero, List.set_cons_succ])
          refine wpAnyH_take (i := 9) (v := ?_) rfl (by kernel_rfl) (by kernel_rfl) (by kernel_rfl) (fun _ _ _ h => h) (Or.inl ⟨by rfl, ?_⟩) (by assumption) ?_
          rotate_left
          · intro w hSw; (try dsimp only at hSw); go_simp; try with_reducible rfl
          (try simp only [Act.put, List.getElem_toArray, List.getElem_cons_succ, List.getElem_cons_zero, List.getElem?_toArray, List.getElem?_cons_succ, List.getElem?_cons_zero, List.setIfInBounds_toArray, List.set_cons_zero, List.set_cons_succ])
          refine wpAnyH_take (i := 10) (v := ?_) rfl (by kernel_rfl) (by kernel_rfl) (by kernel_rfl) (fun _ _ _ h => h) (Or.inl ⟨by rfl, ?_⟩) (by assumption) ?_
          rotate_left
          · intro w hSw; (try dsimp only at hSw); go_simp; try with_reducible rfl
          (try simp only [Act.put, List.getElem_toArray, List.getElem_cons_succ, List.getElem_cons_zero, List.getElem?_toArray, List.getElem?_cons_succ, List.getElem?_cons_zero, List.setIfInBounds_toArray, List.set_cons_zero, List.set_cons_succ])
          refine wpAnyH_done (by kernel_rfl) ?_ _
          go_wp2
          go_roundw
          case rel => exact ⟨k + 1, by omega, by go_num, F8.out.trans fr1.nil⟩
          case measure => simp [intOf]; omega
        · obtain rfl : k = list.length := by omega
          have F6 := hid (F5.out.trans FR.out.nil)
          have O6 := hid (O5.out.grow FR.out)
          have R6 := hid (R5.out.grow FR.out)
          clear O5 R5 F5 FR L5
          obtain ⟨W6, rfl⟩ : ∃ W : World, W = wr := ⟨_, rfl⟩
          go_wp2
          go_loopw [14] (fun vi wx => ∃ k : Nat, k ≤ os.length ∧ vi = .int .i64 k ∧ Fr W6.heap.size [] W6 wx) (fun vi _ => os.length - (intOf vi).toNat)
          case atStart => exact ⟨0, Nat.zero_le _, rfl, Fr.refl _ _ _⟩
          case round =>
            obtain ⟨k, hk, rfl, hfr⟩ := hrel
            have FR := hid hfr
            clear hfr
            by_cases hlt : k < os.length
            · obtain ⟨b, off, rfl⟩ : ∃ b off, va = some ⟨b, off, none⟩ := by
                obtain ⟨_, _, he, _, hh⟩ := O6.out.reads.shape
                cases he
                rcases hh with hh | ⟨b, off, hh, _⟩
                · rw [hh] at hlt; cases hlt
                · exact ⟨b, off, hh⟩
              obtain ⟨ua, ucap, h0, h1, h2, hu⟩ := (O6.out.grow FR.out).atS k hlt
              have IN := hid (MO.out _ (List.getElem_mem hlt))
              have OKK := hid (OK.out _ (List.getElem_mem hlt))
              have HU := hid hu
              have hki : (k : Int) < (os.length : Int) := by omega
              clear hu
              generalize os[k] = o at *
              go_wp2_with (first
                | (go_at_call 21; go_must (refine (objectId_any _ _ o _ HU.out OKK.out).mono ?_; rintro e w8 ⟨rfl, fr8⟩; have F8 := hid (FR.out.trans fr8.nil); have R8 := hid (R6.out.grow F8.out); clear fr8))
                | (go_at_call 20; go_must (refine (storeGet_mem _ _ xs o _ R8.out.reads XOK.out IN.out).mono ?_; rintro e w9 ⟨v9, rfl, hv9, fr9⟩; obtain ⟨xa, xcap, rfl, _, _⟩ := hv9.shape; have F9 := hid (F8.out.trans fr9.nil); clear fr9 hv9)))
              go_roundw
              case rel => exact ⟨k + 1, by omega, by go_num, F9.out.alloc _⟩
              case measure => simp [intOf]; omega
            · obtain rfl : k = os.length := by omega
              have XB1 := hid XB.out.1
              have XB2 := hid XB.out.2
              go_wp2_with (go_at_call 23; go_must (refine (implStoreValid_any _ _ xs _ (R6.out.reads.grow FR.out) XB2.out XB1.out).mono ?_; rintro e w8 ⟨rfl, fr8⟩; rw [XOK.out]; have F8 := hid ((F6.out.trans FR.out.nil).trans fr8.nil)))
              go_ret
              exact ⟨rfl, F8.out⟩
  · have in1 : (1048576 : Int) < (n : Int) := by omega
    go_wp2
    go_ret
    exact ⟨rfl, Fr.refl _ _ _⟩

end Go.Proofs.Ytjgbconlpolddaa
