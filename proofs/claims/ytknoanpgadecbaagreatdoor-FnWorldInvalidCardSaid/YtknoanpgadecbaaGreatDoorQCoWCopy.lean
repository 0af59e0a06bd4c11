/- The reference's l51Copy (printed by py/mkCoWCopy.py). -/
import Derived.Test.YtknoanpgadecbaaGreatDoorQM11
import Derived.Test.YtknoanpgadecbaaGreatDoorQCoCoord2
import Derived.Deep.CutBlock
set_option linter.unusedVariables false
set_option linter.unusedSimpArgs false
namespace Go.Proofs.YtknoanpgadecbaaGreatDoor
open Go.RowKit
set_option linter.unusedVariables false

def ShsOwn (lo : Nat) (w : World) (v : Value) (ss : List (List Rc)) : Prop :=
 ∃ zs : List (List Rc × Value), zs.map (·.1) = ss ∧ w.ownsRow lo 81 1 v ss.length (zs.map (·.2)) ∧ ∀ z ∈ zs, RecsR (new lo) w z.2 z.1
def NetOwn (lo : Nat) (w : World) (v : Value) (ms : List Msg) : Prop := w.ownsRow lo 47 4 v ms.length (ms.flatMap encM)

theorem ShsOwn.reads {lo : Nat} {w : World} {v : Value} {ss : List (List Rc)} (h : ShsOwn lo w v ss) : ShardsR lo w v ss := by
 obtain ⟨zs, h1, h2, h3⟩ := h
 exact ⟨zs, h1, SlR.ofOwns h2, h3⟩
theorem NetOwn.reads {lo : Nat} {w : World} {v : Value} {ms : List Msg} (h : NetOwn lo w v ms) : NetR lo w v ms := SlR.ofOwns h
theorem ShsOwn.tk {lo B : Nat} {T : List Nat} {w w' : World} {v : Value} {ss : List (List Rc)} (h : ShsOwn lo w v ss) (hf : Fr B T w w') (h0 : 81 ∉ T) (h1 : 97 ∉ T) (h2 : 94 ∉ T) : ShsOwn lo w' v ss := by
 obtain ⟨zs, g1, g2, g3⟩ := h
 exact ⟨zs, g1, ownsRow_keep g2 hf h0, fun z hz => (g3 z hz).tk hf h1 h2⟩
theorem ShsOwn.nil (lo : Nat) (w : World) : ShsOwn lo w (.slice none 0 0) [] := ⟨[], rfl, World.ownsRow_nil _ _ _ _, fun z hz => by cases hz⟩
theorem ShsOwn.snoc {lo n : Nat} {w' : World} {v' : Value} {ss : List (List Rc)} {rs : List Rc} {u : Value} {zs : List (List Rc × Value)} (g1 : zs.map (·.1) = ss) (g3 : ∀ z ∈ zs, RecsR (new lo) w' z.2 z.1)
  (hu : RecsR (new lo) w' u rs) (hn : n = ss.length) (hown : w'.ownsRow lo 81 1 v' (n + 1) (zs.map (·.2) ++ [u])) : ShsOwn lo w' v' (ss ++ [rs]) := by
 subst hn
 refine ⟨zs ++ [(rs, u)], by simp [g1], ?_, fun z hz => ?_⟩
 ·simp only [List.length_append, List.map_append]
  simpa using hown
 ·rcases List.mem_append.1 hz with hz | hz
  ·exact g3 z hz
  ·simp at hz
   subst hz
   exact hu

theorem box4_ne {w : World} {n X : Nat} {o : Obj} {u1 u2 u3 u4 : Value} (h : w.heap[n]? = some o) (hn : n ≠ X) : ((((w.setCell ⟨X, 0, none⟩ u1).setCell ⟨X, 1, none⟩ u2).setCell ⟨X, 2, none⟩ u3).setCell ⟨X, 3, none⟩ u4).heap[n]? = some o :=
 block_setne (block_setne (block_setne (block_setne h hn) hn) hn) hn
theorem box4_new {B : Nat} {T : List Nat} {a w : World} {X : Nat} {u1 u2 u3 u4 : Value} (h : Fr B T a w) (hX : a.heap.size ≤ X) : Fr B T a ((((w.setCell ⟨X, 0, none⟩ u1).setCell ⟨X, 1, none⟩ u2).setCell ⟨X, 2, none⟩ u3).setCell ⟨X, 3, none⟩ u4) :=
 (((h.setNew (p := ⟨X, 0, none⟩) hX _).setNew (p := ⟨X, 1, none⟩) hX _).setNew (p := ⟨X, 2, none⟩) hX _).setNew (p := ⟨X, 3, none⟩) hX _

theorem vote_keep_old {n b o m : Nat} {w w' : World} {u : Value} (hb : b < n) (h : w.cell? ⟨b, o, none⟩ = some u) (hf : Fr m [] w w') (hm : n ≤ m) : w'.cell? ⟨b, o, none⟩ = some u := hf.cell (Nat.lt_of_lt_of_le hb hm) h

def WdCopy (d : Wd) (w : World) (e : Ending) (w' : World) : Prop :=
 ∃ v1 v2 v3 v4, e = .returned (.agg #[v1, v2, v3, v4]) ∧ CoOwn w.heap.size w' v1 v2 d.co ∧ ShsOwn w.heap.size w' v3 d.shards ∧ NetOwn w.heap.size w' v4 d.net ∧ Fr w.heap.size [] w w'

set_option maxRecDepth 20000 in
set_option maxHeartbeats 8000000 in
theorem l51Copy_any (lo : Nat) (v1 v2 v3 v4 : Value) (d : Wd) (w : World) (hv : WdR lo w v1 v2 v3 v4 d) (hi : WdI d) :
  Calls Tryz.prog 32 #[.agg #[v1, v2, v3, v4]] w (WdCopy d w) := by
 obtain ⟨ta, tcap, rfl, _, _⟩ := hv.1.1.shape
 obtain ⟨oa, ocap, rfl, _, _⟩ := hv.1.2.shape
 obtain ⟨sa, scap, rfl, hscap, hsc⟩ := hv.2.1.shape
 obtain ⟨na, ncap, rfl, hnc, _⟩ := hv.2.2.shape
 obtain ⟨im, hmi, hmz0, hmz1, hmz2⟩ := info_parts infoM
 obtain ⟨is, his, hsz0, hsz1, hsz2⟩ := info_parts infoS
 have hnl := hi.len.2
 have HV := hid hv
 have WI := hid hi
 have HSC := hid hsc
 have B0 := hid (heap_up (heap_alloc_new w (.cells #[.slice ta d.co.txns.length tcap, .slice oa d.co.order.length ocap, .slice sa d.shards.length scap, .slice na d.net.length ncap] 30)) (.cells #[.slice none 0 0, .slice none 0 0, .slice none 0 0, .slice none 0 0] 30))
 have B1 := hid (two_boxes w (.cells #[.slice ta d.co.txns.length tcap, .slice oa d.co.order.length ocap, .slice sa d.shards.length scap, .slice na d.net.length ncap] 30) (.cells #[.slice none 0 0, .slice none 0 0, .slice none 0 0, .slice none 0 0] 30)).2
 have FW := hid (((Fr.refl w.heap.size [] w).alloc (.cells #[.slice ta d.co.txns.length tcap, .slice oa d.co.order.length ocap, .slice sa d.shards.length scap, .slice na d.net.length ncap] 30)).alloc (.cells #[.slice none 0 0, .slice none 0 0, .slice none 0 0, .slice none 0 0] 30))
 clear hv hi hsc
 go_enter Tryz.func32, Tryz.ntmps32
 go_upto_region 1 with fail
 go_cut [3] (fun v wx => ∃ X ua ucap ub ubcap nb nbcap, v = .pointer (some ⟨X, 0, none⟩) ∧ w.heap.size + 1 < X ∧ wx.heap[X]? = some (.cells #[.slice ua d.co.txns.length ucap, .slice ub d.co.order.length ubcap, .slice none 0 0, .slice nb d.net.length nbcap] 30 (0, 0)) ∧ CoOwn w.heap.size wx (.slice ua d.co.txns.length ucap) (.slice ub d.co.order.length ubcap) d.co ∧ NetOwn w.heap.size wx (.slice nb d.net.length nbcap) d.net ∧
   wx.heap[w.heap.size]? = some (.cells #[.slice ta d.co.txns.length tcap, .slice oa d.co.order.length ocap, .slice sa d.shards.length scap, .slice na d.net.length ncap] 30 (0, 0)) ∧ wx.heap[w.heap.size + 1]? = some (.cells #[.slice none 0 0, .slice none 0 0, .slice none 0 0, .slice none 0 0] 30 (0, 0)) ∧ Fr w.heap.size [] w wx)
 case first =>
  obtain ⟨W, hW⟩ : ∃ W, W = (w.alloc (.cells #[.slice ta d.co.txns.length tcap, .slice oa d.co.order.length ocap, .slice sa d.shards.length scap, .slice na d.net.length ncap] 30)).alloc (.cells #[.slice none 0 0, .slice none 0 0, .slice none 0 0, .slice none 0 0] 30) := ⟨_, rfl⟩
  rw [← hW] at B0 B1 FW ⊢
  clear hW
  refine wp_region_L 9 (S := (fun x => x.cell? ⟨w.heap.size, 0, none⟩ = some (.slice ta d.co.txns.length tcap) ∧ x.cell? ⟨w.heap.size, 1, none⟩ = some (.slice oa d.co.order.length ocap) ∧ x.cell? ⟨w.heap.size, 2, none⟩ = some (.slice sa d.shards.length scap) ∧ x.cell? ⟨w.heap.size, 3, none⟩ = some (.slice na d.net.length ncap))) (by kernel_rfl) ?_ (fun hHeld => ?_)
  ·exact ⟨cell_of (o := 0) B0.out rfl, cell_of (o := 1) B0.out rfl, cell_of (o := 2) B0.out rfl, cell_of (o := 3) B0.out rfl⟩
  have FD := (Fr.refl w.heap.size [] W).drew
  replace B0 := hid (FD.keep _ _ B0.out (.inr (by simp)))
  replace B1 := hid (FD.keep _ _ B1.out (.inr (by simp)))
  replace FW := hid (FW.out.trans FD)
  clear FD
  generalize W.drew = V at *
  refine wpAnyL_take (i := 0) (v := ?_) rfl (by kernel_rfl) (by kernel_rfl) (by kernel_rfl) (by kernel_rfl) (fun _ _ _ h => h) (Or.inl ⟨by rfl, ?_⟩) (by assumption) ?_
  rotate_left
  ·intro w hSw; (try dsimp only at hSw); go_simp; try with_reducible rfl
  (try simp only [Act.put, List.getElem_toArray, List.getElem_cons_succ, List.getElem_cons_zero, List.getElem?_toArray, List.getElem?_cons_succ, List.getElem?_cons_zero, List.setIfInBounds_toArray, List.set_cons_zero, List.set_cons_succ])
  refine wpAnyL_take (i := 4) (v := ?_) rfl (by kernel_rfl) (by kernel_rfl) (by kernel_rfl) (by kernel_rfl) (fun _ _ _ h => h) (Or.inl ⟨by rfl, ?_⟩) (by assumption) ?_
  rotate_left
  ·intro w hSw; (try dsimp only at hSw); go_simp; try with_reducible rfl
  (try simp only [Act.put, List.getElem_toArray, List.getElem_cons_succ, List.getElem_cons_zero, List.getElem?_toArray, List.getElem?_cons_succ, List.getElem?_cons_zero, List.setIfInBounds_toArray, List.set_cons_zero, List.set_cons_succ])
  refine wpAnyL_take (i := 1) (v := ?_) rfl (by kernel_rfl) (by kernel_rfl) (by kernel_rfl) (by kernel_rfl) (fun _ _ _ h => h) (Or.inl ⟨by rfl, ?_⟩) (by assumption) ?_
  rotate_left
  ·intro w hSw; (try dsimp only at hSw); go_simp; try with_reducible rfl
  (try simp only [Act.put, List.getElem_toArray, List.getElem_cons_succ, List.getElem_cons_zero, List.getElem?_toArray, List.getElem?_cons_succ, List.getElem?_cons_zero, List.setIfInBounds_toArray, List.set_cons_zero, List.set_cons_succ])
  refine wpAnyL_take (i := 5) (v := ?_) rfl (by kernel_rfl) (by kernel_rfl) (by kernel_rfl) (by kernel_rfl) (fun _ _ _ h => h) (Or.inl ⟨by rfl, ?_⟩) (by assumption) ?_
  rotate_left
  ·intro w hSw; (try dsimp only at hSw); go_simp; try with_reducible rfl
  (try simp only [Act.put, List.getElem_toArray, List.getElem_cons_succ, List.getElem_cons_zero, List.getElem?_toArray, List.getElem?_cons_succ, List.getElem?_cons_zero, List.setIfInBounds_toArray, List.set_cons_zero, List.set_cons_succ])
  refine wpAnyL_ready (rs := [2, 3, 8]) (by kernel_rfl) (by simp) ?_
  refine AllReadyL.cons rfl (fun K hK => ?_) (AllReadyL.cons rfl (fun K hK => ?_) (AllReadyL.cons rfl (fun K hK => ?_) AllReadyL.nil))
  ·go_simp
   go_at_call 67
   refine (l22Copy_any lo _ _ d.co _ (HV.out.1.grow FW.out) WI.out.1).mono ?_
   rintro e V1 ⟨u1, u2, m1, rfl, own1, or1, hm1, hob1, fr1⟩
   have CO := hid ((CoOwn.ofM own1 or1 hob1 hm1).lower FW.out.size)
   clear own1 or1 hm1 hob1
   obtain ⟨ua, ucap, rfl, _, _⟩ := CO.out.reads.1.shape
   obtain ⟨ub, ubcap, rfl, _, _⟩ := CO.out.reads.2.shape
   have B0 := hid (fr1.keep _ _ B0.out (.inr (by simp [otag])))
   have B1 := hid (fr1.keep _ _ B1.out (.inr (by simp [otag])))
   have FW := hid (FW.out.trans fr1.nil)
   clear fr1
   refine hK.out _ _ (Or.inr ?_) (fun hHeld => ?_)
   ·exact ⟨cell_of (o := 0) B0.out rfl, cell_of (o := 1) B0.out rfl, cell_of (o := 2) B0.out rfl, cell_of (o := 3) B0.out rfl⟩
   replace hHeld := hHeld.resolve_right (by decide)
   clear hK K
   (try simp only [Act.put, List.getElem_toArray, List.getElem_cons_succ, List.getElem_cons_zero, List.getElem?_toArray, List.getElem?_cons_succ, List.getElem?_cons_zero, List.setIfInBounds_toArray, List.set_cons_zero, List.set_cons_succ])
   refine wpAnyL_ready (rs := [3, 8]) (by kernel_rfl) (by simp) ?_
   refine AllReadyL.cons rfl (fun K hK => ?_) (AllReadyL.cons rfl (fun K hK => ?_) AllReadyL.nil)
   ·go_simp
    have f1 : Fr w.heap.size [] V1 (V1.alloc (.cells #[] 47)) := (Fr.refl _ _ _).alloc _
    have EB := hid (show (V1.alloc (.cells #[] 47)).ownsRow w.heap.size 47 4 (.slice (some ⟨V1.heap.size, 0, none⟩) 0 0) 0 [] from World.ownsRow_made V1 #[] 0 FW.out.size (by decide) (by simp))
    have B0 := hid (f1.keep _ _ B0.out (.inr (by simp [otag])))
    have B1 := hid (f1.keep _ _ B1.out (.inr (by simp [otag])))
    have CO := hid (CO.out.tk f1 (by simp) (by simp) (by simp) (by simp))
    have FW := hid (FW.out.trans f1)
    clear f1
    obtain ⟨Z, hZ⟩ : ∃ Z, Z = V1.heap.size := ⟨_, rfl⟩
    rw [← hZ] at EB ⊢
    clear hZ
    generalize V1.alloc (.cells #[] 47) = V2 at *
    refine hK.out _ _ (Or.inr ?_) (fun hHeld => ?_)
    ·exact ⟨cell_of (o := 0) B0.out rfl, cell_of (o := 1) B0.out rfl, cell_of (o := 2) B0.out rfl, cell_of (o := 3) B0.out rfl⟩
    replace hHeld := hHeld.resolve_right (by decide)
    clear hK K
    (try simp only [Act.put, List.getElem_toArray, List.getElem_cons_succ, List.getElem_cons_zero, List.getElem?_toArray, List.getElem?_cons_succ, List.getElem?_cons_zero, List.setIfInBounds_toArray, List.set_cons_zero, List.set_cons_succ])
    refine wpAnyL_ready (rs := [6, 8]) (by kernel_rfl) (by simp) ?_
    refine AllReadyL.cons rfl (fun K hK => ?_) (AllReadyL.cons rfl (fun K hK => ?_) AllReadyL.nil)
    ·refine step_ap rfl (.tmp 8) (.tmp 10) 28 rfl w.heap.size 47 im (.agg #[.int .i64 0, .int .i64 0, .int .i64 0, .bool false]) 4 32 Tryz.underlying28 hmi hmz0 hmz1 hmz2 rfl (by decide) (.slice (some ⟨Z, 0, none⟩) 0 0) 0 [] (by rfl) EB.out (new lo) 47 (.slice na d.net.length ncap) d.net.length (d.net.flatMap encM) (by rfl) ((HV.out.grow FW.out).2.2) (oneM _) (by unfold maxLen; omega) (by omega) FW.out.size ?_
     intro v3 V3 own3 fr3
     rw [Nat.zero_add, List.nil_append] at own3
     obtain ⟨nb, nbcap, rfl⟩ := own_any own3
     have NO := hid own3
     have B0 := hid (fr3.keep _ _ B0.out (.inr (by simp [otag])))
     have B1 := hid (fr3.keep _ _ B1.out (.inr (by simp [otag])))
     have CO := hid (CO.out.tk fr3 (by simp) (by simp) (by simp) (by simp))
     have FW := hid (FW.out.after fr3)
     clear own3 fr3
     refine hK.out _ _ (Or.inr ?_) (fun hHeld => ?_)
     ·exact ⟨cell_of (o := 0) B0.out rfl, cell_of (o := 1) B0.out rfl, cell_of (o := 2) B0.out rfl, cell_of (o := 3) B0.out rfl⟩
     replace hHeld := hHeld.resolve_right (by decide)
     clear hK K
     (try simp only [Act.put, List.getElem_toArray, List.getElem_cons_succ, List.getElem_cons_zero, List.getElem?_toArray, List.getElem?_cons_succ, List.getElem?_cons_zero, List.setIfInBounds_toArray, List.set_cons_zero, List.set_cons_succ])
     refine wpAnyL_take (i := 7) (v := ?_) rfl (by kernel_rfl) (by kernel_rfl) (by kernel_rfl) (by kernel_rfl) (fun _ _ _ h => h) (Or.inl ⟨by rfl, ?_⟩) (by assumption) ?_
     rotate_left
     ·intro w hSw; (try dsimp only at hSw); go_simp; try with_reducible rfl
     (try simp only [Act.put, List.getElem_toArray, List.getElem_cons_succ, List.getElem_cons_zero, List.getElem?_toArray, List.getElem?_cons_succ, List.getElem?_cons_zero, List.setIfInBounds_toArray, List.set_cons_zero, List.set_cons_succ])
     refine wpAnyL_ready (rs := [8]) (by kernel_rfl) (by simp) ?_
     refine AllReadyL.cons rfl (fun K hK => ?_) AllReadyL.nil
     go_simp
     have hlB := lt_of_get B1.out
     have f1 : Fr w.heap.size [] V3 (V3.alloc (.cells #[.slice none 0 0, .slice none 0 0, .slice none 0 0, .slice none 0 0] 30)) := (Fr.refl _ _ _).alloc _
     have AX := hid (heap_alloc_new V3 (.cells #[.slice none 0 0, .slice none 0 0, .slice none 0 0, .slice none 0 0] 30))
     have B0 := hid (f1.keep _ _ B0.out (.inr (by simp [otag])))
     have B1 := hid (f1.keep _ _ B1.out (.inr (by simp [otag])))
     have CO := hid (CO.out.tk f1 (by simp) (by simp) (by simp) (by simp))
     have NO := hid (ownsRow_keep NO.out f1 (by simp))
     have FW := hid (FW.out.trans f1)
     clear f1
     have hXn := lt_of_get B1.out
     clear hXn
     obtain ⟨X, hX⟩ : ∃ X, X = V3.heap.size := ⟨_, rfl⟩
     have hXn : w.heap.size + 1 < X := hX ▸ hlB
     rw [← hX] at AX ⊢
     clear hX
     generalize V3.alloc (.cells #[.slice none 0 0, .slice none 0 0, .slice none 0 0, .slice none 0 0] 30) = V4 at *
     refine hK.out _ _ (Or.inr ?_) (fun hHeld => ?_)
     ·exact ⟨cell_of (o := 0) B0.out rfl, cell_of (o := 1) B0.out rfl, cell_of (o := 2) B0.out rfl, cell_of (o := 3) B0.out rfl⟩
     replace hHeld := hHeld.resolve_right (by decide)
     clear hK K
     (try simp only [Act.put, List.getElem_toArray, List.getElem_cons_succ, List.getElem_cons_zero, List.getElem?_toArray, List.getElem?_cons_succ, List.getElem?_cons_zero, List.setIfInBounds_toArray, List.set_cons_zero, List.set_cons_succ])
     have x0 := fun o => free_of (o := o) AX.out
     have x1 := lt_of_get AX.out
     have x2 := cell_of (o := 0) AX.out rfl
     have x3 := cell_of (o := 1) AX.out rfl
     have x4 := cell_of (o := 2) AX.out rfl
     have x5 := cell_of (o := 3) AX.out rfl
     refine wpAnyL_one (i := 9) (by kernel_rfl) rfl (fun K hK => ?_)
     go_simp
     refine hK.out _ _ (Or.inl rfl) (fun hHeld => ?_)
     clear hK K hHeld
     (try simp only [Act.put, List.getElem_toArray, List.getElem_cons_succ, List.getElem_cons_zero, List.getElem?_toArray, List.getElem?_cons_succ, List.getElem?_cons_zero, List.setIfInBounds_toArray, List.set_cons_zero, List.set_cons_succ])
     refine wpAnyL_done (by kernel_rfl) ?_ _
     have h4 := box4 (u1 := .slice ua d.co.txns.length ucap) (u2 := .slice ub d.co.order.length ubcap) (u3 := .slice none 0 0) (u4 := .slice nb d.net.length nbcap) AX.out
     have FT := box4_fr (u1 := .slice ua d.co.txns.length ucap) (u2 := .slice ub d.co.order.length ubcap) (u3 := .slice none 0 0) (u4 := .slice nb d.net.length nbcap) AX.out
     go_wp2
     go_meet
     exact ⟨X, ua, ucap, ub, ubcap, nb, nbcap, rfl, hXn, h4, CO.out.tk FT (by simp) (by simp) (by simp) (by simp), ownsRow_keep NO.out FT (by simp), box4_ne B0.out (by omega), box4_ne B1.out (by omega), box4_new FW.out (by omega)⟩
    ·go_simp
     have hlB := lt_of_get B1.out
     have f1 : Fr w.heap.size [] V2 (V2.alloc (.cells #[.slice none 0 0, .slice none 0 0, .slice none 0 0, .slice none 0 0] 30)) := (Fr.refl _ _ _).alloc _
     have AX := hid (heap_alloc_new V2 (.cells #[.slice none 0 0, .slice none 0 0, .slice none 0 0, .slice none 0 0] 30))
     have B0 := hid (f1.keep _ _ B0.out (.inr (by simp [otag])))
     have B1 := hid (f1.keep _ _ B1.out (.inr (by simp [otag])))
     have CO := hid (CO.out.tk f1 (by simp) (by simp) (by simp) (by simp))
     have EB := hid (ownsRow_keep EB.out f1 (by simp))
     have FW := hid (FW.out.trans f1)
     clear f1
     have hXn := lt_of_get B1.out
     clear hXn
     obtain ⟨X, hX⟩ : ∃ X, X = V2.heap.size := ⟨_, rfl⟩
     have hXn : w.heap.size + 1 < X := hX ▸ hlB
     rw [← hX] at AX ⊢
     clear hX
     generalize V2.alloc (.cells #[.slice none 0 0, .slice none 0 0, .slice none 0 0, .slice none 0 0] 30) = V4 at *
     refine hK.out _ _ (Or.inr ?_) (fun hHeld => ?_)
     ·exact ⟨cell_of (o := 0) B0.out rfl, cell_of (o := 1) B0.out rfl, cell_of (o := 2) B0.out rfl, cell_of (o := 3) B0.out rfl⟩
     replace hHeld := hHeld.resolve_right (by decide)
     clear hK K
     (try simp only [Act.put, List.getElem_toArray, List.getElem_cons_succ, List.getElem_cons_zero, List.getElem?_toArray, List.getElem?_cons_succ, List.getElem?_cons_zero, List.setIfInBounds_toArray, List.set_cons_zero, List.set_cons_succ])
     refine wpAnyL_ready (rs := [6]) (by kernel_rfl) (by simp) ?_
     refine AllReadyL.cons rfl (fun K hK => ?_) AllReadyL.nil
     refine step_ap rfl (.tmp 8) (.tmp 10) 28 rfl w.heap.size 47 im (.agg #[.int .i64 0, .int .i64 0, .int .i64 0, .bool false]) 4 32 Tryz.underlying28 hmi hmz0 hmz1 hmz2 rfl (by decide) (.slice (some ⟨Z, 0, none⟩) 0 0) 0 [] (by rfl) EB.out (new lo) 47 (.slice na d.net.length ncap) d.net.length (d.net.flatMap encM) (by rfl) ((HV.out.grow FW.out).2.2) (oneM _) (by unfold maxLen; omega) (by omega) FW.out.size ?_
     intro v3 V3 own3 fr3
     rw [Nat.zero_add, List.nil_append] at own3
     obtain ⟨nb, nbcap, rfl⟩ := own_any own3
     have NO := hid own3
     have B0 := hid (fr3.keep _ _ B0.out (.inr (by simp [otag])))
     have B1 := hid (fr3.keep _ _ B1.out (.inr (by simp [otag])))
     have CO := hid (CO.out.tk fr3 (by simp) (by simp) (by simp) (by simp))
     have AX := hid (fr3.keep _ _ AX.out (.inr (by simp [otag])))
     have FW := hid (FW.out.after fr3)
     clear own3 fr3
     refine hK.out _ _ (Or.inr ?_) (fun hHeld => ?_)
     ·exact ⟨cell_of (o := 0) B0.out rfl, cell_of (o := 1) B0.out rfl, cell_of (o := 2) B0.out rfl, cell_of (o := 3) B0.out rfl⟩
     replace hHeld := hHeld.resolve_right (by decide)
     clear hK K
     (try simp only [Act.put, List.getElem_toArray, List.getElem_cons_succ, List.getElem_cons_zero, List.getElem?_toArray, List.getElem?_cons_succ, List.getElem?_cons_zero, List.setIfInBounds_toArray, List.set_cons_zero, List.set_cons_succ])
     refine wpAnyL_take (i := 7) (v := ?_) rfl (by kernel_rfl) (by kernel_rfl) (by kernel_rfl) (by kernel_rfl) (fun _ _ _ h => h) (Or.inl ⟨by rfl, ?_⟩) (by assumption) ?_
     rotate_left
     ·intro w hSw; (try dsimp only at hSw); go_simp; try with_reducible rfl
     (try simp only [Act.put, List.getElem_toArray, List.getElem_cons_succ, List.getElem_cons_zero, List.getElem?_toArray, List.getElem?_cons_succ, List.getElem?_cons_zero, List.setIfInBounds_toArray, List.set_cons_zero, List.set_cons_succ])
     have x0 := fun o => free_of (o := o) AX.out
     have x1 := lt_of_get AX.out
     have x2 := cell_of (o := 0) AX.out rfl
     have x3 := cell_of (o := 1) AX.out rfl
     have x4 := cell_of (o := 2) AX.out rfl
     have x5 := cell_of (o := 3) AX.out rfl
     refine wpAnyL_one (i := 9) (by kernel_rfl) rfl (fun K hK => ?_)
     go_simp
     refine hK.out _ _ (Or.inl rfl) (fun hHeld => ?_)
     clear hK K hHeld
     (try simp only [Act.put, List.getElem_toArray, List.getElem_cons_succ, List.getElem_cons_zero, List.getElem?_toArray, List.getElem?_cons_succ, List.getElem?_cons_zero, List.setIfInBounds_toArray, List.set_cons_zero, List.set_cons_succ])
     refine wpAnyL_done (by kernel_rfl) ?_ _
     have h4 := box4 (u1 := .slice ua d.co.txns.length ucap) (u2 := .slice ub d.co.order.length ubcap) (u3 := .slice none 0 0) (u4 := .slice nb d.net.length nbcap) AX.out
     have FT := box4_fr (u1 := .slice ua d.co.txns.length ucap) (u2 := .slice ub d.co.order.length ubcap) (u3 := .slice none 0 0) (u4 := .slice nb d.net.length nbcap) AX.out
     go_wp2
     go_meet
     exact ⟨X, ua, ucap, ub, ubcap, nb, nbcap, rfl, hXn, h4, CO.out.tk FT (by simp) (by simp) (by simp) (by simp), ownsRow_keep NO.out FT (by simp), box4_ne B0.out (by omega), box4_ne B1.out (by omega), box4_new FW.out (by omega)⟩
   ·go_simp
    have hlB := lt_of_get B1.out
    have f1 : Fr w.heap.size [] V1 (V1.alloc (.cells #[.slice none 0 0, .slice none 0 0, .slice none 0 0, .slice none 0 0] 30)) := (Fr.refl _ _ _).alloc _
    have AX := hid (heap_alloc_new V1 (.cells #[.slice none 0 0, .slice none 0 0, .slice none 0 0, .slice none 0 0] 30))
    have B0 := hid (f1.keep _ _ B0.out (.inr (by simp [otag])))
    have B1 := hid (f1.keep _ _ B1.out (.inr (by simp [otag])))
    have CO := hid (CO.out.tk f1 (by simp) (by simp) (by simp) (by simp))
    have FW := hid (FW.out.trans f1)
    clear f1
    have hXn := lt_of_get B1.out
    clear hXn
    obtain ⟨X, hX⟩ : ∃ X, X = V1.heap.size := ⟨_, rfl⟩
    have hXn : w.heap.size + 1 < X := hX ▸ hlB
    rw [← hX] at AX ⊢
    clear hX
    generalize V1.alloc (.cells #[.slice none 0 0, .slice none 0 0, .slice none 0 0, .slice none 0 0] 30) = V4 at *
    refine hK.out _ _ (Or.inr ?_) (fun hHeld => ?_)
    ·exact ⟨cell_of (o := 0) B0.out rfl, cell_of (o := 1) B0.out rfl, cell_of (o := 2) B0.out rfl, cell_of (o := 3) B0.out rfl⟩
    replace hHeld := hHeld.resolve_right (by decide)
    clear hK K
    (try simp only [Act.put, List.getElem_toArray, List.getElem_cons_succ, List.getElem_cons_zero, List.getElem?_toArray, List.getElem?_cons_succ, List.getElem?_cons_zero, List.setIfInBounds_toArray, List.set_cons_zero, List.set_cons_succ])
    refine wpAnyL_ready (rs := [3]) (by kernel_rfl) (by simp) ?_
    refine AllReadyL.cons rfl (fun K hK => ?_) AllReadyL.nil
    go_simp
    have f1 : Fr w.heap.size [] V4 (V4.alloc (.cells #[] 47)) := (Fr.refl _ _ _).alloc _
    have EB := hid (show (V4.alloc (.cells #[] 47)).ownsRow w.heap.size 47 4 (.slice (some ⟨V4.heap.size, 0, none⟩) 0 0) 0 [] from World.ownsRow_made V4 #[] 0 FW.out.size (by decide) (by simp))
    have B0 := hid (f1.keep _ _ B0.out (.inr (by simp [otag])))
    have B1 := hid (f1.keep _ _ B1.out (.inr (by simp [otag])))
    have CO := hid (CO.out.tk f1 (by simp) (by simp) (by simp) (by simp))
    have AX := hid (f1.keep _ _ AX.out (.inr (by simp [otag])))
    have FW := hid (FW.out.trans f1)
    clear f1
    obtain ⟨Z, hZ⟩ : ∃ Z, Z = V4.heap.size := ⟨_, rfl⟩
    rw [← hZ] at EB ⊢
    clear hZ
    generalize V4.alloc (.cells #[] 47) = V2 at *
    refine hK.out _ _ (Or.inr ?_) (fun hHeld => ?_)
    ·exact ⟨cell_of (o := 0) B0.out rfl, cell_of (o := 1) B0.out rfl, cell_of (o := 2) B0.out rfl, cell_of (o := 3) B0.out rfl⟩
    replace hHeld := hHeld.resolve_right (by decide)
    clear hK K
    (try simp only [Act.put, List.getElem_toArray, List.getElem_cons_succ, List.getElem_cons_zero, List.getElem?_toArray, List.getElem?_cons_succ, List.getElem?_cons_zero, List.setIfInBounds_toArray, List.set_cons_zero, List.set_cons_succ])
    refine wpAnyL_ready (rs := [6]) (by kernel_rfl) (by simp) ?_
    refine AllReadyL.cons rfl (fun K hK => ?_) AllReadyL.nil
    refine step_ap rfl (.tmp 8) (.tmp 10) 28 rfl w.heap.size 47 im (.agg #[.int .i64 0, .int .i64 0, .int .i64 0, .bool false]) 4 32 Tryz.underlying28 hmi hmz0 hmz1 hmz2 rfl (by decide) (.slice (some ⟨Z, 0, none⟩) 0 0) 0 [] (by rfl) EB.out (new lo) 47 (.slice na d.net.length ncap) d.net.length (d.net.flatMap encM) (by rfl) ((HV.out.grow FW.out).2.2) (oneM _) (by unfold maxLen; omega) (by omega) FW.out.size ?_
    intro v3 V3 own3 fr3
    rw [Nat.zero_add, List.nil_append] at own3
    obtain ⟨nb, nbcap, rfl⟩ := own_any own3
    have NO := hid own3
    have B0 := hid (fr3.keep _ _ B0.out (.inr (by simp [otag])))
    have B1 := hid (fr3.keep _ _ B1.out (.inr (by simp [otag])))
    have CO := hid (CO.out.tk fr3 (by simp) (by simp) (by simp) (by simp))
    have AX := hid (fr3.keep _ _ AX.out (.inr (by simp [otag])))
    have FW := hid (FW.out.after fr3)
    clear own3 fr3
    refine hK.out _ _ (Or.inr ?_) (fun hHeld => ?_)
    ·exact ⟨cell_of (o := 0) B0.out rfl, cell_of (o := 1) B0.out rfl, cell_of (o := 2) B0.out rfl, cell_of (o := 3) B0.out rfl⟩
    replace hHeld := hHeld.resolve_right (by decide)
    clear hK K
    (try simp only [Act.put, List.getElem_toArray, List.getElem_cons_succ, List.getElem_cons_zero, List.getElem?_toArray, List.getElem?_cons_succ, List.getElem?_cons_zero, List.setIfInBounds_toArray, List.set_cons_zero, List.set_cons_succ])
    refine wpAnyL_take (i := 7) (v := ?_) rfl (by kernel_rfl) (by kernel_rfl) (by kernel_rfl) (by kernel_rfl) (fun _ _ _ h => h) (Or.inl ⟨by rfl, ?_⟩) (by assumption) ?_
    rotate_left
    ·intro w hSw; (try dsimp only at hSw); go_simp; try with_reducible rfl
    (try simp only [Act.put, List.getElem_toArray, List.getElem_cons_succ, List.getElem_cons_zero, List.getElem?_toArray, List.getElem?_cons_succ, List.getElem?_cons_zero, List.setIfInBounds_toArray, List.set_cons_zero, List.set_cons_succ])
    have x0 := fun o => free_of (o := o) AX.out
    have x1 := lt_of_get AX.out
    have x2 := cell_of (o := 0) AX.out rfl
    have x3 := cell_of (o := 1) AX.out rfl
    have x4 := cell_of (o := 2) AX.out rfl
    have x5 := cell_of (o := 3) AX.out rfl
    refine wpAnyL_one (i := 9) (by kernel_rfl) rfl (fun K hK => ?_)
    go_simp
    refine hK.out _ _ (Or.inl rfl) (fun hHeld => ?_)
    clear hK K hHeld
    (try simp only [Act.put, List.getElem_toArray, List.getElem_cons_succ, List.getElem_cons_zero, List.getElem?_toArray, List.getElem?_cons_succ, List.getElem?_cons_zero, List.setIfInBounds_toArray, List.set_cons_zero, List.set_cons_succ])
    refine wpAnyL_done (by kernel_rfl) ?_ _
    have h4 := box4 (u1 := .slice ua d.co.txns.length ucap) (u2 := .slice ub d.co.order.length ubcap) (u3 := .slice none 0 0) (u4 := .slice nb d.net.length nbcap) AX.out
    have FT := box4_fr (u1 := .slice ua d.co.txns.length ucap) (u2 := .slice ub d.co.order.length ubcap) (u3 := .slice none 0 0) (u4 := .slice nb d.net.length nbcap) AX.out
    go_wp2
    go_meet
    exact ⟨X, ua, ucap, ub, ubcap, nb, nbcap, rfl, hXn, h4, CO.out.tk FT (by simp) (by simp) (by simp) (by simp), ownsRow_keep NO.out FT (by simp), box4_ne B0.out (by omega), box4_ne B1.out (by omega), box4_new FW.out (by omega)⟩
  ·go_simp
   have f1 : Fr w.heap.size [] V (V.alloc (.cells #[] 47)) := (Fr.refl _ _ _).alloc _
   have EB := hid (show (V.alloc (.cells #[] 47)).ownsRow w.heap.size 47 4 (.slice (some ⟨V.heap.size, 0, none⟩) 0 0) 0 [] from World.ownsRow_made V #[] 0 FW.out.size (by decide) (by simp))
   have B0 := hid (f1.keep _ _ B0.out (.inr (by simp [otag])))
   have B1 := hid (f1.keep _ _ B1.out (.inr (by simp [otag])))
   have FW := hid (FW.out.trans f1)
   clear f1
   obtain ⟨Z, hZ⟩ : ∃ Z, Z = V.heap.size := ⟨_, rfl⟩
   rw [← hZ] at EB ⊢
   clear hZ
   generalize V.alloc (.cells #[] 47) = V2 at *
   refine hK.out _ _ (Or.inr ?_) (fun hHeld => ?_)
   ·exact ⟨cell_of (o := 0) B0.out rfl, cell_of (o := 1) B0.out rfl, cell_of (o := 2) B0.out rfl, cell_of (o := 3) B0.out rfl⟩
   replace hHeld := hHeld.resolve_right (by decide)
   clear hK K
   (try simp only [Act.put, List.getElem_toArray, List.getElem_cons_succ, List.getElem_cons_zero, List.getElem?_toArray, List.getElem?_cons_succ, List.getElem?_cons_zero, List.setIfInBounds_toArray, List.set_cons_zero, List.set_cons_succ])
   refine wpAnyL_ready (rs := [2, 8]) (by kernel_rfl) (by simp) ?_
   refine AllReadyL.cons rfl (fun K hK => ?_) (AllReadyL.cons rfl (fun K hK => ?_) AllReadyL.nil)
   ·go_simp
    go_at_call 67
    refine (l22Copy_any lo _ _ d.co _ (HV.out.1.grow FW.out) WI.out.1).mono ?_
    rintro e V1 ⟨u1, u2, m1, rfl, own1, or1, hm1, hob1, fr1⟩
    have CO := hid ((CoOwn.ofM own1 or1 hob1 hm1).lower FW.out.size)
    clear own1 or1 hm1 hob1
    obtain ⟨ua, ucap, rfl, _, _⟩ := CO.out.reads.1.shape
    obtain ⟨ub, ubcap, rfl, _, _⟩ := CO.out.reads.2.shape
    have B0 := hid (fr1.keep _ _ B0.out (.inr (by simp [otag])))
    have B1 := hid (fr1.keep _ _ B1.out (.inr (by simp [otag])))
    have EB := hid (ownsRow_keep EB.out fr1 (by simp))
    have FW := hid (FW.out.trans fr1.nil)
    clear fr1
    refine hK.out _ _ (Or.inr ?_) (fun hHeld => ?_)
    ·exact ⟨cell_of (o := 0) B0.out rfl, cell_of (o := 1) B0.out rfl, cell_of (o := 2) B0.out rfl, cell_of (o := 3) B0.out rfl⟩
    replace hHeld := hHeld.resolve_right (by decide)
    clear hK K
    (try simp only [Act.put, List.getElem_toArray, List.getElem_cons_succ, List.getElem_cons_zero, List.getElem?_toArray, List.getElem?_cons_succ, List.getElem?_cons_zero, List.setIfInBounds_toArray, List.set_cons_zero, List.set_cons_succ])
    refine wpAnyL_ready (rs := [6, 8]) (by kernel_rfl) (by simp) ?_
    refine AllReadyL.cons rfl (fun K hK => ?_) (AllReadyL.cons rfl (fun K hK => ?_) AllReadyL.nil)
    ·refine step_ap rfl (.tmp 8) (.tmp 10) 28 rfl w.heap.size 47 im (.agg #[.int .i64 0, .int .i64 0, .int .i64 0, .bool false]) 4 32 Tryz.underlying28 hmi hmz0 hmz1 hmz2 rfl (by decide) (.slice (some ⟨Z, 0, none⟩) 0 0) 0 [] (by rfl) EB.out (new lo) 47 (.slice na d.net.length ncap) d.net.length (d.net.flatMap encM) (by rfl) ((HV.out.grow FW.out).2.2) (oneM _) (by unfold maxLen; omega) (by omega) FW.out.size ?_
     intro v3 V3 own3 fr3
     rw [Nat.zero_add, List.nil_append] at own3
     obtain ⟨nb, nbcap, rfl⟩ := own_any own3
     have NO := hid own3
     have B0 := hid (fr3.keep _ _ B0.out (.inr (by simp [otag])))
     have B1 := hid (fr3.keep _ _ B1.out (.inr (by simp [otag])))
     have CO := hid (CO.out.tk fr3 (by simp) (by simp) (by simp) (by simp))
     have FW := hid (FW.out.after fr3)
     clear own3 fr3
     refine hK.out _ _ (Or.inr ?_) (fun hHeld => ?_)
     ·exact ⟨cell_of (o := 0) B0.out rfl, cell_of (o := 1) B0.out rfl, cell_of (o := 2) B0.out rfl, cell_of (o := 3) B0.out rfl⟩
     replace hHeld := hHeld.resolve_right (by decide)
     clear hK K
     (try simp only [Act.put, List.getElem_toArray, List.getElem_cons_succ, List.getElem_cons_zero, List.getElem?_toArray, List.getElem?_cons_succ, List.getElem?_cons_zero, List.setIfInBounds_toArray, List.set_cons_zero, List.set_cons_succ])
     refine wpAnyL_take (i := 7) (v := ?_) rfl (by kernel_rfl) (by kernel_rfl) (by kernel_rfl) (by kernel_rfl) (fun _ _ _ h => h) (Or.inl ⟨by rfl, ?_⟩) (by assumption) ?_
     rotate_left
     ·intro w hSw; (try dsimp only at hSw); go_simp; try with_reducible rfl
     (try simp only [Act.put, List.getElem_toArray, List.getElem_cons_succ, List.getElem_cons_zero, List.getElem?_toArray, List.getElem?_cons_succ, List.getElem?_cons_zero, List.setIfInBounds_toArray, List.set_cons_zero, List.set_cons_succ])
     refine wpAnyL_ready (rs := [8]) (by kernel_rfl) (by simp) ?_
     refine AllReadyL.cons rfl (fun K hK => ?_) AllReadyL.nil
     go_simp
     have hlB := lt_of_get B1.out
     have f1 : Fr w.heap.size [] V3 (V3.alloc (.cells #[.slice none 0 0, .slice none 0 0, .slice none 0 0, .slice none 0 0] 30)) := (Fr.refl _ _ _).alloc _
     have AX := hid (heap_alloc_new V3 (.cells #[.slice none 0 0, .slice none 0 0, .slice none 0 0, .slice none 0 0] 30))
     have B0 := hid (f1.keep _ _ B0.out (.inr (by simp [otag])))
     have B1 := hid (f1.keep _ _ B1.out (.inr (by simp [otag])))
     have CO := hid (CO.out.tk f1 (by simp) (by simp) (by simp) (by simp))
     have NO := hid (ownsRow_keep NO.out f1 (by simp))
     have FW := hid (FW.out.trans f1)
     clear f1
     have hXn := lt_of_get B1.out
     clear hXn
     obtain ⟨X, hX⟩ : ∃ X, X = V3.heap.size := ⟨_, rfl⟩
     have hXn : w.heap.size + 1 < X := hX ▸ hlB
     rw [← hX] at AX ⊢
     clear hX
     generalize V3.alloc (.cells #[.slice none 0 0, .slice none 0 0, .slice none 0 0, .slice none 0 0] 30) = V4 at *
     refine hK.out _ _ (Or.inr ?_) (fun hHeld => ?_)
     ·exact ⟨cell_of (o := 0) B0.out rfl, cell_of (o := 1) B0.out rfl, cell_of (o := 2) B0.out rfl, cell_of (o := 3) B0.out rfl⟩
     replace hHeld := hHeld.resolve_right (by decide)
     clear hK K
     (try simp only [Act.put, List.getElem_toArray, List.getElem_cons_succ, List.getElem_cons_zero, List.getElem?_toArray, List.getElem?_cons_succ, List.getElem?_cons_zero, List.setIfInBounds_toArray, List.set_cons_zero, List.set_cons_succ])
     have x0 := fun o => free_of (o := o) AX.out
     have x1 := lt_of_get AX.out
     have x2 := cell_of (o := 0) AX.out rfl
     have x3 := cell_of (o := 1) AX.out rfl
     have x4 := cell_of (o := 2) AX.out rfl
     have x5 := cell_of (o := 3) AX.out rfl
     refine wpAnyL_one (i := 9) (by kernel_rfl) rfl (fun K hK => ?_)
     go_simp
     refine hK.out _ _ (Or.inl rfl) (fun hHeld => ?_)
     clear hK K hHeld
     (try simp only [Act.put, List.getElem_toArray, List.getElem_cons_succ, List.getElem_cons_zero, List.getElem?_toArray, List.getElem?_cons_succ, List.getElem?_cons_zero, List.setIfInBounds_toArray, List.set_cons_zero, List.set_cons_succ])
     refine wpAnyL_done (by kernel_rfl) ?_ _
     have h4 := box4 (u1 := .slice ua d.co.txns.length ucap) (u2 := .slice ub d.co.order.length ubcap) (u3 := .slice none 0 0) (u4 := .slice nb d.net.length nbcap) AX.out
     have FT := box4_fr (u1 := .slice ua d.co.txns.length ucap) (u2 := .slice ub d.co.order.length ubcap) (u3 := .slice none 0 0) (u4 := .slice nb d.net.length nbcap) AX.out
     go_wp2
     go_meet
     exact ⟨X, ua, ucap, ub, ubcap, nb, nbcap, rfl, hXn, h4, CO.out.tk FT (by simp) (by simp) (by simp) (by simp), ownsRow_keep NO.out FT (by simp), box4_ne B0.out (by omega), box4_ne B1.out (by omega), box4_new FW.out (by omega)⟩
    ·go_simp
     have hlB := lt_of_get B1.out
     have f1 : Fr w.heap.size [] V1 (V1.alloc (.cells #[.slice none 0 0, .slice none 0 0, .slice none 0 0, .slice none 0 0] 30)) := (Fr.refl _ _ _).alloc _
     have AX := hid (heap_alloc_new V1 (.cells #[.slice none 0 0, .slice none 0 0, .slice none 0 0, .slice none 0 0] 30))
     have B0 := hid (f1.keep _ _ B0.out (.inr (by simp [otag])))
     have B1 := hid (f1.keep _ _ B1.out (.inr (by simp [otag])))
     have CO := hid (CO.out.tk f1 (by simp) (by simp) (by simp) (by simp))
     have EB := hid (ownsRow_keep EB.out f1 (by simp))
     have FW := hid (FW.out.trans f1)
     clear f1
     have hXn := lt_of_get B1.out
     clear hXn
     obtain ⟨X, hX⟩ : ∃ X, X = V1.heap.size := ⟨_, rfl⟩
     have hXn : w.heap.size + 1 < X := hX ▸ hlB
     rw [← hX] at AX ⊢
     clear hX
     generalize V1.alloc (.cells #[.slice none 0 0, .slice none 0 0, .slice none 0 0, .slice none 0 0] 30) = V4 at *
     refine hK.out _ _ (Or.inr ?_) (fun hHeld => ?_)
     ·exact ⟨cell_of (o := 0) B0.out rfl, cell_of (o := 1) B0.out rfl, cell_of (o := 2) B0.out rfl, cell_of (o := 3) B0.out rfl⟩
     replace hHeld := hHeld.resolve_right (by decide)
     clear hK K
     (try simp only [Act.put, List.getElem_toArray, List.getElem_cons_succ, List.getElem_cons_zero, List.getElem?_toArray, List.getElem?_cons_succ, List.getElem?_cons_zero, List.setIfInBounds_toArray, List.set_cons_zero, List.set_cons_succ])
     refine wpAnyL_ready (rs := [6]) (by kernel_rfl) (by simp) ?_
     refine AllReadyL.cons rfl (fun K hK => ?_) AllReadyL.nil
     refine step_ap rfl (.tmp 8) (.tmp 10) 28 rfl w.heap.size 47 im (.agg #[.int .i64 0, .int .i64 0, .int .i64 0, .bool false]) 4 32 Tryz.underlying28 hmi hmz0 hmz1 hmz2 rfl (by decide) (.slice (some ⟨Z, 0, none⟩) 0 0) 0 [] (by rfl) EB.out (new lo) 47 (.slice na d.net.length ncap) d.net.length (d.net.flatMap encM) (by rfl) ((HV.out.grow FW.out).2.2) (oneM _) (by unfold maxLen; omega) (by omega) FW.out.size ?_
     intro v3 V3 own3 fr3
     rw [Nat.zero_add, List.nil_append] at own3
     obtain ⟨nb, nbcap, rfl⟩ := own_any own3
     have NO := hid own3
     have B0 := hid (fr3.keep _ _ B0.out (.inr (by simp [otag])))
     have B1 := hid (fr3.keep _ _ B1.out (.inr (by simp [otag])))
     have CO := hid (CO.out.tk fr3 (by simp) (by simp) (by simp) (by simp))
     have AX := hid (fr3.keep _ _ AX.out (.inr (by simp [otag])))
     have FW := hid (FW.out.after fr3)
     clear own3 fr3
     refine hK.out _ _ (Or.inr ?_) (fun hHeld => ?_)
     ·exact ⟨cell_of (o := 0) B0.out rfl, cell_of (o := 1) B0.out rfl, cell_of (o := 2) B0.out rfl, cell_of (o := 3) B0.out rfl⟩
     replace hHeld := hHeld.resolve_right (by decide)
     clear hK K
     (try simp only [Act.put, List.getElem_toArray, List.getElem_cons_succ, List.getElem_cons_zero, List.getElem?_toArray, List.getElem?_cons_succ, List.getElem?_cons_zero, List.setIfInBounds_toArray, List.set_cons_zero, List.set_cons_succ])
     refine wpAnyL_take (i := 7) (v := ?_) rfl (by kernel_rfl) (by kernel_rfl) (by kernel_rfl) (by kernel_rfl) (fun _ _ _ h => h) (Or.inl ⟨by rfl, ?_⟩) (by assumption) ?_
     rotate_left
     ·intro w hSw; (try dsimp only at hSw); go_simp; try with_reducible rfl
     (try simp only [Act.put, List.getElem_toArray, List.getElem_cons_succ, List.getElem_cons_zero, List.getElem?_toArray, List.getElem?_cons_succ, List.getElem?_cons_zero, List.setIfInBounds_toArray, List.set_cons_zero, List.set_cons_succ])
     have x0 := fun o => free_of (o := o) AX.out
     have x1 := lt_of_get AX.out
     have x2 := cell_of (o := 0) AX.out rfl
     have x3 := cell_of (o := 1) AX.out rfl
     have x4 := cell_of (o := 2) AX.out rfl
     have x5 := cell_of (o := 3) AX.out rfl
     refine wpAnyL_one (i := 9) (by kernel_rfl) rfl (fun K hK => ?_)
     go_simp
     refine hK.out _ _ (Or.inl rfl) (fun hHeld => ?_)
     clear hK K hHeld
     (try simp only [Act.put, List.getElem_toArray, List.getElem_cons_succ, List.getElem_cons_zero, List.getElem?_toArray, List.getElem?_cons_succ, List.getElem?_cons_zero, List.setIfInBounds_toArray, List.set_cons_zero, List.set_cons_succ])
     refine wpAnyL_done (by kernel_rfl) ?_ _
     have h4 := box4 (u1 := .slice ua d.co.txns.length ucap) (u2 := .slice ub d.co.order.length ubcap) (u3 := .slice none 0 0) (u4 := .slice nb d.net.length nbcap) AX.out
     have FT := box4_fr (u1 := .slice ua d.co.txns.length ucap) (u2 := .slice ub d.co.order.length ubcap) (u3 := .slice none 0 0) (u4 := .slice nb d.net.length nbcap) AX.out
     go_wp2
     go_meet
     exact ⟨X, ua, ucap, ub, ubcap, nb, nbcap, rfl, hXn, h4, CO.out.tk FT (by simp) (by simp) (by simp) (by simp), ownsRow_keep NO.out FT (by simp), box4_ne B0.out (by omega), box4_ne B1.out (by omega), box4_new FW.out (by omega)⟩
   ·go_simp
    have hlB := lt_of_get B1.out
    have f1 : Fr w.heap.size [] V2 (V2.alloc (.cells #[.slice none 0 0, .slice none 0 0, .slice none 0 0, .slice none 0 0] 30)) := (Fr.refl _ _ _).alloc _
    have AX := hid (heap_alloc_new V2 (.cells #[.slice none 0 0, .slice none 0 0, .slice none 0 0, .slice none 0 0] 30))
    have B0 := hid (f1.keep _ _ B0.out (.inr (by simp [otag])))
    have B1 := hid (f1.keep _ _ B1.out (.inr (by simp [otag])))
    have EB := hid (ownsRow_keep EB.out f1 (by simp))
    have FW := hid (FW.out.trans f1)
    clear f1
    have hXn := lt_of_get B1.out
    clear hXn
    obtain ⟨X, hX⟩ : ∃ X, X = V2.heap.size := ⟨_, rfl⟩
    have hXn : w.heap.size + 1 < X := hX ▸ hlB
    rw [← hX] at AX ⊢
    clear hX
    generalize V2.alloc (.cells #[.slice none 0 0, .slice none 0 0, .slice none 0 0, .slice none 0 0] 30) = V4 at *
    refine hK.out _ _ (Or.inr ?_) (fun hHeld => ?_)
    ·exact ⟨cell_of (o := 0) B0.out rfl, cell_of (o := 1) B0.out rfl, cell_of (o := 2) B0.out rfl, cell_of (o := 3) B0.out rfl⟩
    replace hHeld := hHeld.resolve_right (by decide)
    clear hK K
    (try simp only [Act.put, List.getElem_toArray, List.getElem_cons_succ, List.getElem_cons_zero, List.getElem?_toArray, List.getElem?_cons_succ, List.getElem?_cons_zero, List.setIfInBounds_toArray, List.set_cons_zero, List.set_cons_succ])
    refine wpAnyL_ready (rs := [2]) (by kernel_rfl) (by simp) ?_
    refine AllReadyL.cons rfl (fun K hK => ?_) AllReadyL.nil
    go_simp
    go_at_call 67
    refine (l22Copy_any lo _ _ d.co _ (HV.out.1.grow FW.out) WI.out.1).mono ?_
    rintro e V1 ⟨u1, u2, m1, rfl, own1, or1, hm1, hob1, fr1⟩
    have CO := hid ((CoOwn.ofM own1 or1 hob1 hm1).lower FW.out.size)
    clear own1 or1 hm1 hob1
    obtain ⟨ua, ucap, rfl, _, _⟩ := CO.out.reads.1.shape
    obtain ⟨ub, ubcap, rfl, _, _⟩ := CO.out.reads.2.shape
    have B0 := hid (fr1.keep _ _ B0.out (.inr (by simp [otag])))
    have B1 := hid (fr1.keep _ _ B1.out (.inr (by simp [otag])))
    have EB := hid (ownsRow_keep EB.out fr1 (by simp))
    have AX := hid (fr1.keep _ _ AX.out (.inr (by simp [otag])))
    have FW := hid (FW.out.trans fr1.nil)
    clear fr1
    refine hK.out _ _ (Or.inr ?_) (fun hHeld => ?_)
    ·exact ⟨cell_of (o := 0) B0.out rfl, cell_of (o := 1) B0.out rfl, cell_of (o := 2) B0.out rfl, cell_of (o := 3) B0.out rfl⟩
    replace hHeld := hHeld.resolve_right (by decide)
    clear hK K
    (try simp only [Act.put, List.getElem_toArray, List.getElem_cons_succ, List.getElem_cons_zero, List.getElem?_toArray, List.getElem?_cons_succ, List.getElem?_cons_zero, List.setIfInBounds_toArray, List.set_cons_zero, List.set_cons_succ])
    refine wpAnyL_ready (rs := [6]) (by kernel_rfl) (by simp) ?_
    refine AllReadyL.cons rfl (fun K hK => ?_) AllReadyL.nil
    refine step_ap rfl (.tmp 8) (.tmp 10) 28 rfl w.heap.size 47 im (.agg #[.int .i64 0, .int .i64 0, .int .i64 0, .bool false]) 4 32 Tryz.underlying28 hmi hmz0 hmz1 hmz2 rfl (by decide) (.slice (some ⟨Z, 0, none⟩) 0 0) 0 [] (by rfl) EB.out (new lo) 47 (.slice na d.net.length ncap) d.net.length (d.net.flatMap encM) (by rfl) ((HV.out.grow FW.out).2.2) (oneM _) (by unfold maxLen; omega) (by omega) FW.out.size ?_
    intro v3 V3 own3 fr3
    rw [Nat.zero_add, List.nil_append] at own3
    obtain ⟨nb, nbcap, rfl⟩ := own_any own3
    have NO := hid own3
    have B0 := hid (fr3.keep _ _ B0.out (.inr (by simp [otag])))
    have B1 := hid (fr3.keep _ _ B1.out (.inr (by simp [otag])))
    have CO := hid (CO.out.tk fr3 (by simp) (by simp) (by simp) (by simp))
    have AX := hid (fr3.keep _ _ AX.out (.inr (by simp [otag])))
    have FW := hid (FW.out.after fr3)
    clear own3 fr3
    refine hK.out _ _ (Or.inr ?_) (fun hHeld => ?_)
    ·exact ⟨cell_of (o := 0) B0.out rfl, cell_of (o := 1) B0.out rfl, cell_of (o := 2) B0.out rfl, cell_of (o := 3) B0.out rfl⟩
    replace hHeld := hHeld.resolve_right (by decide)
    clear hK K
    (try simp only [Act.put, List.getElem_toArray, List.getElem_cons_succ, List.getElem_cons_zero, List.getElem?_toArray, List.getElem?_cons_succ, List.getElem?_cons_zero, List.setIfInBounds_toArray, List.set_cons_zero, List.set_cons_succ])
    refine wpAnyL_take (i := 7) (v := ?_) rfl (by kernel_rfl) (by kernel_rfl) (by kernel_rfl) (by kernel_rfl) (fun _ _ _ h => h) (Or.inl ⟨by rfl, ?_⟩) (by assumption) ?_
    rotate_left
    ·intro w hSw; (try dsimp only at hSw); go_simp; try with_reducible rfl
    (try simp only [Act.put, List.getElem_toArray, List.getElem_cons_succ, List.getElem_cons_zero, List.getElem?_toArray, List.getElem?_cons_succ, List.getElem?_cons_zero, List.setIfInBounds_toArray, List.set_cons_zero, List.set_cons_succ])
    have x0 := fun o => free_of (o := o) AX.out
    have x1 := lt_of_get AX.out
    have x2 := cell_of (o := 0) AX.out rfl
    have x3 := cell_of (o := 1) AX.out rfl
    have x4 := cell_of (o := 2) AX.out rfl
    have x5 := cell_of (o := 3) AX.out rfl
    refine wpAnyL_one (i := 9) (by kernel_rfl) rfl (fun K hK => ?_)
    go_simp
    refine hK.out _ _ (Or.inl rfl) (fun hHeld => ?_)
    clear hK K hHeld
    (try simp only [Act.put, List.getElem_toArray, List.getElem_cons_succ, List.getElem_cons_zero, List.getElem?_toArray, List.getElem?_cons_succ, List.getElem?_cons_zero, List.setIfInBounds_toArray, List.set_cons_zero, List.set_cons_succ])
    refine wpAnyL_done (by kernel_rfl) ?_ _
    have h4 := box4 (u1 := .slice ua d.co.txns.length ucap) (u2 := .slice ub d.co.order.length ubcap) (u3 := .slice none 0 0) (u4 := .slice nb d.net.length nbcap) AX.out
    have FT := box4_fr (u1 := .slice ua d.co.txns.length ucap) (u2 := .slice ub d.co.order.length ubcap) (u3 := .slice none 0 0) (u4 := .slice nb d.net.length nbcap) AX.out
    go_wp2
    go_meet
    exact ⟨X, ua, ucap, ub, ubcap, nb, nbcap, rfl, hXn, h4, CO.out.tk FT (by simp) (by simp) (by simp) (by simp), ownsRow_keep NO.out FT (by simp), box4_ne B0.out (by omega), box4_ne B1.out (by omega), box4_new FW.out (by omega)⟩
  ·go_simp
   have hlB := lt_of_get B1.out
   have f1 : Fr w.heap.size [] V (V.alloc (.cells #[.slice none 0 0, .slice none 0 0, .slice none 0 0, .slice none 0 0] 30)) := (Fr.refl _ _ _).alloc _
   have AX := hid (heap_alloc_new V (.cells #[.slice none 0 0, .slice none 0 0, .slice none 0 0, .slice none 0 0] 30))
   have B0 := hid (f1.keep _ _ B0.out (.inr (by simp [otag])))
   have B1 := hid (f1.keep _ _ B1.out (.inr (by simp [otag])))
   have FW := hid (FW.out.trans f1)
   clear f1
   have hXn := lt_of_get B1.out
   clear hXn
   obtain ⟨X, hX⟩ : ∃ X, X = V.heap.size := ⟨_, rfl⟩
   have hXn : w.heap.size + 1 < X := hX ▸ hlB
   rw [← hX] at AX ⊢
   clear hX
   generalize V.alloc (.cells #[.slice none 0 0, .slice none 0 0, .slice none 0 0, .slice none 0 0] 30) = V4 at *
   refine hK.out _ _ (Or.inr ?_) (fun hHeld => ?_)
   ·exact ⟨cell_of (o := 0) B0.out rfl, cell_of (o := 1) B0.out rfl, cell_of (o := 2) B0.out rfl, cell_of (o := 3) B0.out rfl⟩
   replace hHeld := hHeld.resolve_right (by decide)
   clear hK K
   (try simp only [Act.put, List.getElem_toArray, List.getElem_cons_succ, List.getElem_cons_zero, List.getElem?_toArray, List.getElem?_cons_succ, List.getElem?_cons_zero, List.setIfInBounds_toArray, List.set_cons_zero, List.set_cons_succ])
   refine wpAnyL_ready (rs := [2, 3]) (by kernel_rfl) (by simp) ?_
   refine AllReadyL.cons rfl (fun K hK => ?_) (AllReadyL.cons rfl (fun K hK => ?_) AllReadyL.nil)
   ·go_simp
    go_at_call 67
    refine (l22Copy_any lo _ _ d.co _ (HV.out.1.grow FW.out) WI.out.1).mono ?_
    rintro e V1 ⟨u1, u2, m1, rfl, own1, or1, hm1, hob1, fr1⟩
    have CO := hid ((CoOwn.ofM own1 or1 hob1 hm1).lower FW.out.size)
    clear own1 or1 hm1 hob1
    obtain ⟨ua, ucap, rfl, _, _⟩ := CO.out.reads.1.shape
    obtain ⟨ub, ubcap, rfl, _, _⟩ := CO.out.reads.2.shape
    have B0 := hid (fr1.keep _ _ B0.out (.inr (by simp [otag])))
    have B1 := hid (fr1.keep _ _ B1.out (.inr (by simp [otag])))
    have AX := hid (fr1.keep _ _ AX.out (.inr (by simp [otag])))
    have FW := hid (FW.out.trans fr1.nil)
    clear fr1
    refine hK.out _ _ (Or.inr ?_) (fun hHeld => ?_)
    ·exact ⟨cell_of (o := 0) B0.out rfl, cell_of (o := 1) B0.out rfl, cell_of (o := 2) B0.out rfl, cell_of (o := 3) B0.out rfl⟩
    replace hHeld := hHeld.resolve_right (by decide)
    clear hK K
    (try simp only [Act.put, List.getElem_toArray, List.getElem_cons_succ, List.getElem_cons_zero, List.getElem?_toArray, List.getElem?_cons_succ, List.getElem?_cons_zero, List.setIfInBounds_toArray, List.set_cons_zero, List.set_cons_succ])
    refine wpAnyL_ready (rs := [3]) (by kernel_rfl) (by simp) ?_
    refine AllReadyL.cons rfl (fun K hK => ?_) AllReadyL.nil
    go_simp
    have f1 : Fr w.heap.size [] V1 (V1.alloc (.cells #[] 47)) := (Fr.refl _ _ _).alloc _
    have EB := hid (show (V1.alloc (.cells #[] 47)).ownsRow w.heap.size 47 4 (.slice (some ⟨V1.heap.size, 0, none⟩) 0 0) 0 [] from World.ownsRow_made V1 #[] 0 FW.out.size (by decide) (by simp))
    have B0 := hid (f1.keep _ _ B0.out (.inr (by simp [otag])))
    have B1 := hid (f1.keep _ _ B1.out (.inr (by simp [otag])))
    have CO := hid (CO.out.tk f1 (by simp) (by simp) (by simp) (by simp))
    have AX := hid (f1.keep _ _ AX.out (.inr (by simp [otag])))
    have FW := hid (FW.out.trans f1)
    clear f1
    obtain ⟨Z, hZ⟩ : ∃ Z, Z = V1.heap.size := ⟨_, rfl⟩
    rw [← hZ] at EB ⊢
    clear hZ
    generalize V1.alloc (.cells #[] 47) = V2 at *
    refine hK.out _ _ (Or.inr ?_) (fun hHeld => ?_)
    ·exact ⟨cell_of (o := 0) B0.out rfl, cell_of (o := 1) B0.out rfl, cell_of (o := 2) B0.out rfl, cell_of (o := 3) B0.out rfl⟩
    replace hHeld := hHeld.resolve_right (by decide)
    clear hK K
    (try simp only [Act.put, List.getElem_toArray, List.getElem_cons_succ, List.getElem_cons_zero, List.getElem?_toArray, List.getElem?_cons_succ, List.getElem?_cons_zero, List.setIfInBounds_toArray, List.set_cons_zero, List.set_cons_succ])
    refine wpAnyL_ready (rs := [6]) (by kernel_rfl) (by simp) ?_
    refine AllReadyL.cons rfl (fun K hK => ?_) AllReadyL.nil
    refine step_ap rfl (.tmp 8) (.tmp 10) 28 rfl w.heap.size 47 im (.agg #[.int .i64 0, .int .i64 0, .int .i64 0, .bool false]) 4 32 Tryz.underlying28 hmi hmz0 hmz1 hmz2 rfl (by decide) (.slice (some ⟨Z, 0, none⟩) 0 0) 0 [] (by rfl) EB.out (new lo) 47 (.slice na d.net.length ncap) d.net.length (d.net.flatMap encM) (by rfl) ((HV.out.grow FW.out).2.2) (oneM _) (by unfold maxLen; omega) (by omega) FW.out.size ?_
    intro v3 V3 own3 fr3
    rw [Nat.zero_add, List.nil_append] at own3
    obtain ⟨nb, nbcap, rfl⟩ := own_any own3
    have NO := hid own3
    have B0 := hid (fr3.keep _ _ B0.out (.inr (by simp [otag])))
    have B1 := hid (fr3.keep _ _ B1.out (.inr (by simp [otag])))
    have CO := hid (CO.out.tk fr3 (by simp) (by simp) (by simp) (by simp))
    have AX := hid (fr3.keep _ _ AX.out (.inr (by simp [otag])))
    have FW := hid (FW.out.after fr3)
    clear own3 fr3
    refine hK.out _ _ (Or.inr ?_) (fun hHeld => ?_)
    ·exact ⟨cell_of (o := 0) B0.out rfl, cell_of (o := 1) B0.out rfl, cell_of (o := 2) B0.out rfl, cell_of (o := 3) B0.out rfl⟩
    replace hHeld := hHeld.resolve_right (by decide)
    clear hK K
    (try simp only [Act.put, List.getElem_toArray, List.getElem_cons_succ, List.getElem_cons_zero, List.getElem?_toArray, List.getElem?_cons_succ, List.getElem?_cons_zero, List.setIfInBounds_toArray, List.set_cons_zero, List.set_cons_succ])
    refine wpAnyL_take (i := 7) (v := ?_) rfl (by kernel_rfl) (by kernel_rfl) (by kernel_rfl) (by kernel_rfl) (fun _ _ _ h => h) (Or.inl ⟨by rfl, ?_⟩) (by assumption) ?_
    rotate_left
    ·intro w hSw; (try dsimp only at hSw); go_simp; try with_reducible rfl
    (try simp only [Act.put, List.getElem_toArray, List.getElem_cons_succ, List.getElem_cons_zero, List.getElem?_toArray, List.getElem?_cons_succ, List.getElem?_cons_zero, List.setIfInBounds_toArray, List.set_cons_zero, List.set_cons_succ])
    have x0 := fun o => free_of (o := o) AX.out
    have x1 := lt_of_get AX.out
    have x2 := cell_of (o := 0) AX.out rfl
    have x3 := cell_of (o := 1) AX.out rfl
    have x4 := cell_of (o := 2) AX.out rfl
    have x5 := cell_of (o := 3) AX.out rfl
    refine wpAnyL_one (i := 9) (by kernel_rfl) rfl (fun K hK => ?_)
    go_simp
    refine hK.out _ _ (Or.inl rfl) (fun hHeld => ?_)
    clear hK K hHeld
    (try simp only [Act.put, List.getElem_toArray, List.getElem_cons_succ, List.getElem_cons_zero, List.getElem?_toArray, List.getElem?_cons_succ, List.getElem?_cons_zero, List.setIfInBounds_toArray, List.set_cons_zero, List.set_cons_succ])
    refine wpAnyL_done (by kernel_rfl) ?_ _
    have h4 := box4 (u1 := .slice ua d.co.txns.length ucap) (u2 := .slice ub d.co.order.length ubcap) (u3 := .slice none 0 0) (u4 := .slice nb d.net.length nbcap) AX.out
    have FT := box4_fr (u1 := .slice ua d.co.txns.length ucap) (u2 := .slice ub d.co.order.length ubcap) (u3 := .slice none 0 0) (u4 := .slice nb d.net.length nbcap) AX.out
    go_wp2
    go_meet
    exact ⟨X, ua, ucap, ub, ubcap, nb, nbcap, rfl, hXn, h4, CO.out.tk FT (by simp) (by simp) (by simp) (by simp), ownsRow_keep NO.out FT (by simp), box4_ne B0.out (by omega), box4_ne B1.out (by omega), box4_new FW.out (by omega)⟩
   ·go_simp
    have f1 : Fr w.heap.size [] V4 (V4.alloc (.cells #[] 47)) := (Fr.refl _ _ _).alloc _
    have EB := hid (show (V4.alloc (.cells #[] 47)).ownsRow w.heap.size 47 4 (.slice (some ⟨V4.heap.size, 0, none⟩) 0 0) 0 [] from World.ownsRow_made V4 #[] 0 FW.out.size (by decide) (by simp))
    have B0 := hid (f1.keep _ _ B0.out (.inr (by simp [otag])))
    have B1 := hid (f1.keep _ _ B1.out (.inr (by simp [otag])))
    have AX := hid (f1.keep _ _ AX.out (.inr (by simp [otag])))
    have FW := hid (FW.out.trans f1)
    clear f1
    obtain ⟨Z, hZ⟩ : ∃ Z, Z = V4.heap.size := ⟨_, rfl⟩
    rw [← hZ] at EB ⊢
    clear hZ
    generalize V4.alloc (.cells #[] 47) = V2 at *
    refine hK.out _ _ (Or.inr ?_) (fun hHeld => ?_)
    ·exact ⟨cell_of (o := 0) B0.out rfl, cell_of (o := 1) B0.out rfl, cell_of (o := 2) B0.out rfl, cell_of (o := 3) B0.out rfl⟩
    replace hHeld := hHeld.resolve_right (by decide)
    clear hK K
    (try simp only [Act.put, List.getElem_toArray, List.getElem_cons_succ, List.getElem_cons_zero, List.getElem?_toArray, List.getElem?_cons_succ, List.getElem?_cons_zero, List.setIfInBounds_toArray, List.set_cons_zero, List.set_cons_succ])
    refine wpAnyL_ready (rs := [2]) (by kernel_rfl) (by simp) ?_
    refine AllReadyL.cons rfl (fun K hK => ?_) AllReadyL.nil
    go_simp
    go_at_call 67
    refine (l22Copy_any lo _ _ d.co _ (HV.out.1.grow FW.out) WI.out.1).mono ?_
    rintro e V1 ⟨u1, u2, m1, rfl, own1, or1, hm1, hob1, fr1⟩
    have CO := hid ((CoOwn.ofM own1 or1 hob1 hm1).lower FW.out.size)
    clear own1 or1 hm1 hob1
    obtain ⟨ua, ucap, rfl, _, _⟩ := CO.out.reads.1.shape
    obtain ⟨ub, ubcap, rfl, _, _⟩ := CO.out.reads.2.shape
    have B0 := hid (fr1.keep _ _ B0.out (.inr (by simp [otag])))
    have B1 := hid (fr1.keep _ _ B1.out (.inr (by simp [otag])))
    have EB := hid (ownsRow_keep EB.out fr1 (by simp))
    have AX := hid (fr1.keep _ _ AX.out (.inr (by simp [otag])))
    have FW := hid (FW.out.trans fr1.nil)
    clear fr1
    refine hK.out _ _ (Or.inr ?_) (fun hHeld => ?_)
    ·exact ⟨cell_of (o := 0) B0.out rfl, cell_of (o := 1) B0.out rfl, cell_of (o := 2) B0.out rfl, cell_of (o := 3) B0.out rfl⟩
    replace hHeld := hHeld.resolve_right (by decide)
    clear hK K
    (try simp only [Act.put, List.getElem_toArray, List.getElem_cons_succ, List.getElem_cons_zero, List.getElem?_toArray, List.getElem?_cons_succ, List.getElem?_cons_zero, List.setIfInBounds_toArray, List.set_cons_zero, List.set_cons_succ])
    refine wpAnyL_ready (rs := [6]) (by kernel_rfl) (by simp) ?_
    refine AllReadyL.cons rfl (fun K hK => ?_) AllReadyL.nil
    refine step_ap rfl (.tmp 8) (.tmp 10) 28 rfl w.heap.size 47 im (.agg #[.int .i64 0, .int .i64 0, .int .i64 0, .bool false]) 4 32 Tryz.underlying28 hmi hmz0 hmz1 hmz2 rfl (by decide) (.slice (some ⟨Z, 0, none⟩) 0 0) 0 [] (by rfl) EB.out (new lo) 47 (.slice na d.net.length ncap) d.net.length (d.net.flatMap encM) (by rfl) ((HV.out.grow FW.out).2.2) (oneM _) (by unfold maxLen; omega) (by omega) FW.out.size ?_
    intro v3 V3 own3 fr3
    rw [Nat.zero_add, List.nil_append] at own3
    obtain ⟨nb, nbcap, rfl⟩ := own_any own3
    have NO := hid own3
    have B0 := hid (fr3.keep _ _ B0.out (.inr (by simp [otag])))
    have B1 := hid (fr3.keep _ _ B1.out (.inr (by simp [otag])))
    have CO := hid (CO.out.tk fr3 (by simp) (by simp) (by simp) (by simp))
    have AX := hid (fr3.keep _ _ AX.out (.inr (by simp [otag])))
    have FW := hid (FW.out.after fr3)
    clear own3 fr3
    refine hK.out _ _ (Or.inr ?_) (fun hHeld => ?_)
    ·exact ⟨cell_of (o := 0) B0.out rfl, cell_of (o := 1) B0.out rfl, cell_of (o := 2) B0.out rfl, cell_of (o := 3) B0.out rfl⟩
    replace hHeld := hHeld.resolve_right (by decide)
    clear hK K
    (try simp only [Act.put, List.getElem_toArray, List.getElem_cons_succ, List.getElem_cons_zero, List.getElem?_toArray, List.getElem?_cons_succ, List.getElem?_cons_zero, List.setIfInBounds_toArray, List.set_cons_zero, List.set_cons_succ])
    refine wpAnyL_take (i := 7) (v := ?_) rfl (by kernel_rfl) (by kernel_rfl) (by kernel_rfl) (by kernel_rfl) (fun _ _ _ h => h) (Or.inl ⟨by rfl, ?_⟩) (by assumption) ?_
    rotate_left
    ·intro w hSw; (try dsimp only at hSw); go_simp; try with_reducible rfl
    (try simp only [Act.put, List.getElem_toArray, List.getElem_cons_succ, List.getElem_cons_zero, List.getElem?_toArray, List.getElem?_cons_succ, List.getElem?_cons_zero, List.setIfInBounds_toArray, List.set_cons_zero, List.set_cons_succ])
    have x0 := fun o => free_of (o := o) AX.out
    have x1 := lt_of_get AX.out
    have x2 := cell_of (o := 0) AX.out rfl
    have x3 := cell_of (o := 1) AX.out rfl
    have x4 := cell_of (o := 2) AX.out rfl
    have x5 := cell_of (o := 3) AX.out rfl
    refine wpAnyL_one (i := 9) (by kernel_rfl) rfl (fun K hK => ?_)
    go_simp
    refine hK.out _ _ (Or.inl rfl) (fun hHeld => ?_)
    clear hK K hHeld
    (try simp only [Act.put, List.getElem_toArray, List.getElem_cons_succ, List.getElem_cons_zero, List.getElem?_toArray, List.getElem?_cons_succ, List.getElem?_cons_zero, List.setIfInBounds_toArray, List.set_cons_zero, List.set_cons_succ])
    refine wpAnyL_done (by kernel_rfl) ?_ _
    have h4 := box4 (u1 := .slice ua d.co.txns.length ucap) (u2 := .slice ub d.co.order.length ubcap) (u3 := .slice none 0 0) (u4 := .slice nb d.net.length nbcap) AX.out
    have FT := box4_fr (u1 := .slice ua d.co.txns.length ucap) (u2 := .slice ub d.co.order.length ubcap) (u3 := .slice none 0 0) (u4 := .slice nb d.net.length nbcap) AX.out
    go_wp2
    go_meet
    exact ⟨X, ua, ucap, ub, ubcap, nb, nbcap, rfl, hXn, h4, CO.out.tk FT (by simp) (by simp) (by simp) (by simp), ownsRow_keep NO.out FT (by simp), box4_ne B0.out (by omega), box4_ne B1.out (by omega), box4_new FW.out (by omega)⟩
 case rest =>
  obtain ⟨X, ua, ucap, ub, ubcap, nb, nbcap, rfl, hX, xb, co, no, b0, b1, fw⟩ := hcut
  have XB := hid xb
  have CO := hid co
  have NO := hid no
  have HX := hid hX
  clear B0 B1 FW xb co no hX
  have B0 := hid b0
  have B1 := hid b1
  have FW := hid fw
  clear b0 b1 fw
  go_wp2
  go_loopw [4] (fun i wr => ∃ (k : Nat) (xa : Option Addr) (xcap : Nat), k ≤ d.shards.length ∧ i = .int .i64 k ∧ wr.heap[X]? = some (.cells #[.slice ua d.co.txns.length ucap, .slice ub d.co.order.length ubcap, .slice xa k xcap, .slice nb d.net.length nbcap] 30 (0, 0)) ∧ ShsOwn w.heap.size wr (.slice xa k xcap) (d.shards.take k) ∧
    CoOwn w.heap.size wr (.slice ua d.co.txns.length ucap) (.slice ub d.co.order.length ubcap) d.co ∧ NetOwn w.heap.size wr (.slice nb d.net.length nbcap) d.net ∧ wr.heap[w.heap.size]? = some (.cells #[.slice ta d.co.txns.length tcap, .slice oa d.co.order.length ocap, .slice sa d.shards.length scap, .slice na d.net.length ncap] 30 (0, 0)) ∧ wr.heap[w.heap.size + 1]? = some (.cells #[.slice none 0 0, .slice none 0 0, .slice none 0 0, .slice none 0 0] 30 (0, 0)) ∧ Fr w.heap.size [] w wr) (fun i _ => d.shards.length - (intOf i).toNat)
  case atStart => exact ⟨0, none, 0, Nat.zero_le _, rfl, XB.out, ShsOwn.nil _ _, CO.out, NO.out, B0.out, B1.out, FW.out⟩
  case round =>
   obtain ⟨k, xa, xcap, hk, rfl, xb, so, co, no, b0, b1, fw⟩ := hrel
   clear XB CO NO B0 B1 FW
   have XB := hid xb
   have SO := hid so
   have CO := hid co
   have NO := hid no
   have B0 := hid b0
   have B1 := hid b1
   have FW := hid fw
   clear xb so co no b0 b1 fw
   have c2 := cell_of (o := 2) B0.out rfl
   have x2 := cell_of (o := 2) XB.out rfl
   have h3 := WI.out.2.1
   by_cases hlt : k < d.shards.length
   ·have hki : (k : Int) < (d.shards.length : Int) := by omega
    rcases HSC.out with h | ⟨sb, soff, rfl, hbs, hcell⟩
    ·rw [h] at hlt; simp at hlt
    obtain ⟨ra, rcap, y0, hrr⟩ := hcell k hlt
    have RR := hid hrr
    have SHI := hid (WI.out.2.2.1 _ (List.getElem_mem hlt))
    have TK := hid (List.take_succ_eq_append_getElem hlt)
    have y1 := FW.out.cell hbs y0
    have hkl : (d.shards.take k).length = k := by rw [List.length_take]; omega
    obtain ⟨zs, z1, z2, z3⟩ := SO.out
    rw [hkl] at z2
    have Z1 := hid z1
    have Z2 := hid z2
    have Z3 := hid z3
    have h3' := hid h3
    have hk3 : k < 3 := by omega
    clear hcell y0 hrr z1 z2 z3 hk h3 hkl
    have HKL := hid (show (d.shards.take k).length = k by rw [List.length_take]; omega)
    generalize d.shards[k] = rs at *
    obtain ⟨W, hW⟩ : ∃ W : World, W = wr := ⟨_, rfl⟩
    go_upto_region 5 with fail
    refine wp_region_L 11 (S := (fun x => x.cell? ⟨X, 2, none⟩ = some (.slice xa k xcap) ∧ x.cell? ⟨w.heap.size, 2, none⟩ = some (.slice (some ⟨sb, soff, none⟩) d.shards.length scap) ∧ x.cell? ⟨sb, soff + k, none⟩ = some (.slice ra rs.length rcap))) (by kernel_rfl) ?_ (fun hHeld => ?_)
    ·exact ⟨x2, c2, y1⟩
    have FD := (Fr.refl w.heap.size [] wr).drew
    replace y1 := FD.cell hbs y1
    replace XB := hid (FD.keep _ _ XB.out (.inr (by simp)))
    replace CO := hid (CO.out.grow FD)
    replace NO := hid (ownsRow_keep NO.out FD (by simp))
    replace B0 := hid (FD.keep _ _ B0.out (.inr (by simp)))
    replace B1 := hid (FD.keep _ _ B1.out (.inr (by simp)))
    replace FW := hid (FW.out.trans FD)
    replace Z2 := hid (ownsRow_keep Z2.out FD (by simp))
    replace Z3 := hid (fun z hz => (Z3.out z hz).tk FD (by simp) (by simp))
    clear FD hW c2 x2 SO
    generalize wr.drew = V at *
    refine wpAnyL_take (i := 0) (v := ?_) rfl (by kernel_rfl) (by kernel_rfl) (by kernel_rfl) (by kernel_rfl) (fun _ _ _ h => h) (Or.inl ⟨by rfl, ?_⟩) (by assumption) ?_
    rotate_left
    ·intro w hSw; (try dsimp only at hSw); go_simp; try with_reducible rfl
    (try simp only [Act.put, List.getElem_toArray, List.getElem_cons_succ, List.getElem_cons_zero, List.getElem?_toArray, List.getElem?_cons_succ, List.getElem?_cons_zero, List.setIfInBounds_toArray, List.set_cons_zero, List.set_cons_succ])
    refine wpAnyL_take (i := 2) (v := ?_) rfl (by kernel_rfl) (by kernel_rfl) (by kernel_rfl) (by kernel_rfl) (fun _ _ _ h => h) (Or.inl ⟨by rfl, ?_⟩) (by assumption) ?_
    rotate_left
    ·intro w hSw; (try dsimp only at hSw); go_simp; try with_reducible rfl
    (try simp only [Act.put, List.getElem_toArray, List.getElem_cons_succ, List.getElem_cons_zero, List.getElem?_toArray, List.getElem?_cons_succ, List.getElem?_cons_zero, List.setIfInBounds_toArray, List.set_cons_zero, List.set_cons_succ])
    refine wpAnyL_take (i := 4) (v := ?_) rfl (by kernel_rfl) (by kernel_rfl) (by kernel_rfl) (by kernel_rfl) (fun _ _ _ h => h) (Or.inl ⟨by rfl, ?_⟩) (by assumption) ?_
    rotate_left
    ·intro w hSw; (try dsimp only at hSw); go_simp; try with_reducible rfl
    (try simp only [Act.put, List.getElem_toArray, List.getElem_cons_succ, List.getElem_cons_zero, List.getElem?_toArray, List.getElem?_cons_succ, List.getElem?_cons_zero, List.setIfInBounds_toArray, List.set_cons_zero, List.set_cons_succ])
    refine wpAnyL_take (i := 1) (v := ?_) rfl (by kernel_rfl) (by kernel_rfl) (by kernel_rfl) (by kernel_rfl) (fun _ _ _ h => h) (Or.inl ⟨by rfl, ?_⟩) (by assumption) ?_
    rotate_left
    ·intro w hSw; (try dsimp only at hSw); go_simp; try with_reducible rfl
    (try simp only [Act.put, List.getElem_toArray, List.getElem_cons_succ, List.getElem_cons_zero, List.getElem?_toArray, List.getElem?_cons_succ, List.getElem?_cons_zero, List.setIfInBounds_toArray, List.set_cons_zero, List.set_cons_succ])
    refine wpAnyL_take (i := 3) (v := ?_) rfl (by kernel_rfl) (by kernel_rfl) (by kernel_rfl) (by kernel_rfl) (fun _ _ _ h => h) (Or.inl ⟨by rfl, ?_⟩) (by assumption) ?_
    rotate_left
    ·intro w hSw; (try dsimp only at hSw); go_simp; try with_reducible rfl
    (try simp only [Act.put, List.getElem_toArray, List.getElem_cons_succ, List.getElem_cons_zero, List.getElem?_toArray, List.getElem?_cons_succ, List.getElem?_cons_zero, List.setIfInBounds_toArray, List.set_cons_zero, List.set_cons_succ])
    refine wpAnyL_take (i := 5) (v := ?_) rfl (by kernel_rfl) (by kernel_rfl) (by kernel_rfl) (by kernel_rfl) (fun _ _ _ h => h) (Or.inl ⟨by rfl, ?_⟩) (by assumption) ?_
    rotate_left
    ·intro w hSw; (try dsimp only at hSw); go_simp; try with_reducible rfl
    (try simp only [Act.put, List.getElem_toArray, List.getElem_cons_succ, List.getElem_cons_zero, List.getElem?_toArray, List.getElem?_cons_succ, List.getElem?_cons_zero, List.setIfInBounds_toArray, List.set_cons_zero, List.set_cons_succ])
    refine wpAnyL_take (i := 6) (v := ?_) rfl (by kernel_rfl) (by kernel_rfl) (by kernel_rfl) (by kernel_rfl) (fun _ _ _ h => h) (Or.inl ⟨by rfl, ?_⟩) (by assumption) ?_
    rotate_left
    ·intro w hSw; (try dsimp only at hSw); go_simp; try with_reducible rfl
    (try simp only [Act.put, List.getElem_toArray, List.getElem_cons_succ, List.getElem_cons_zero, List.getElem?_toArray, List.getElem?_cons_succ, List.getElem?_cons_zero, List.setIfInBounds_toArray, List.set_cons_zero, List.set_cons_succ])
    refine wpAnyL_ready (rs := [7]) (by kernel_rfl) (by simp) ?_
    refine AllReadyL.cons rfl (fun K hK => ?_) AllReadyL.nil
    go_simp
    go_at_call 68
    refine (l21Copy_any (new lo) _ rs _ (RR.out.grow FW.out) SHI.out.small).mono ?_
    rintro e V1 ⟨u6, rfl, own6, fr1⟩
    obtain ⟨pa, pcap, rfl, _, _⟩ := own6.reads.shape
    have PR := hid (own6.reads.weak (new_low (lo' := w.heap.size) FW.out.size))
    have y2 := vote_keep_old hbs y1 fr1 FW.out.size
    have XB := hid (fr1.keep _ _ XB.out (.inr (by simp)))
    have CO := hid (CO.out.grow fr1)
    have NO := hid (ownsRow_keep NO.out fr1 (by simp))
    have B0 := hid (fr1.keep _ _ B0.out (.inr (by simp)))
    have B1 := hid (fr1.keep _ _ B1.out (.inr (by simp)))
    have FW := hid (FW.out.trans fr1.nil)
    have Z2 := hid (ownsRow_keep Z2.out fr1 (by simp))
    have Z3 := hid (fun z hz => (Z3.out z hz).tk fr1 (by simp) (by simp))
    clear own6 fr1
    refine hK.out _ _ (Or.inr ?_) (fun hHeld => ?_)
    ·exact ⟨cell_of (o := 2) XB.out rfl, cell_of (o := 2) B0.out rfl, y2⟩
    replace hHeld := hHeld.resolve_right (by decide)
    clear hK K
    (try simp only [Act.put, List.getElem_toArray, List.getElem_cons_succ, List.getElem_cons_zero, List.getElem?_toArray, List.getElem?_cons_succ, List.getElem?_cons_zero, List.setIfInBounds_toArray, List.set_cons_zero, List.set_cons_succ])
    refine wpAnyL_ready (rs := [8]) (by kernel_rfl) (by simp) ?_
    refine AllReadyL.cons rfl (fun K hK => ?_) AllReadyL.nil
    go_simp
    have f1 : Fr w.heap.size [] V1 (V1.alloc (.cells #[.slice pa rs.length pcap] 81)) := (Fr.refl _ _ _).alloc _
    have LS := hid (SlR.lit (w := V1) (e := 81) (sz := 1) (cs := [.slice pa rs.length pcap]) rfl)
    have PR := hid (PR.out.tk f1 (by simp) (by simp))
    have y3 := f1.cell hbs y2
    have XB := hid (f1.keep _ _ XB.out (.inr (by simp)))
    have CO := hid (CO.out.grow f1)
    have NO := hid (ownsRow_keep NO.out f1 (by simp))
    have B0 := hid (f1.keep _ _ B0.out (.inr (by simp)))
    have B1 := hid (f1.keep _ _ B1.out (.inr (by simp)))
    have FW := hid (FW.out.trans f1)
    have Z2 := hid (ownsRow_keep Z2.out f1 (by simp))
    have Z3 := hid (fun z hz => (Z3.out z hz).tk f1 (by simp) (by simp))
    replace LS : Hid (SlR (new V1.heap.size) 81 1 (V1.alloc (.cells #[.slice pa rs.length pcap] 81)) (.slice (some ⟨V1.heap.size, 0, none⟩) 1 1) 1 [.slice pa rs.length pcap]) := LS
    obtain ⟨Z, hZ⟩ : ∃ Z, Z = V1.heap.size := ⟨_, rfl⟩
    rw [← hZ] at LS ⊢
    clear f1 hZ
    generalize V1.alloc (.cells #[.slice pa rs.length pcap] 81) = V2 at *
    refine hK.out _ _ (Or.inr ?_) (fun hHeld => ?_)
    ·exact ⟨cell_of (o := 2) XB.out rfl, cell_of (o := 2) B0.out rfl, y3⟩
    replace hHeld := hHeld.resolve_right (by decide)
    clear hK K
    (try simp only [Act.put, List.getElem_toArray, List.getElem_cons_succ, List.getElem_cons_zero, List.getElem?_toArray, List.getElem?_cons_succ, List.getElem?_cons_zero, List.setIfInBounds_toArray, List.set_cons_zero, List.set_cons_succ])
    refine wpAnyL_ready (rs := [9]) (by kernel_rfl) (by simp) ?_
    refine AllReadyL.cons rfl (fun K hK => ?_) AllReadyL.nil
    refine step_ap rfl (.tmp 21) (.tmp 28) 27 rfl w.heap.size 81 is (.agg #[.slice none 0 0]) 1 24 Tryz.underlying27 his hsz0 hsz1 hsz2 rfl (by decide) (.slice xa k xcap) k (zs.map (·.2)) (by rfl) Z2.out (new Z) 81 (.slice (some ⟨Z, 0, none⟩) 1 1) 1 [.slice pa rs.length pcap] (by rfl) LS.out (oneSl _ _ _) (by unfold maxLen; omega) (by omega) FW.out.size ?_
    intro v3 V3 own3 fr3
    obtain ⟨xa2, xcap2, rfl⟩ := own_any own3
    have EN := hid (ShsOwn.snoc (lo := w.heap.size) (ss := d.shards.take k) Z1.out (fun z hz => (Z3.out z hz).keep fr3 (Safe.new (by simp)) (Safe.new (by simp))) (PR.out.keep fr3 (Safe.new (by simp)) (Safe.new (by simp))) HKL.out.symm own3)
    have y4 := fr3.cell hbs y3
    have XB := hid (fr3.keep _ _ XB.out (.inr (by simp [otag])))
    have CO := hid (CO.out.tk fr3 (by simp) (by simp) (by simp) (by simp))
    have NO := hid (ownsRow_keep NO.out fr3 (by simp))
    have B0 := hid (fr3.keep _ _ B0.out (.inr (by simp [otag])))
    have B1 := hid (fr3.keep _ _ B1.out (.inr (by simp [otag])))
    have FW := hid (FW.out.after fr3)
    have x2 := cell_of (o := 2) XB.out rfl
    have xf := fun o => free_of (o := o) XB.out
    have xl := lt_of_get XB.out
    clear own3 fr3
    refine hK.out _ _ (Or.inr ?_) (fun hHeld => ?_)
    ·exact ⟨cell_of (o := 2) XB.out rfl, cell_of (o := 2) B0.out rfl, y4⟩
    replace hHeld := hHeld.resolve_right (by decide)
    clear hK K
    (try simp only [Act.put, List.getElem_toArray, List.getElem_cons_succ, List.getElem_cons_zero, List.getElem?_toArray, List.getElem?_cons_succ, List.getElem?_cons_zero, List.setIfInBounds_toArray, List.set_cons_zero, List.set_cons_succ])
    refine wpAnyL_take (i := 10) (v := ?_) rfl (by kernel_rfl) (by kernel_rfl) (by kernel_rfl) (by kernel_rfl) (fun _ _ _ h => h) (Or.inl ⟨by rfl, ?_⟩) (by assumption) ?_
    rotate_left
    ·intro w hSw; (try dsimp only at hSw); go_simp; try with_reducible rfl
    (try simp only [Act.put, List.getElem_toArray, List.getElem_cons_succ, List.getElem_cons_zero, List.getElem?_toArray, List.getElem?_cons_succ, List.getElem?_cons_zero, List.setIfInBounds_toArray, List.set_cons_zero, List.set_cons_succ])
    refine wpAnyL_one (i := 11) (by kernel_rfl) rfl (fun K hK => ?_)
    go_simp
    refine hK.out _ _ (Or.inl rfl) (fun hHeld => ?_)
    clear hK K hHeld
    (try simp only [Act.put, List.getElem_toArray, List.getElem_cons_succ, List.getElem_cons_zero, List.getElem?_toArray, List.getElem?_cons_succ, List.getElem?_cons_zero, List.setIfInBounds_toArray, List.set_cons_zero, List.set_cons_succ])
    refine wpAnyL_done (by kernel_rfl) ?_ _
    have hX := HX.out
    have FT := hid ((Fr.refl 0 [30] V3).setOld (p := ⟨X, 2, none⟩) XB.out (Nat.zero_le _) (by simp [otag]) (.slice xa2 (k + 1) xcap2))
    have XB2 := hid (block_set XB.out 2 (.slice xa2 (k + 1) xcap2))
    clear x2 xf xl y1 y2 y3 y4
    go_wp2
    go_roundw
    case rel => exact ⟨k + 1, xa2, xcap2, by omega, by go_num, by simpa using XB2.out, by rw [TK.out]; exact EN.out.tk FT.out (by simp) (by simp) (by simp), CO.out.tk FT.out (by simp) (by simp) (by simp) (by simp), ownsRow_keep NO.out FT.out (by simp), block_setne B0.out (by dsimp only; omega), block_setne B1.out (by dsimp only; omega), FW.out.setNew (by dsimp only; omega) _⟩
    case measure => simp [intOf]; omega
   ·obtain rfl : k = d.shards.length := by omega
    rw [List.take_length] at SO
    clear c2 x2
    have c2 := cell_of (o := 2) B0.out rfl
    have x0 := cell_of (o := 0) XB.out rfl
    have x1 := cell_of (o := 1) XB.out rfl
    have x2 := cell_of (o := 2) XB.out rfl
    have x3 := cell_of (o := 3) XB.out rfl
    have bf := fun o => free_of (o := o) B1.out
    have bl := lt_of_get B1.out
    have r0 := cell_of (o := 0) B1.out rfl
    have r1 := cell_of (o := 1) B1.out rfl
    have r2 := cell_of (o := 2) B1.out rfl
    have r3 := cell_of (o := 3) B1.out rfl
    clear h3 hscap
    go_wp2
    have h4 := box4 (u1 := .slice ua d.co.txns.length ucap) (u2 := .slice ub d.co.order.length ubcap) (u3 := .slice xa d.shards.length xcap) (u4 := .slice nb d.net.length nbcap) B1.out
    have g0 := cell_of (o := 0) h4 rfl
    have g1 := cell_of (o := 1) h4 rfl
    have g2 := cell_of (o := 2) h4 rfl
    have g3 := cell_of (o := 3) h4 rfl
    have FT := box4_fr (u1 := .slice ua d.co.txns.length ucap) (u2 := .slice ub d.co.order.length ubcap) (u3 := .slice xa d.shards.length xcap) (u4 := .slice nb d.net.length nbcap) B1.out
    exact bodyPost_ret (v := .agg #[.slice ua d.co.txns.length ucap, .slice ub d.co.order.length ubcap, .slice xa d.shards.length xcap, .slice nb d.net.length nbcap]) (by simp [results, Tryz.results32, go_sem, g0, g1, g2, g3]) rfl ⟨_, _, _, _, rfl, CO.out.tk FT (by simp) (by simp) (by simp) (by simp), SO.out.tk FT (by simp) (by simp) (by simp), ownsRow_keep NO.out FT (by simp), box4_new FW.out (by omega)⟩

end Go.Proofs.YtknoanpgadecbaaGreatDoor
