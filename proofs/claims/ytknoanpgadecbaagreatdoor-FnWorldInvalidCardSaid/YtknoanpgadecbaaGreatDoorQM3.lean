/- Plain laws of the shard's state. -/
import Derived.Test.YtknoanpgadecbaaGreatDoorQRefs
import Derived.Test.YtknoanpgadecbaaGreatDoorQValid
import Derived.Deep.DeepMust
import Derived.Deep.RegionHeld3
import Derived.Test.YtknoanpgadecbaaGreatDoorQM1
import Derived.Deep.DeepCutAuto
import Derived.Deep.AppendLies
import Derived.Deep.RegionLaw
import Derived.Test.YtknoanpgadecbaaGreatDoorQM2
set_option linter.unusedVariables false
set_option linter.unusedSimpArgs false
namespace Go.Proofs.YtknoanpgadecbaaGreatDoor
open Go.RowKit

theorem setTo_len4 {refs : List Int} {us : List Upd} (h : refs.length = 4) : (setAll refs us).length = 4 := by simp [setAll, setTo_length, h]

theorem takeAll_len4 {l : List Int} {t : Int} {us : List Upd} (h : l.length = 4) : (takeAll l t us).length = 4 := by simp [takeAll, takeTo_length, h]

theorem step_len {rs : List Rc} {s s' : St} {r : Rc} (h : step rs s r = some s') (h1 : s.refs.length = 4) (h2 : s.locks.length = 4) : s'.refs.length = 4 ∧ s'.locks.length = 4 := by
 unfold step at h
 split at h
 ·split at h
  ·cases h
  ·cases h; exact ⟨h1, takeAll_len4 h2⟩
 ·split at h
  ·split at h
   ·cases h
   ·cases h; exact ⟨setTo_len4 h1, by simp [freed, h2]⟩
  ·split at h
   ·split at h
    ·cases h
    ·cases h; exact ⟨h1, by simp [freed, h2]⟩
   ·cases h

theorem recTo_succ {rs : List Rc} {k : Nat} {s : St} (hs : recTo rs k = some s) (hk : k < rs.length) : recTo rs (k + 1) = if inR rs[k].txn 0 11 then step (rs.take k) s rs[k] else none := by
 simp [recTo, hs, List.getElem?_eq_getElem hk]

theorem recTo_none {rs : List Rc} {k : Nat} (hs : recTo rs k = none) : ∀ n, k ≤ n → recTo rs n = none := by
 intro n
 induction n with
 | zero => intro h; obtain rfl : k = 0 := by omega
           exact hs
 | succ n ih =>
  intro h
  by_cases e : k = n + 1
  ·subst e; exact hs
  ·simp [recTo, ih (by omega)]

theorem recTo_len {rs : List Rc} {k : Nat} {s : St} (hs : recTo rs k = some s) : s.refs.length = 4 ∧ s.locks.length = 4 := by
 induction k generalizing s with
 | zero => cases hs; exact ⟨rfl, rfl⟩
 | succ k ih =>
  cases h : recTo rs k with
  | none => simp [recTo, h] at hs
  | some s0 =>
   by_cases hk : k < rs.length
   ·rw [recTo_succ h hk] at hs
    split at hs
    ·exact step_len hs (ih h).1 (ih h).2
    ·cases hs
   ·simp [recTo, h, List.getElem?_eq_none (Nat.le_of_not_lt hk)] at hs

theorem step_ups {rs : List Rc} {s s' : St} {r : Rc} (h : step rs s r = some s') (hk : r.kind = 1) : updsOk r.ups = true := by
 cases hu : updsOk r.ups with
 | true => rfl
 | false => simp [step, hk, hu] at h

theorem recTo_ok {rs : List Rc} {k : Nat} {s : St} (hs : recTo rs k = some s) : ∀ j (_ : j < k) (hj : j < rs.length), rs[j].kind = 1 → updsOk rs[j].ups = true := by
 induction k generalizing s with
 | zero => intro j hj; omega
 | succ k ih =>
  intro j hjk hj hkind
  cases h : recTo rs k with
  | none => simp [recTo, h] at hs
  | some s0 =>
   by_cases e : j = k
   ·subst e
    rw [recTo_succ h hj] at hs
    split at hs
    ·exact step_ups hs hkind
    ·cases hs
   ·exact ih h j (by omega) hj hkind

theorem upsOf_mem (l : List Rc) (t : Int) : upsOf l t = [] ∨ ∃ r ∈ l, r.kind = 1 ∧ r.txn = t ∧ upsOf l t = r.ups := by
 induction l with
 | nil => exact .inl rfl
 | cons r l ih =>
  simp only [upsOf]
  split
  ·rename_i h; exact .inr ⟨r, List.mem_cons_self, h.2, h.1, rfl⟩
  ·rcases ih with ih | ⟨r', h1, h2, h3, h4⟩
   ·exact .inl ih
   ·exact .inr ⟨r', List.mem_cons_of_mem _ h1, h2, h3, h4⟩

theorem upsOf_in {rs : List Rc} {k : Nat} {s : St} (hs : recTo rs k = some s) (t : Int) : ∀ i (hi : i < (upsOf (rs.take k) t).length), 0 ≤ (upsOf (rs.take k) t)[i].ref ∧ (upsOf (rs.take k) t)[i].ref ≤ 3 := by
 intro i hi
 rcases upsOf_mem (rs.take k) t with h | ⟨r, h1, h2, _, h4⟩
 ·rw [h] at hi; simp at hi
 ·obtain ⟨j, hj, rfl⟩ := List.mem_iff_getElem.1 h1
  simp only [List.length_take] at hj
  simp only [List.getElem_take] at h2 h4
  have := recTo_ok hs j (by omega) (by omega) h2
  simp only [h4]
  exact updsOk_ref this i (by simpa [h4] using hi)

theorem upsOf_len {rs : List Rc} (t : Int) {n k : Nat} (h : ∀ r ∈ rs, r.ups.length ≤ n) : (upsOf (rs.take k) t).length ≤ n := by
 rcases upsOf_mem (rs.take k) t with e | ⟨r, h1, _, _, h4⟩
 ·rw [e]; simp
 ·rw [h4]; exact h r (List.mem_of_mem_take h1)

theorem upsOf_drop {rs : List Rc} {t : Int} {k : Nat} (h : k < rs.length) : upsOf (rs.drop k) t = if rs[k].txn = t ∧ rs[k].kind = 1 then rs[k].ups else upsOf (rs.drop (k + 1)) t := by
 rw [List.drop_eq_getElem_cons h]; rfl

theorem UpsR.empty (K : Nat → Bool → Prop) (w : World) (b cap : Nat) : UpsR K w (.slice (some ⟨b, 0, none⟩) 0 cap) [] :=
 ⟨_, cap, rfl, rfl, Nat.zero_le _, fun h => (by cases h), fun h => absurd h (Nat.lt_irrefl _)⟩

set_option maxHeartbeats 1000000 in
theorem l21Updates_any (K : Nat → Bool → Prop) (v : Value) (rs : List Rc) (t : Int) (w : World) (hv : RecsR K w v rs) (hb : rs.length ≤ 1000000000) :
  Calls Tryz.prog 164 #[v, .int .i64 t] w fun e w' => ∃ v', e = .returned v' ∧ UpsR K w' v' (upsOf rs t) ∧ Fr w.heap.size [] w w' := by
 obtain ⟨a, cap, rfl, hcap, hcell⟩ := hv.shape
 go_enter Tryz.func164, Tryz.ntmps164
 go_wp2
 go_loop [5] (fun i => ∃ k : Nat, k ≤ rs.length ∧ i = .int .i64 k ∧ upsOf (rs.drop k) t = upsOf rs t) (fun i => rs.length - (intOf i).toNat)
 case atStart => exact ⟨0, Nat.zero_le _, rfl, rfl⟩
 case round =>
  obtain ⟨k, hk, rfl, hto⟩ := hrel
  have HT := hid hto
  clear hto
  by_cases hlt : k < rs.length
  ·rcases hcell with rfl | ⟨b, off, rfl, hbs, hcell⟩
   ·simp at hlt
   ·obtain ⟨u, h0, h1, h2, h3⟩ := hcell k hlt
    have HS := hid (upsOf_drop (t := t) hlt)
    have H3 := hid h3
    clear hcell h3
    cases g1 : rs[k].txn == t
    ·have hz := hid (show upsOf (rs.drop (k + 1)) t = upsOf rs t by rw [← HT.out, HS.out, if_neg (by simp at g1; simp [g1])])
     go_wp2
     go_round
     case rel => exact ⟨k + 1, by omega, by go_num, hz.out⟩
     case measure => simp [intOf]; omega
    ·cases g2 : rs[k].kind == 1
     ·have hz := hid (show upsOf (rs.drop (k + 1)) t = upsOf rs t by rw [← HT.out, HS.out, if_neg (by simp at g2; simp [g2])])
      go_wp2
      go_round
      case rel => exact ⟨k + 1, by omega, by go_num, hz.out⟩
      case measure => simp [intOf]; omega
     ·have hz := hid (show upsOf rs t = rs[k].ups by rw [← HT.out, HS.out, if_pos (by simp at g1 g2; exact ⟨g1, g2⟩)])
      go_wp2
      go_ret
      exact ⟨_, rfl, by rw [hz.out]; exact H3.out, Fr.refl _ _ _⟩
  ·obtain rfl : k = rs.length := by omega
   have hz := hid (show upsOf rs t = [] by rw [← HT.out, List.drop_length]; rfl)
   go_wp2
   go_ret
   exact ⟨_, rfl, by rw [hz.out]; exact UpsR.empty _ _ _ _, (Fr.refl _ _ _).alloc _⟩

def TwoOwn (lo : Nat) (w : World) (v1 v2 : Value) (l1 l2 : List Int) : Prop :=
 w.ownsRow lo 3 1 v1 l1.length (l1.map (Value.int .i64)) ∧ w.ownsRow lo 3 1 v2 l2.length (l2.map (Value.int .i64)) ∧ (∀ k, v1.ownBlock = some k → v2.ownBlock ≠ some k)

theorem TwoOwn.first {lo : Nat} {w w' : World} {v1 v2 v1' : Value} {l1 l2 : List Int} {n : Int} (h : TwoOwn lo w v1 v2 l1 l2)
  (hown : w'.ownsRow lo 3 1 v1' (l1.length + 1) (l1.map (Value.int .i64) ++ [.int .i64 n])) (hg : w.grownBy w' v1.ownBlock)
  (hw : v1'.ownBlock = v1.ownBlock ∨ ∀ k, v1'.ownBlock = some k → w.heap.size ≤ k) : TwoOwn lo w' v1' v2 (l1 ++ [n]) l2 := by
 obtain ⟨h1, h2, h3⟩ := h
 refine ⟨by simpa using hown, h2.kept hg ?_, ?_⟩
 ·by_cases e : v2.ownBlock = none
  ·exact .inl e
  ·right; intro e2; cases e3 : v1.ownBlock with
   | none => rw [e3] at e2; exact e e2
   | some k => exact h3 k e3 (by rw [e2, e3])
 ·intro k hk e
  rcases hw with hw | hw
  ·rw [hw] at hk; exact h3 k hk e
  ·have := hw k hk; have := (h2.lt k e).2; omega

theorem TwoOwn.second {lo : Nat} {w w' : World} {v1 v2 v2' : Value} {l1 l2 : List Int} {n : Int} (h : TwoOwn lo w v1 v2 l1 l2)
  (hown : w'.ownsRow lo 3 1 v2' (l2.length + 1) (l2.map (Value.int .i64) ++ [.int .i64 n])) (hg : w.grownBy w' v2.ownBlock)
  (hw : v2'.ownBlock = v2.ownBlock ∨ ∀ k, v2'.ownBlock = some k → w.heap.size ≤ k) : TwoOwn lo w' v1 v2' l1 (l2 ++ [n]) := by
 have h' : TwoOwn lo w v2 v1 l2 l1 := ⟨h.2.1, h.1, fun k hk e => h.2.2 k e hk⟩
 obtain ⟨g1, g2, g3⟩ := h'.first hown hg hw
 exact ⟨g2, g1, fun k hk e => g3 k e hk⟩

theorem TwoOwn.keep {lo B : Nat} {T : List Nat} {w w' : World} {v1 v2 : Value} {l1 l2 : List Int} (h : TwoOwn lo w v1 v2 l1 l2) (hf : Fr B T w w') (hT : 3 ∉ T) : TwoOwn lo w' v1 v2 l1 l2 :=
 ⟨ownsRow_keep h.1 hf hT, ownsRow_keep h.2.1 hf hT, h.2.2⟩

set_option maxHeartbeats 1000000 in
set_option maxRecDepth 20000 in
theorem l21Begin_any (w : World) :
  Calls Tryz.prog 111 #[] w fun e w' => ∃ v1 v2, e = .returned (.agg #[v1, v2]) ∧ TwoOwn w.heap.size w' v1 v2 St.begin.refs St.begin.locks ∧ Fr w.heap.size [] w w' := by
 obtain ⟨i0, hi, hz0, hz1, hz2⟩ := info_parts infoI
 go_enter Tryz.func111, Tryz.ntmps111
 go_wp2
 go_loopw [2] (fun i wr => ∃ (k : Nat) (v1 v2 : Value), k ≤ 4 ∧ i = .int .i64 k ∧ wr.heap[w.heap.size]? = some (.cells #[.slice none 0 0, .slice none 0 0] 133 (0, 0)) ∧
   wr.heap[w.heap.size + 1]? = some (.cells #[v1, v2] 133 (0, 0)) ∧ TwoOwn w.heap.size wr v1 v2 (List.replicate k (-1)) (List.replicate k (-1)) ∧ Fr w.heap.size [] w wr) (fun i _ => 4 - (intOf i).toNat)
 case atStart => exact ⟨0, _, _, by omega, rfl, (Below.heap_alloc _ _ _ (by simp)).trans (heap_alloc_new w _), by have := heap_alloc_new (w.alloc (.cells #[.slice none 0 0, .slice none 0 0] 133)) (.cells #[.slice none 0 0, .slice none 0 0] 133); simpa using this, ⟨World.ownsRow_nil _ _ _ _, World.ownsRow_nil _ _ _ _, fun k hk => by cases hk⟩, ((Fr.refl _ _ _).alloc _).alloc _⟩
 case round =>
  obtain ⟨k, v1, v2, hk, rfl, hb0, hb, htw, hfr⟩ := hrel
  have c1 := cell_of (o := 0) hb rfl
  have c2 := cell_of (o := 1) hb rfl
  have f1 := free_of (o := 0) hb
  have f2 := free_of (o := 1) hb
  have HTW := hid htw
  have HB := hid hb
  have HB0 := hid hb0
  have hsz := hfr.size
  clear htw hb hb0
  by_cases hlt : k < 4
  ·have HL := hid (show (List.replicate k (-1 : Int)).length = k by simp)
   go_wp2_with (first
    | ((at_builtin; refine wpList_push rfl (.tmp 9) (.tmp 10) 24 rfl w.heap.size 3 i0 (.int .i64 0) 1 8 Tryz.underlying24 hi hz0 hz1 hz2 rfl (by decide) _ _ _ HTW.out.1 rfl (oneCell_int _) (by rw [HL.out]; unfold maxLen; omega) (by rw [HL.out]; omega) (by omega) (by rfl) _ (by rfl) (by simp [World.setCell]) ?_; intro u1 w2 hown2 hfr2 hg2); go_must (obtain ⟨g1, cap1, rfl, hg1, hgl1, _⟩ := own_shape hown2 (by omega); have HT2 := hid (HTW.out.first hown2 hg2.1 hg2.2); have HB2 := hid (hfr2.keep _ _ HB.out (.inr (by simp [otag]))); have HB02 := hid (hfr2.keep _ _ HB0.out (.inr (by simp [otag]))); have d1 := cell_of (o := 0) HB2.out rfl; have d2 := cell_of (o := 1) HB2.out rfl; have e1 := free_of (o := 0) HB2.out; have e2 := free_of (o := 1) HB2.out; have hsz2 := hfr2.size; clear hown2 hg2 c1 c2 f1 f2))
    | ((at_builtin; go_must (refine wpList_push rfl (.tmp 14) (.tmp 15) 24 rfl w.heap.size 3 i0 (.int .i64 0) 1 8 Tryz.underlying24 hi hz0 hz1 hz2 rfl (by decide) _ _ _ (HT2.out.keep ((Fr.refl 0 [133] w2).setOld (p := ⟨w.heap.size + 1, 0, none⟩) HB2.out (Nat.zero_le _) (by simp [otag]) _) (by simp)).2.1 rfl (oneCell_int _) (by rw [HL.out]; unfold maxLen; omega) (by rw [HL.out]; omega) (by simp [World.setCell]; omega) (by rfl) _ (by rfl) (by simp [World.setCell]) ?_; intro u3 w4 hown4 hfr4 hg4)); go_must (obtain ⟨g3, cap3, rfl, hg3, hgl3, _⟩ := own_shape hown4 (by omega); have HB4 := hid (hfr4.keep _ _ (block_set HB2.out 0 _) (.inr (by simp [otag]))); have d4 := cell_of (o := 1) HB4.out rfl; have e4 := free_of (o := 1) HB4.out; have HB04 := hid (hfr4.keep _ _ (block_setne HB02.out (by simp)) (.inr (by simp [otag]))); have HT4 := hid ((HT2.out.keep ((Fr.refl 0 [133] w2).setOld (p := ⟨w.heap.size + 1, 0, none⟩) HB2.out (Nat.zero_le _) (by simp [otag]) _) (by simp)).second hown4 hg4.1 hg4.2); clear hown4 hg4 d1 d2 e1 e2)))
   go_roundw
   case rel =>
    have HT5 := HT4.out.keep ((Fr.refl 0 [133] w4).setOld (p := ⟨w.heap.size + 1, 1, none⟩) HB4.out (Nat.zero_le _) (by simp [otag]) (.slice (some ⟨g3, 0, none⟩) (k + 1) cap3)) (by simp)
    rw [← List.replicate_succ', List.length_replicate] at HT5
    exact ⟨k + 1, _, _, by omega, by go_num, block_setne HB04.out (by simp), block_set HB4.out 1 _, HT5, (((hfr.after hfr2).setNew (by simp) _).after hfr4).setNew (by simp) _⟩
   case measure => simp [intOf]; omega
  ·obtain rfl : k = 4 := by omega
   have c01 := cell_of (o := 0) HB0.out rfl
   have c02 := cell_of (o := 1) HB0.out rfl
   have f01 := free_of (o := 0) HB0.out
   have f02 := free_of (o := 1) HB0.out
   obtain ⟨g1, cap1, rfl, hg1, hgl1, _⟩ := own_shape HTW.out.1 (by simp)
   obtain ⟨g3, cap3, rfl, hg3, hgl3, _⟩ := own_shape HTW.out.2.1 (by simp)
   go_wp2
   exact bodyPost_ret (v := .agg #[.slice (some ⟨g1, 0, none⟩) 4 cap1, .slice (some ⟨g3, 0, none⟩) 4 cap3]) (by simp [results, Tryz.results111, go_sem, c01, c02]) rfl
    ⟨_, _, rfl, (HTW.out.keep ((Fr.refl 0 [133] wr).setOld (p := ⟨w.heap.size, 0, none⟩) HB0.out (Nat.zero_le _) (by simp [otag]) _) (by simp)).keep ((Fr.refl 0 [133] _).setOld (p := ⟨w.heap.size, 1, none⟩) (block_set HB0.out 0 _) (Nat.zero_le _) (by simp [otag]) _) (by simp), (hfr.setNew (Nat.le_refl _) _).setNew (Nat.le_refl _) _⟩

def StepPost (lo : Nat) (w : World) (rs : List Rc) (s : St) (r : Rc) (e : Ending) (w' : World) : Prop :=
 ∃ v1 v2 ok s', e = .returned (.tuple #[.agg #[v1, v2], .bool ok]) ∧ IntsR (new lo) w' v1 s'.refs ∧ IntsR (new lo) w' v2 s'.locks ∧
  step rs s r = (if ok then some s' else none) ∧ Fr w.heap.size [] w w'

theorem new_le {lo lo' : Nat} (h : lo' ≤ lo) : ∀ b t, new lo b t → new lo' b t := fun _ _ hb => ⟨Nat.le_trans h hb.1, hb.2⟩

theorem IntsR.ofOwn {lo lo' n : Nat} {w : World} {v : Value} {l : List Int} (h : w.ownsRow lo 3 1 v n (l.map (Value.int .i64))) (hn : n = l.length) (hl : lo' ≤ lo) : IntsR (new lo') w v l := by
 subst hn
 exact (SlR.ofOwns h).weak fun b t _ hb => new_le hl b t hb

theorem taken_length (locks : List Int) (t : Int) (us : List Upd) : (taken locks t us).length = locks.length := by
 unfold taken takeAll; split
 ·exact takeTo_length _ _ _ _
 ·rfl

def Boxes3 (w : World) (n : Nat) (a b c : Obj) : Prop := w.heap[n]? = some a ∧ w.heap[n + 1]? = some b ∧ w.heap[n + 1 + 1]? = some c

theorem Boxes3.made (w : World) (a b c : Obj) : Boxes3 (((w.alloc a).alloc b).alloc c) w.heap.size a b c := by
 refine ⟨?_, ?_, ?_⟩
 ·rw [Below.heap_alloc _ _ _ (by simp; omega), Below.heap_alloc _ _ _ (by simp)]; exact heap_alloc_new w a
 ·rw [Below.heap_alloc _ _ _ (by simp)]; have := heap_alloc_new (w.alloc a) b; simpa using this
 ·have := heap_alloc_new ((w.alloc a).alloc b) c; simpa using this

theorem Boxes3.grow {w w' : World} {n B : Nat} {a b c : Obj} (h : Boxes3 w n a b c) (hf : Fr B [] w w') : Boxes3 w' n a b c :=
 ⟨hf.keep _ _ h.1 (.inr (by simp)), hf.keep _ _ h.2.1 (.inr (by simp)), hf.keep _ _ h.2.2 (.inr (by simp))⟩

set_option maxRecDepth 20000 in
set_option maxHeartbeats 2000000 in
theorem l21Step_1 (K K3 : Nat → Bool → Prop) (lo : Nat) (v v1 v2 vu : Value) (rs : List Rc) (s : St) (r : Rc) (w : World) (hlo : lo ≤ w.heap.size)
  (hv : RecsR K w v rs) (hrs : rs.length ≤ 1000000000) (h1 : IntsR (new lo) w v1 s.refs) (h2 : IntsR (new lo) w v2 s.locks) (h3 : UpsR K3 w vu r.ups) (hus : r.ups.length ≤ 1000000000)
  (hl1 : s.refs.length = 4) (hl2 : s.locks.length = 4) (hup : (upsOf rs r.txn).length ≤ 1000000000) (hin : ∀ k (hk : k < (upsOf rs r.txn).length), 0 ≤ (upsOf rs r.txn)[k].ref ∧ (upsOf rs r.txn)[k].ref ≤ 3) (g1 : (r.kind == 1) = true) :
  Calls Tryz.prog 113 #[v, .agg #[v1, v2], .agg #[.int .i64 r.kind, .int .i64 r.txn, vu]] w (StepPost lo w rs s r) := by
 obtain ⟨ra, rcap, hrv, hrcap, -⟩ := h1.shape
 obtain ⟨la, lcap, hlv, hlcap, -⟩ := h2.shape
 obtain ⟨ua, ucap, huv, hucap, -⟩ := h3.shape
 rw [hl1] at hrv
 rw [hl2] at hlv
 subst hrv hlv huv
 clear hrcap hlcap hucap
 have f0 : Fr w.heap.size [] w (((w.alloc (.cells #[.slice ra 4 rcap, .slice la 4 lcap] 133)).alloc (.cells #[.int .i64 r.kind, .int .i64 r.txn, .slice ua r.ups.length ucap] 94)).alloc (.cells #[.slice none 0 0, .slice none 0 0] 133)) := (((Fr.refl _ _ _).alloc _).alloc _).alloc _
 have hW := Boxes3.made w (.cells #[.slice ra 4 rcap, .slice la 4 lcap] 133) (.cells #[.int .i64 r.kind, .int .i64 r.txn, .slice ua r.ups.length ucap] 94) (.cells #[.slice none 0 0, .slice none 0 0] 133)
 have F0 := hid f0
 have HW := hid hW
 clear f0 hW
 cases g2 : ask rs r.txn != 0
 case true =>
  have hz := hid (show step rs s r = none by simp only [beq_iff_eq, bne_iff_ne] at g1 g2; simp [step, g1, g2])
  go_enter Tryz.func113, Tryz.ntmps113
  go_wp2_with (go_at_call 115; go_must (refine (l21Ask_any K _ rs _ _ (hv.grow F0.out) hrs).mono ?_; rintro e w' ⟨rfl, rfl⟩))
  exact bodyPost_ret (v := .tuple #[.agg #[.slice ra 4 rcap, .slice la 4 lcap], .bool false]) (by simp [results, Tryz.results113, go_sem]) rfl
   ⟨_, _, false, s, rfl, h1.grow ((((Fr.refl 0 _ _).alloc _).alloc _).alloc _), h2.grow ((((Fr.refl 0 _ _).alloc _).alloc _).alloc _), by rw [hz.out]; rfl, (((Fr.refl _ _ _).alloc _).alloc _).alloc _⟩
 case false =>
 cases g3 : updsOk r.ups
 case false =>
  have hz := hid (show step rs s r = none by simp only [beq_iff_eq] at g1; simp [step, g1, g3])
  go_enter Tryz.func113, Tryz.ntmps113
  go_wp2_with (first | (go_at_call 115; go_must (refine (l21Ask_any K _ rs _ _ (hv.grow F0.out) hrs).mono ?_; rintro e w' ⟨rfl, rfl⟩)) | (go_at_call 114; go_must (refine (specUpdatesValid_any K3 _ _ _ (h3.grow F0.out) hus).mono ?_; rintro e w1 ⟨rfl, fr1⟩; have FR1 := hid (F0.out.trans fr1.nil); have HB1 := hid (HW.out.grow fr1); have c1 := cell_of (o := 0) HB1.out.1 rfl; have c2 := cell_of (o := 1) HB1.out.1 rfl; have c3 := cell_of (o := 0) HB1.out.2.1 rfl; have c4 := cell_of (o := 1) HB1.out.2.1 rfl; have c5 := cell_of (o := 2) HB1.out.2.1 rfl; have c6 := cell_of (o := 0) HB1.out.2.2 rfl; have c7 := cell_of (o := 1) HB1.out.2.2 rfl; have c8 := free_of (o := 0) HB1.out.2.2; have c9 := free_of (o := 1) HB1.out.2.2; clear fr1)))
  have FE := hid ((FR1.out.setNew (p := ⟨w.heap.size + 1 + 1, 0, none⟩) (by simp; omega) (.slice ra 4 rcap)).setNew (p := ⟨w.heap.size + 1 + 1, 1, none⟩) (by simp; omega) (.slice la 4 lcap))
  exact bodyPost_ret (v := .tuple #[.agg #[.slice ra 4 rcap, .slice la 4 lcap], .bool false]) (by simp [results, Tryz.results113, go_sem, c6, c7]) rfl
   ⟨_, _, false, s, rfl, h1.grow FE.out, h2.grow FE.out, by rw [hz.out]; rfl, FE.out⟩
 case true =>
 have G3 := hid g3
 cases g4 : fits s.refs r.ups
 case false =>
  have hz := hid (show step rs s r = none by simp only [beq_iff_eq] at g1; simp [step, g1, g4])
  go_enter Tryz.func113, Tryz.ntmps113
  go_wp2_with (first | (go_at_call 115; go_must (refine (l21Ask_any K _ rs _ _ (hv.grow F0.out) hrs).mono ?_; rintro e w' ⟨rfl, rfl⟩)) | (go_at_call 114; go_must (refine (specUpdatesValid_any K3 _ _ _ (h3.grow F0.out) hus).mono ?_; rintro e w1 ⟨rfl, fr1⟩; have FR1 := hid (F0.out.trans fr1.nil); have HB1 := hid (HW.out.grow fr1); have c1 := cell_of (o := 0) HB1.out.1 rfl; have c2 := cell_of (o := 1) HB1.out.1 rfl; have c3 := cell_of (o := 0) HB1.out.2.1 rfl; have c4 := cell_of (o := 1) HB1.out.2.1 rfl; have c5 := cell_of (o := 2) HB1.out.2.1 rfl; have c6 := cell_of (o := 0) HB1.out.2.2 rfl; have c7 := cell_of (o := 1) HB1.out.2.2 rfl; have c8 := free_of (o := 0) HB1.out.2.2; have c9 := free_of (o := 1) HB1.out.2.2; clear fr1)) | (go_at_call 161; go_must (refine (l11Fits_any (new lo) K3 _ _ _ _ _ (h1.grow FR1.out) (h3.grow FR1.out) hus hl1 (updsOk_ref G3.out)).mono ?_; rintro e w2 ⟨rfl, fr2⟩; have FR2 := hid (FR1.out.trans fr2.nil); have HB2 := hid (HB1.out.grow fr2); have d1 := cell_of (o := 0) HB2.out.1 rfl; have d2 := cell_of (o := 1) HB2.out.1 rfl; have d3 := cell_of (o := 0) HB2.out.2.1 rfl; have d4 := cell_of (o := 1) HB2.out.2.1 rfl; have d5 := cell_of (o := 2) HB2.out.2.1 rfl; have d6 := cell_of (o := 0) HB2.out.2.2 rfl; have d7 := cell_of (o := 1) HB2.out.2.2 rfl; have d8 := free_of (o := 0) HB2.out.2.2; have d9 := free_of (o := 1) HB2.out.2.2; clear fr2)))
  have FE := hid ((FR2.out.setNew (p := ⟨w.heap.size + 1 + 1, 0, none⟩) (by simp; omega) (.slice ra 4 rcap)).setNew (p := ⟨w.heap.size + 1 + 1, 1, none⟩) (by simp; omega) (.slice la 4 lcap))
  exact bodyPost_ret (v := .tuple #[.agg #[.slice ra 4 rcap, .slice la 4 lcap], .bool false]) (by simp [results, Tryz.results113, go_sem, d6, d7]) rfl
   ⟨_, _, false, s, rfl, h1.grow FE.out, h2.grow FE.out, by rw [hz.out]; rfl, FE.out⟩
 case true =>
  have hz := hid (show step rs s r = if isFree s.locks r.ups then some ⟨s.refs, taken s.locks r.txn r.ups⟩ else none by
   simp only [beq_iff_eq] at g1
   have g2' : ask rs r.txn = 0 := by simpa using g2
   unfold taken
   cases g5 : isFree s.locks r.ups <;> simp [step, g1, g2', g3, g4, g5])
  cases g5 : isFree s.locks r.ups
  all_goals
   have G5 := hid g5
   go_enter Tryz.func113, Tryz.ntmps113
   go_wp2_with (first | (go_at_call 115; go_must (refine (l21Ask_any K _ rs _ _ (hv.grow F0.out) hrs).mono ?_; rintro e w' ⟨rfl, rfl⟩)) | (go_at_call 114; go_must (refine (specUpdatesValid_any K3 _ _ _ (h3.grow F0.out) hus).mono ?_; rintro e w1 ⟨rfl, fr1⟩; have FR1 := hid (F0.out.trans fr1.nil); have HB1 := hid (HW.out.grow fr1); have c1 := cell_of (o := 0) HB1.out.1 rfl; have c2 := cell_of (o := 1) HB1.out.1 rfl; have c3 := cell_of (o := 0) HB1.out.2.1 rfl; have c4 := cell_of (o := 1) HB1.out.2.1 rfl; have c5 := cell_of (o := 2) HB1.out.2.1 rfl; have c6 := cell_of (o := 0) HB1.out.2.2 rfl; have c7 := cell_of (o := 1) HB1.out.2.2 rfl; have c8 := free_of (o := 0) HB1.out.2.2; have c9 := free_of (o := 1) HB1.out.2.2; clear fr1)) | (go_at_call 161; go_must (refine (l11Fits_any (new lo) K3 _ _ _ _ _ (h1.grow FR1.out) (h3.grow FR1.out) hus hl1 (updsOk_ref G3.out)).mono ?_; rintro e w2 ⟨rfl, fr2⟩; have FR2 := hid (FR1.out.trans fr2.nil); have HB2 := hid (HB1.out.grow fr2); have d1 := cell_of (o := 0) HB2.out.1 rfl; have d2 := cell_of (o := 1) HB2.out.1 rfl; have d3 := cell_of (o := 0) HB2.out.2.1 rfl; have d4 := cell_of (o := 1) HB2.out.2.1 rfl; have d5 := cell_of (o := 2) HB2.out.2.1 rfl; have d6 := cell_of (o := 0) HB2.out.2.2 rfl; have d7 := cell_of (o := 1) HB2.out.2.2 rfl; have d8 := free_of (o := 0) HB2.out.2.2; have d9 := free_of (o := 1) HB2.out.2.2; clear fr2)) | (go_at_call 162; go_must (refine (l12Take_any (new lo) K3 _ _ _ _ _ _ (h2.grow FR2.out) (h3.grow FR2.out) hus hl2 (updsOk_ref G3.out)).mono ?_; rintro e w3 ⟨v3, rfl, own3, fr3⟩; have FR3 := hid (FR2.out.trans fr3.nil); have HB3 := hid (HB2.out.grow fr3); have hz3 := fr3.size; obtain ⟨g3, cap3, rfl, _, _, _⟩ := own_shape own3 (by omega); have OWN3 := hid own3; have e1 := cell_of (o := 0) HB3.out.1 rfl; have e2 := cell_of (o := 1) HB3.out.1 rfl; have e3 := cell_of (o := 0) HB3.out.2.1 rfl; have e4 := cell_of (o := 1) HB3.out.2.1 rfl; have e5 := cell_of (o := 2) HB3.out.2.1 rfl; have e6 := cell_of (o := 0) HB3.out.2.2 rfl; have e7 := cell_of (o := 1) HB3.out.2.2 rfl; have e8 := free_of (o := 0) HB3.out.2.2; have e9 := free_of (o := 1) HB3.out.2.2; clear fr3 own3)))
   have FE := hid ((FR3.out.setNew (p := ⟨w.heap.size + 1 + 1, 0, none⟩) (by simp; omega) (.slice ra 4 rcap)).setNew (p := ⟨w.heap.size + 1 + 1, 1, none⟩) (by simp; omega) (.slice (some ⟨g3, 0, none⟩) 4 cap3))
   have FT := hid (((Fr.refl 0 [133] w3).setOld (p := ⟨w.heap.size + 1 + 1, 0, none⟩) HB3.out.2.2 (Nat.zero_le _) (by simp [otag]) (.slice ra 4 rcap)).setOld (p := ⟨w.heap.size + 1 + 1, 1, none⟩) (block_set HB3.out.2.2 0 _) (Nat.zero_le _) (by simp [otag]) (.slice (some ⟨g3, 0, none⟩) 4 cap3))
   exact bodyPost_ret (v := .tuple #[.agg #[.slice ra 4 rcap, .slice (some ⟨g3, 0, none⟩) 4 cap3], .bool (isFree s.locks r.ups)]) (by simp [results, Tryz.results113, go_sem, e6, e7, G5.out]) rfl
    ⟨_, _, _, ⟨s.refs, taken s.locks r.txn r.ups⟩, rfl, h1.grow FE.out, (IntsR.ofOwn OWN3.out (by rw [taken_length]; exact hl2.symm) (by have := FR2.out.size; omega)).keep FT.out (Safe.new (by simp)), hz.out, FE.out⟩

set_option maxRecDepth 20000 in
set_option maxHeartbeats 2000000 in
theorem l21Step_2 (K K3 : Nat → Bool → Prop) (lo : Nat) (v v1 v2 vu : Value) (rs : List Rc) (s : St) (r : Rc) (w : World) (hlo : lo ≤ w.heap.size)
  (hv : RecsR K w v rs) (hrs : rs.length ≤ 1000000000) (h1 : IntsR (new lo) w v1 s.refs) (h2 : IntsR (new lo) w v2 s.locks) (h3 : UpsR K3 w vu r.ups) (hus : r.ups.length ≤ 1000000000)
  (hl1 : s.refs.length = 4) (hl2 : s.locks.length = 4) (hup : (upsOf rs r.txn).length ≤ 1000000000) (hin : ∀ k (hk : k < (upsOf rs r.txn).length), 0 ≤ (upsOf rs r.txn)[k].ref ∧ (upsOf rs r.txn)[k].ref ≤ 3) (g1 : (r.kind == 1) = false) (g2 : (r.kind == 2) = true) :
  Calls Tryz.prog 113 #[v, .agg #[v1, v2], .agg #[.int .i64 r.kind, .int .i64 r.txn, vu]] w (StepPost lo w rs s r) := by
 obtain ⟨ra, rcap, hrv, hrcap, -⟩ := h1.shape
 obtain ⟨la, lcap, hlv, hlcap, -⟩ := h2.shape
 obtain ⟨ua, ucap, huv, hucap, -⟩ := h3.shape
 rw [hl1] at hrv
 rw [hl2] at hlv
 subst hrv hlv huv
 clear hrcap hlcap hucap
 have f0 : Fr w.heap.size [] w (((w.alloc (.cells #[.slice ra 4 rcap, .slice la 4 lcap] 133)).alloc (.cells #[.int .i64 r.kind, .int .i64 r.txn, .slice ua r.ups.length ucap] 94)).alloc (.cells #[.slice none 0 0, .slice none 0 0] 133)) := (((Fr.refl _ _ _).alloc _).alloc _).alloc _
 have hW := Boxes3.made w (.cells #[.slice ra 4 rcap, .slice la 4 lcap] 133) (.cells #[.int .i64 r.kind, .int .i64 r.txn, .slice ua r.ups.length ucap] 94) (.cells #[.slice none 0 0, .slice none 0 0] 133)
 have F0 := hid f0
 have HW := hid hW
 clear f0 hW
 have n1 : ¬ r.kind = 1 := by simpa using g1
 have N1 := hid n1
 clear n1
 have n2 := hid (show r.kind = 2 by simpa using g2)
 cases g3 : ask rs r.txn != 1
 case true =>
  have hz := hid (show step rs s r = none by have := n2.out; simp only [bne_iff_ne] at g3; simp [step, this, g3])
  go_enter Tryz.func113, Tryz.ntmps113
  go_wp2_with (go_at_call 115; go_must (refine (l21Ask_any K _ rs _ _ (hv.grow F0.out) hrs).mono ?_; rintro e w' ⟨rfl, rfl⟩))
  exact bodyPost_ret (v := .tuple #[.agg #[.slice ra 4 rcap, .slice la 4 lcap], .bool false]) (by simp [results, Tryz.results113, go_sem]) rfl
   ⟨_, _, false, s, rfl, h1.grow ((((Fr.refl 0 _ _).alloc _).alloc _).alloc _), h2.grow ((((Fr.refl 0 _ _).alloc _).alloc _).alloc _), by rw [hz.out]; rfl, (((Fr.refl _ _ _).alloc _).alloc _).alloc _⟩
 case false =>
 have n3 := hid (show ask rs r.txn = 1 by simpa using g3)
 by_cases hu : (0 : Int) < (r.ups.length : Int)
 ·have hz := hid (show step rs s r = none by have := n2.out; have h3 : 0 < r.ups.length := (by omega); simp only [step, this]; simp [h3])
  go_enter Tryz.func113, Tryz.ntmps113
  go_wp2_with (go_at_call 115; go_must (refine (l21Ask_any K _ rs _ _ (hv.grow F0.out) hrs).mono ?_; rintro e w' ⟨rfl, rfl⟩))
  exact bodyPost_ret (v := .tuple #[.agg #[.slice ra 4 rcap, .slice la 4 lcap], .bool false]) (by simp [results, Tryz.results113, go_sem]) rfl
   ⟨_, _, false, s, rfl, h1.grow ((((Fr.refl 0 _ _).alloc _).alloc _).alloc _), h2.grow ((((Fr.refl 0 _ _).alloc _).alloc _).alloc _), by rw [hz.out]; rfl, (((Fr.refl _ _ _).alloc _).alloc _).alloc _⟩
 ·have hz := hid (show step rs s r = some ⟨setAll s.refs (upsOf rs r.txn), freed s.locks r.txn⟩ by have := n2.out; have h3 : ¬ 0 < r.ups.length := (by omega); simp only [step, this]; simp [n3.out, h3])
  have Hin := hid hin
  clear hin
  go_enter Tryz.func113, Tryz.ntmps113
  go_wp2_with (go_at_call 115; go_must (refine (l21Ask_any K _ rs _ _ (hv.grow F0.out) hrs).mono ?_; rintro e w' ⟨rfl, rfl⟩))
  revert F0 HW
  generalize ((w.alloc (.cells #[.slice ra 4 rcap, .slice la 4 lcap] 133)).alloc (.cells #[.int .i64 r.kind, .int .i64 r.txn, .slice ua r.ups.length ucap] 94)).alloc (.cells #[.slice none 0 0, .slice none 0 0] 133) = W
  intro F0 HW
  have HWd := HW.out.grow ((Fr.refl 0 [] W).drew)
  have HFd := F0.out.drew
  go_region_held3 (fun x => x.cell? ⟨w.heap.size, 0, none⟩ = some (.slice ra 4 rcap) ∧ x.cell? ⟨w.heap.size, 1, none⟩ = some (.slice la 4 lcap) ∧ x.cell? ⟨w.heap.size + 1, 1, none⟩ = some (.int .i64 r.txn) ∧ Fr w.heap.size [] w x)
   (first
    | exact ⟨cell_of HWd.1 rfl, cell_of HWd.1 rfl, cell_of HWd.2.1 rfl, HFd⟩
    | exact ⟨cell_of HB3.1 rfl, cell_of HB3.1 rfl, cell_of HB3.2.1 rfl, FR3⟩
    | exact ⟨cell_of HB2.1 rfl, cell_of HB2.1 rfl, cell_of HB2.2.1 rfl, FR2⟩
    | exact ⟨cell_of HB1.1 rfl, cell_of HB1.1 rfl, cell_of HB1.2.1 rfl, FR1⟩
    | exact ⟨cell_of (block_setne (block_setne HB3.1 (by dsimp only; omega)) (by dsimp only; omega)) rfl, cell_of (block_setne (block_setne HB3.1 (by dsimp only; omega)) (by dsimp only; omega)) rfl, cell_of (block_setne (block_setne HB3.2.1 (by dsimp only; omega)) (by dsimp only; omega)) rfl, (FR3.setNew (by dsimp only; omega) _).setNew (by dsimp only; omega) _⟩
    | exact ⟨cell_of (block_setne (block_setne HB2.1 (by dsimp only; omega)) (by dsimp only; omega)) rfl, cell_of (block_setne (block_setne HB2.1 (by dsimp only; omega)) (by dsimp only; omega)) rfl, cell_of (block_setne (block_setne HB2.2.1 (by dsimp only; omega)) (by dsimp only; omega)) rfl, (FR2.setNew (by dsimp only; omega) _).setNew (by dsimp only; omega) _⟩
    | fail)
   (first
    | (go_at_call 164; go_must (refine (l21Updates_any K _ _ _ _ (hv.grow (by assumption)) hrs).mono ?_; rintro e w1 ⟨v1, rfl, own1, fr1⟩; have HB1 := Boxes3.grow (n := w.heap.size) (by assumption) fr1; have FR1 := Fr.trans (a := w) (by assumption) (Fr.nil (B' := w.heap.size) (T := []) fr1); have OWN1 := hid own1; clear own1))
    | (go_at_call 163; go_must (refine (l11Set_any (new lo) K _ _ _ _ _ (h1.grow (by assumption)) (OWN1.out.grow (by first | exact Fr.refl 0 [] _ | assumption)) hup hl1 Hin.out).mono ?_; rintro e w2 ⟨v2, rfl, own2, fr2⟩; obtain ⟨g2, cap2, rfl, _, _, _⟩ := own_shape own2 (by omega); have HB2 := Boxes3.grow (n := w.heap.size) (by assumption) fr2; have FR2 := Fr.trans (a := w) (by assumption) (Fr.nil (B' := w.heap.size) (T := []) fr2); have OWN2 := hid own2; clear own2; have p6 := cell_of (o := 0) HB2.2.2 rfl; have p7 := cell_of (o := 1) HB2.2.2 rfl; have p8 := free_of (o := 0) HB2.2.2; have p9 := free_of (o := 1) HB2.2.2))
    | (go_at_call 165; go_must (refine (l12Free_any (new lo) _ _ _ _ (h2.grow (by assumption)) hl2).mono ?_; rintro e w3 ⟨v3, rfl, own3, fr3⟩; obtain ⟨g3, cap3, rfl, _, _, _⟩ := own_shape own3 (by omega); have HB3 := Boxes3.grow (n := w.heap.size) (by assumption) fr3; have FR3 := Fr.trans (a := w) (by assumption) (Fr.nil (B' := w.heap.size) (T := []) fr3); have OWN3 := hid own3; clear own3; have q6 := cell_of (o := 0) HB3.2.2 rfl; have q7 := cell_of (o := 1) HB3.2.2 rfl; have q8 := free_of (o := 0) HB3.2.2; have q9 := free_of (o := 1) HB3.2.2)))
  go_wp2
  have FE := hid ((FR3.setNew (p := ⟨w.heap.size + 1 + 1, 0, none⟩) (by dsimp only; omega) (.slice (some ⟨g2, 0, none⟩) 4 cap2)).setNew (p := ⟨w.heap.size + 1 + 1, 1, none⟩) (by dsimp only; omega) (.slice (some ⟨g3, 0, none⟩) 4 cap3))
  have FT := hid (((Fr.refl 0 [133] w3).setOld (p := ⟨w.heap.size + 1 + 1, 0, none⟩) HB3.2.2 (Nat.zero_le _) (by simp [otag]) (.slice (some ⟨g2, 0, none⟩) 4 cap2)).setOld (p := ⟨w.heap.size + 1 + 1, 1, none⟩) (block_set HB3.2.2 0 _) (Nat.zero_le _) (by simp [otag]) (.slice (some ⟨g3, 0, none⟩) 4 cap3))
  exact bodyPost_ret (v := .tuple #[.agg #[.slice (some ⟨g2, 0, none⟩) 4 cap2, .slice (some ⟨g3, 0, none⟩) 4 cap3], .bool true]) (by simp [results, Tryz.results113, go_sem, q6, q7]) rfl
   ⟨_, _, true, ⟨setAll s.refs (upsOf rs r.txn), freed s.locks r.txn⟩, rfl, ((IntsR.ofOwn OWN2.out (by simp [setAll, setTo_length, hl1]) (by have := FR1.size; omega)).grow fr3).keep FT.out (Safe.new (by simp)),
    (IntsR.ofOwn OWN3.out (by simp [freed, hl2]) (by have := FR2.size; omega)).keep FT.out (Safe.new (by simp)), hz.out, FE.out⟩

set_option maxRecDepth 20000 in
set_option maxHeartbeats 2000000 in
theorem l21Step_3 (K K3 : Nat → Bool → Prop) (lo : Nat) (v v1 v2 vu : Value) (rs : List Rc) (s : St) (r : Rc) (w : World) (hlo : lo ≤ w.heap.size)
  (hv : RecsR K w v rs) (hrs : rs.length ≤ 1000000000) (h1 : IntsR (new lo) w v1 s.refs) (h2 : IntsR (new lo) w v2 s.locks) (h3 : UpsR K3 w vu r.ups) (hus : r.ups.length ≤ 1000000000)
  (hl1 : s.refs.length = 4) (hl2 : s.locks.length = 4) (hup : (upsOf rs r.txn).length ≤ 1000000000) (hin : ∀ k (hk : k < (upsOf rs r.txn).length), 0 ≤ (upsOf rs r.txn)[k].ref ∧ (upsOf rs r.txn)[k].ref ≤ 3) (g1 : (r.kind == 1) = false) (g2 : (r.kind == 2) = false) :
  Calls Tryz.prog 113 #[v, .agg #[v1, v2], .agg #[.int .i64 r.kind, .int .i64 r.txn, vu]] w (StepPost lo w rs s r) := by
 obtain ⟨ra, rcap, hrv, hrcap, -⟩ := h1.shape
 obtain ⟨la, lcap, hlv, hlcap, -⟩ := h2.shape
 obtain ⟨ua, ucap, huv, hucap, -⟩ := h3.shape
 rw [hl1] at hrv
 rw [hl2] at hlv
 subst hrv hlv huv
 clear hrcap hlcap hucap
 have f0 : Fr w.heap.size [] w (((w.alloc (.cells #[.slice ra 4 rcap, .slice la 4 lcap] 133)).alloc (.cells #[.int .i64 r.kind, .int .i64 r.txn, .slice ua r.ups.length ucap] 94)).alloc (.cells #[.slice none 0 0, .slice none 0 0] 133)) := (((Fr.refl _ _ _).alloc _).alloc _).alloc _
 have hW := Boxes3.made w (.cells #[.slice ra 4 rcap, .slice la 4 lcap] 133) (.cells #[.int .i64 r.kind, .int .i64 r.txn, .slice ua r.ups.length ucap] 94) (.cells #[.slice none 0 0, .slice none 0 0] 133)
 have F0 := hid f0
 have HW := hid hW
 clear f0 hW
 have n1 : ¬ r.kind = 1 := by simpa using g1
 have N1 := hid n1
 clear n1
 have n2 := hid (show ¬ r.kind = 2 by simpa using g2)
 cases g3 : r.kind == 3
 case false =>
  have n3 := hid (show ¬ r.kind = 3 by simpa using g3)
  have hz := hid (show step rs s r = none by simp [step, N1.out, n2.out, n3.out])
  go_enter Tryz.func113, Tryz.ntmps113
  go_wp2_with (go_at_call 115; go_must (refine (l21Ask_any K _ rs _ _ (hv.grow F0.out) hrs).mono ?_; rintro e w' ⟨rfl, rfl⟩))
  exact bodyPost_ret (v := .tuple #[.agg #[.slice ra 4 rcap, .slice la 4 lcap], .bool false]) (by simp [results, Tryz.results113, go_sem]) rfl
   ⟨_, _, false, s, rfl, h1.grow ((((Fr.refl 0 _ _).alloc _).alloc _).alloc _), h2.grow ((((Fr.refl 0 _ _).alloc _).alloc _).alloc _), by rw [hz.out]; rfl, (((Fr.refl _ _ _).alloc _).alloc _).alloc _⟩
 case true =>
  have n3 := hid (show r.kind = 3 by simpa using g3)
  cases g4 : ask rs r.txn != 0
  all_goals cases g5 : ask rs r.txn != 1
  case true.true =>
   have hz := hid (show step rs s r = none by simp only [bne_iff_ne] at g4 g5; simp [step, n3.out, g4, g5])
   go_enter Tryz.func113, Tryz.ntmps113
   go_wp2_with (go_at_call 115; go_must (refine (l21Ask_any K _ rs _ _ (hv.grow F0.out) hrs).mono ?_; rintro e w' ⟨rfl, rfl⟩))
   exact bodyPost_ret (v := .tuple #[.agg #[.slice ra 4 rcap, .slice la 4 lcap], .bool false]) (by simp [results, Tryz.results113, go_sem]) rfl
    ⟨_, _, false, s, rfl, h1.grow ((((Fr.refl 0 _ _).alloc _).alloc _).alloc _), h2.grow ((((Fr.refl 0 _ _).alloc _).alloc _).alloc _), by rw [hz.out]; rfl, (((Fr.refl _ _ _).alloc _).alloc _).alloc _⟩
  all_goals
   have n4 := hid (show ¬ (ask rs r.txn ≠ 0 ∧ ask rs r.txn ≠ 1) by simp only [bne_iff_ne, bne_eq_false_iff_eq] at g4 g5; simp [g4, g5])
   by_cases hu : (0 : Int) < (r.ups.length : Int)
   ·have hz := hid (show step rs s r = none by have h3 : 0 < r.ups.length := (by omega); simp [step, n3.out, h3])
    go_enter Tryz.func113, Tryz.ntmps113
    go_wp2_with (go_at_call 115; go_must (refine (l21Ask_any K _ rs _ _ (hv.grow F0.out) hrs).mono ?_; rintro e w' ⟨rfl, rfl⟩))
    exact bodyPost_ret (v := .tuple #[.agg #[.slice ra 4 rcap, .slice la 4 lcap], .bool false]) (by simp [results, Tryz.results113, go_sem]) rfl
     ⟨_, _, false, s, rfl, h1.grow ((((Fr.refl 0 _ _).alloc _).alloc _).alloc _), h2.grow ((((Fr.refl 0 _ _).alloc _).alloc _).alloc _), by rw [hz.out]; rfl, (((Fr.refl _ _ _).alloc _).alloc _).alloc _⟩
   ·have hz := hid (show step rs s r = some ⟨s.refs, freed s.locks r.txn⟩ by have h3 : ¬ 0 < r.ups.length := (by omega); simp only [step, n3.out]; simp [n4.out, h3])
    go_enter Tryz.func113, Tryz.ntmps113
    go_wp2_with (go_at_call 115; go_must (refine (l21Ask_any K _ rs _ _ (hv.grow F0.out) hrs).mono ?_; rintro e w' ⟨rfl, rfl⟩))
    revert F0 HW
    generalize ((w.alloc (.cells #[.slice ra 4 rcap, .slice la 4 lcap] 133)).alloc (.cells #[.int .i64 r.kind, .int .i64 r.txn, .slice ua r.ups.length ucap] 94)).alloc (.cells #[.slice none 0 0, .slice none 0 0] 133) = W
    intro F0 HW
    have HWd := HW.out.grow ((Fr.refl 0 [] W).drew)
    have HFd := F0.out.drew
    go_region_held3 (fun x => x.cell? ⟨w.heap.size, 0, none⟩ = some (.slice ra 4 rcap) ∧ x.cell? ⟨w.heap.size, 1, none⟩ = some (.slice la 4 lcap) ∧ x.cell? ⟨w.heap.size + 1, 1, none⟩ = some (.int .i64 r.txn) ∧ Fr w.heap.size [] w x)
     (first
      | exact ⟨cell_of HWd.1 rfl, cell_of HWd.1 rfl, cell_of HWd.2.1 rfl, HFd⟩
      | exact ⟨cell_of HB1.1 rfl, cell_of HB1.1 rfl, cell_of HB1.2.1 rfl, FR1⟩
      | exact ⟨cell_of (block_setne (block_setne HB1.1 (by dsimp only; omega)) (by dsimp only; omega)) rfl, cell_of (block_setne (block_setne HB1.1 (by dsimp only; omega)) (by dsimp only; omega)) rfl, cell_of (block_setne (block_setne HB1.2.1 (by dsimp only; omega)) (by dsimp only; omega)) rfl, (FR1.setNew (by dsimp only; omega) _).setNew (by dsimp only; omega) _⟩)
     (first | (go_at_call 165; go_must (refine (l12Free_any (new lo) _ _ _ _ (h2.grow HFd) hl2).mono ?_; rintro e w1 ⟨v1, rfl, own1, fr1⟩; obtain ⟨g1, cap1, rfl, _, _, _⟩ := own_shape own1 (by omega); have HB1 := HWd.grow fr1; have FR1 := HFd.trans fr1.nil; have OWN1 := hid own1; clear own1; have e6 := cell_of (o := 0) HB1.2.2 rfl; have e7 := cell_of (o := 1) HB1.2.2 rfl; have e8 := free_of (o := 0) HB1.2.2; have e9 := free_of (o := 1) HB1.2.2)))
    go_wp2
    have FE := hid ((FR1.setNew (p := ⟨w.heap.size + 1 + 1, 0, none⟩) (by dsimp only; omega) (.slice ra 4 rcap)).setNew (p := ⟨w.heap.size + 1 + 1, 1, none⟩) (by dsimp only; omega) (.slice (some ⟨g1, 0, none⟩) 4 cap1))
    have FT := hid (((Fr.refl 0 [133] w1).setOld (p := ⟨w.heap.size + 1 + 1, 0, none⟩) HB1.2.2 (Nat.zero_le _) (by simp [otag]) (.slice ra 4 rcap)).setOld (p := ⟨w.heap.size + 1 + 1, 1, none⟩) (block_set HB1.2.2 0 _) (Nat.zero_le _) (by simp [otag]) (.slice (some ⟨g1, 0, none⟩) 4 cap1))
    exact bodyPost_ret (v := .tuple #[.agg #[.slice ra 4 rcap, .slice (some ⟨g1, 0, none⟩) 4 cap1], .bool true]) (by simp [results, Tryz.results113, go_sem, e6, e7]) rfl
     ⟨_, _, true, ⟨s.refs, freed s.locks r.txn⟩, rfl, h1.grow FE.out, (IntsR.ofOwn OWN1.out (by simp [freed, hl2]) (by have := HFd.size; omega)).keep FT.out (Safe.new (by simp)), hz.out, FE.out⟩

set_option maxRecDepth 20000 in
set_option maxHeartbeats 2000000 in
theorem l21Step_any (K K3 : Nat → Bool → Prop) (lo : Nat) (v v1 v2 vu : Value) (rs : List Rc) (s : St) (r : Rc) (w : World) (hlo : lo ≤ w.heap.size)
  (hv : RecsR K w v rs) (hrs : rs.length ≤ 1000000000) (h1 : IntsR (new lo) w v1 s.refs) (h2 : IntsR (new lo) w v2 s.locks) (h3 : UpsR K3 w vu r.ups) (hus : r.ups.length ≤ 1000000000)
  (hl1 : s.refs.length = 4) (hl2 : s.locks.length = 4) (hup : (upsOf rs r.txn).length ≤ 1000000000) (hin : ∀ k (hk : k < (upsOf rs r.txn).length), 0 ≤ (upsOf rs r.txn)[k].ref ∧ (upsOf rs r.txn)[k].ref ≤ 3) :
  Calls Tryz.prog 113 #[v, .agg #[v1, v2], .agg #[.int .i64 r.kind, .int .i64 r.txn, vu]] w (StepPost lo w rs s r) := by
 cases g1 : r.kind == 1
 case true => exact l21Step_1 K K3 lo v v1 v2 vu rs s r w hlo hv hrs h1 h2 h3 hus hl1 hl2 hup hin g1
 cases g2 : r.kind == 2
 case true => exact l21Step_2 K K3 lo v v1 v2 vu rs s r w hlo hv hrs h1 h2 h3 hus hl1 hl2 hup hin g1 g2
 exact l21Step_3 K K3 lo v v1 v2 vu rs s r w hlo hv hrs h1 h2 h3 hus hl1 hl2 hup hin g1 g2

def RecoverPost (w : World) (rs : List Rc) (e : Ending) (w' : World) : Prop :=
 ∃ v1 v2 s, e = .returned (.tuple #[.agg #[v1, v2], .bool (valid rs)]) ∧ IntsR (new w.heap.size) w' v1 s.refs ∧ IntsR (new w.heap.size) w' v2 s.locks ∧
  s.refs.length = 4 ∧ s.locks.length = 4 ∧ (∀ s', recover rs = some s' → s = s') ∧ Fr w.heap.size [] w w'

theorem valid_none {rs : List Rc} (h : recover rs = none) : valid rs = false := by simp [valid, h]
theorem valid_some {rs : List Rc} {s : St} (h : recover rs = some s) : valid rs = decide (rs.length ≤ 30) := by simp [valid, h]

set_option maxRecDepth 20000 in
set_option maxHeartbeats 2000000 in
theorem l21Recover_any (K : Nat → Bool → Prop) (v : Value) (rs : List Rc) (w : World) (hv : RecsR K w v rs) (hb : rs.length ≤ 1000000000) (hu : ∀ r ∈ rs, r.ups.length ≤ 1000000000) :
  Calls Tryz.prog 76 #[v] w (RecoverPost w rs) := by
 obtain ⟨a, cap, rfl, hcap, hcell⟩ := hv.shape
 have HU := hid hu
 have HV := hid hv
 clear hu hv
 go_enter Tryz.func76, Tryz.ntmps76
 go_wp2_with (go_at_call 111; go_must (refine (l21Begin_any _).mono ?_; rintro e w1 ⟨v1, v2, rfl, tw, fr⟩; obtain ⟨g1, cap1, rfl, _, _, _⟩ := own_shape tw.1 (by decide); obtain ⟨g2, cap2, rfl, _, _, _⟩ := own_shape tw.2.1 (by decide); have TW := hid tw; have F1 := hid (((Fr.refl w.heap.size [] w).alloc (.cells #[.slice none 0 0, .slice none 0 0] 133)).trans fr.nil); have B0 := hid (fr.keep _ _ (heap_alloc_new w (.cells #[.slice none 0 0, .slice none 0 0] 133)) (.inr (by simp))); have hsz := fr.size; clear tw fr))
 have hsz' : w.heap.size < w1.heap.size := by simp at hsz; omega
 go_loopw [5] (fun i wr => ∃ (k : Nat) (v1 v2 : Value) (s : St), k ≤ rs.length ∧ i = .int .i64 k ∧ recTo rs k = some s ∧ wr.heap[w1.heap.size]? = some (.cells #[v1, v2] 133 (0, 0)) ∧
   wr.heap[w.heap.size]? = some (.cells #[.slice none 0 0, .slice none 0 0] 133 (0, 0)) ∧ IntsR (new w.heap.size) wr v1 s.refs ∧ IntsR (new w.heap.size) wr v2 s.locks ∧ Fr w.heap.size [] w wr) (fun i _ => rs.length - (intOf i).toNat)
 case atStart => exact ⟨0, _, _, St.begin, Nat.zero_le _, rfl, rfl, heap_alloc_new w1 _, (Below.heap_alloc _ _ _ hsz').trans B0.out,
   ((IntsR.ofOwn TW.out.1 rfl (by simp)).grow ((Fr.refl 0 [] w1).alloc _)), ((IntsR.ofOwn TW.out.2.1 rfl (by simp)).grow ((Fr.refl 0 [] w1).alloc _)), F1.out.alloc _⟩
 case round =>
  obtain ⟨k, u1, u2, s, hk, rfl, hrec, hbx, hb0, hi1, hi2, hfr⟩ := hrel
  have HR := hid hrec
  have HX := hid hbx
  have HB := hid hb0
  have H1 := hid hi1
  have H2 := hid hi2
  have c1 := cell_of (o := 0) hbx rfl
  have c2 := cell_of (o := 1) hbx rfl
  have f1 := free_of (o := 0) hbx
  have f2 := free_of (o := 1) hbx
  have d1 := cell_of (o := 0) hb0 rfl
  have d2 := cell_of (o := 1) hb0 rfl
  have e1 := free_of (o := 0) hb0
  have e2 := free_of (o := 1) hb0
  obtain ⟨ra, rcap, rfl, _, _⟩ := hi1.shape
  obtain ⟨la, lcap, rfl, _, _⟩ := hi2.shape
  clear hrec hbx hb0 hi1 hi2
  by_cases hlt : k < rs.length
  ·rcases hcell with rfl | ⟨b, off, rfl, hbs, hcell⟩
   ·simp at hlt
   ·obtain ⟨u, h0, h1, h2, h3⟩ := hcell k hlt
    have k0 := hfr.cell hbs h0
    have k1 := hfr.cell hbs h1
    have k2 := hfr.cell hbs h2
    have H3 := hid h3
    have hbr : b < wr.heap.size := Nat.lt_of_lt_of_le hbs hfr.size
    clear h0 h1 h2 h3 hcell
    cases g1 : inR rs[k].txn 0 11
    ·have hz := hid (show recover rs = none by
      have := recTo_succ HR.out hlt
      rw [g1] at this
      exact recTo_none this _ hlt)
     go_wp2_with (go_at_call 112; go_must (refine (l12Txn_any _ _).mono ?_; rintro e w' ⟨rfl, rfl⟩))
     have FE := hid ((hfr.setNew (p := ⟨w.heap.size, 0, none⟩) (Nat.le_refl _) (.slice ra s.refs.length rcap)).setNew (p := ⟨w.heap.size, 1, none⟩) (Nat.le_refl _) (.slice la s.locks.length lcap))
     have FT := hid (((Fr.refl 0 [133] wr).setOld (p := ⟨w.heap.size, 0, none⟩) HB.out (Nat.zero_le _) (by simp [otag]) (.slice ra s.refs.length rcap)).setOld (p := ⟨w.heap.size, 1, none⟩) (block_set HB.out 0 _) (Nat.zero_le _) (by simp [otag]) (.slice la s.locks.length lcap))
     exact bodyPost_ret (v := .tuple #[.agg #[.slice ra s.refs.length rcap, .slice la s.locks.length lcap], .bool false]) (by simp [results, Tryz.results76, go_sem, d1, d2]) rfl
      ⟨_, _, s, by rw [valid_none hz.out], H1.out.keep FT.out (Safe.new (by simp)), H2.out.keep FT.out (Safe.new (by simp)), (recTo_len HR.out).1, (recTo_len HR.out).2, (fun s' h => by rw [hz.out] at h; cases h), FE.out⟩
    ·go_wp2_with (go_at_call 112; go_must (refine (l12Txn_any _ _).mono ?_; rintro e w' ⟨rfl, rfl⟩))
     have hne1 : w1.heap.size ≠ wr.heap.size := Nat.ne_of_lt (lt_of_get HX.out)
     have hne0 : w.heap.size ≠ wr.heap.size := Nat.ne_of_lt (lt_of_get HB.out)
     have hne2 : b ≠ wr.heap.size := Nat.ne_of_lt hbr
     have hkc : (k : Int) ≤ (cap : Int) := by omega
     have hkn : (k : Int) < (rs.length : Int) := by omega
     have hk0 : (0 : Int) ≤ (k : Int) := by omega
     go_region_held3 (fun x => x.cell? ⟨w1.heap.size, 0, none⟩ = some (.slice ra s.refs.length rcap) ∧ x.cell? ⟨w1.heap.size, 1, none⟩ = some (.slice la s.locks.length lcap) ∧
       x.cell? ⟨b, off + k * 3, none⟩ = some (.int .i64 rs[k].kind) ∧ x.cell? ⟨b, off + k * 3 + 1, none⟩ = some (.int .i64 rs[k].txn) ∧ x.cell? ⟨b, off + k * 3 + 2, none⟩ = some u ∧ Fr wr.heap.size [] wr x)
      (first
       | exact ⟨c1, c2, k0, k1, k2, (Fr.refl _ _ wr).drew⟩
       | exact ⟨cell_alloc c1, cell_alloc c2, cell_alloc k0, cell_alloc k1, cell_alloc k2, ((Fr.refl _ _ wr).alloc _).drew⟩
       | exact ⟨p1, p2, q0, q1, q2, fw2⟩
       | exact ⟨cell_alloc p1, cell_alloc p2, cell_alloc q0, cell_alloc q1, cell_alloc q2, fw2.alloc _⟩
       | exact ⟨cell_of (block_setne (block_setne HX2 hne1) hne1) rfl, cell_of (block_setne (block_setne HX2 hne1) hne1) rfl, cell_setne (cell_setne q0 hne2) hne2, cell_setne (cell_setne q1 hne2) hne2, cell_setne (cell_setne q2 hne2) hne2, (fw2.setNew (Nat.le_refl _) _).setNew (Nat.le_refl _) _⟩)
      (first
       | (go_at_call 113; (with_reducible refine (l21Step_any K K w.heap.size _ _ _ u (rs.take k) s rs[k] wr.drew (hfr.trans (Fr.refl wr.heap.size [] wr).drew.nil).size ((HV.out.grow (hfr.trans (Fr.refl wr.heap.size [] wr).drew.nil)).take rfl hk) (by rw [List.length_take]; omega) (H1.out.grow (Fr.refl wr.heap.size [] wr).drew) (H2.out.grow (Fr.refl wr.heap.size [] wr).drew) (H3.out.grow (hfr.trans (Fr.refl wr.heap.size [] wr).drew.nil)) (HU.out _ (List.getElem_mem _)) (recTo_len HR.out).1 (recTo_len HR.out).2 (upsOf_len _ HU.out) (upsOf_in HR.out _)).mono ?_); go_must (rintro e w2 ⟨x1, x2, ok, s', rfl, r1, r2, hst, fr2⟩; obtain ⟨xa, xcap, rfl, _, _⟩ := r1.shape; obtain ⟨ya, ycap, rfl, _, _⟩ := r2.shape; have HS := hid hst; have R1 := hid r1; have R2 := hid r2; have fw2 : Fr wr.heap.size [] wr w2 := Fr.trans (Fr.refl wr.heap.size [] wr).drew fr2.nil; have HX2 := fw2.keep _ _ HX.out (.inr (by simp)); have HB2 := hid (fw2.keep _ _ HB.out (.inr (by simp))); have FR2 := hfr.trans fw2.nil; have q0 := fw2.cell hbr k0; have q1 := fw2.cell hbr k1; have q2 := fw2.cell hbr k2; have p1 := cell_of (o := 0) HX2 rfl; have p2 := cell_of (o := 1) HX2 rfl; have HN := hid True.intro; clear r1 r2 hst))
       | (go_at_call 113; (with_reducible refine (l21Step_any K K w.heap.size _ _ _ u (rs.take k) s rs[k] (wr.alloc (.cells #[.slice none 0 0, .slice none 0 0] 133)).drew (hfr.trans ((Fr.refl wr.heap.size [] wr).alloc (.cells #[.slice none 0 0, .slice none 0 0] 133)).drew.nil).size ((HV.out.grow (hfr.trans ((Fr.refl wr.heap.size [] wr).alloc (.cells #[.slice none 0 0, .slice none 0 0] 133)).drew.nil)).take rfl hk) (by rw [List.length_take]; omega) (H1.out.grow ((Fr.refl wr.heap.size [] wr).alloc (.cells #[.slice none 0 0, .slice none 0 0] 133)).drew) (H2.out.grow ((Fr.refl wr.heap.size [] wr).alloc (.cells #[.slice none 0 0, .slice none 0 0] 133)).drew) (H3.out.grow (hfr.trans ((Fr.refl wr.heap.size [] wr).alloc (.cells #[.slice none 0 0, .slice none 0 0] 133)).drew.nil)) (HU.out _ (List.getElem_mem _)) (recTo_len HR.out).1 (recTo_len HR.out).2 (upsOf_len _ HU.out) (upsOf_in HR.out _)).mono ?_); go_must (rintro e w2 ⟨x1, x2, ok, s', rfl, r1, r2, hst, fr2⟩; obtain ⟨xa, xcap, rfl, _, _⟩ := r1.shape; obtain ⟨ya, ycap, rfl, _, _⟩ := r2.shape; have HS := hid hst; have R1 := hid r1; have R2 := hid r2; have fw2 : Fr wr.heap.size [] wr w2 := Fr.trans ((Fr.refl wr.heap.size [] wr).alloc (.cells #[.slice none 0 0, .slice none 0 0] 133)).drew fr2.nil; have HX2 := fw2.keep _ _ HX.out (.inr (by simp)); have HB2 := hid (fw2.keep _ _ HB.out (.inr (by simp))); have FR2 := hfr.trans fw2.nil; have q0 := fw2.cell hbr k0; have q1 := fw2.cell hbr k1; have q2 := fw2.cell hbr k2; have p1 := cell_of (o := 0) HX2 rfl; have p2 := cell_of (o := 1) HX2 rfl; have HN := fr2.keep _ _ (show (wr.alloc (.cells #[.slice none 0 0, .slice none 0 0] 133)).drew.heap[_]? = _ from heap_alloc_new wr (.cells #[.slice none 0 0, .slice none 0 0] 133)) (.inr (by simp)); have n1 := cell_of (o := 0) HN rfl; have n2 := cell_of (o := 1) HN rfl; have n3 := free_of (o := 0) HN; have n4 := free_of (o := 1) HN; clear r1 r2 hst)))
     ·have N3 := hid (heap_alloc_new w2 (.cells #[.slice xa s'.refs.length xcap, .slice ya s'.locks.length ycap] 133))
      have T0 := hid ((Below.heap_alloc _ (.cells #[.slice xa s'.refs.length xcap, .slice ya s'.locks.length ycap] 133) _ (lt_of_get HB2.out)).trans HB2.out)
      have T1 := hid ((Below.heap_alloc _ (.cells #[.slice xa s'.refs.length xcap, .slice ya s'.locks.length ycap] 133) _ (lt_of_get HX2)).trans HX2)
      have T3 := hid (H1.out.grow (fw2.nil.trans ((Fr.refl 0 [] w2).alloc (.cells #[.slice xa s'.refs.length xcap, .slice ya s'.locks.length ycap] 133)) : Fr 0 [] wr _))
      have T4 := hid (H2.out.grow (fw2.nil.trans ((Fr.refl 0 [] w2).alloc (.cells #[.slice xa s'.refs.length xcap, .slice ya s'.locks.length ycap] 133)) : Fr 0 [] wr _))
      have T5 := hid (R1.out.grow ((Fr.refl 0 [] w2).alloc (.cells #[.slice xa s'.refs.length xcap, .slice ya s'.locks.length ycap] 133)))
      have T6 := hid (R2.out.grow ((Fr.refl 0 [] w2).alloc (.cells #[.slice xa s'.refs.length xcap, .slice ya s'.locks.length ycap] 133)))
      have FR3 := (hfr.trans fw2.nil).alloc (.cells #[.slice xa s'.refs.length xcap, .slice ya s'.locks.length ycap] 133)
      clear p1 p2 q0 q1 q2 HX2 HB2 FR2 c1 c2 f1 f2 d1 d2 e1 e2 k0 k1 k2
      revert N3 T0 T1 T3 T4 T5 T6 FR3
      generalize w2.alloc (.cells #[.slice xa s'.refs.length xcap, .slice ya s'.locks.length ycap] 133) = W3
      intro N3 T0 T1 T3 T4 T5 T6 FR3
      have t01 := cell_of (o := 0) T0.out rfl
      have t02 := cell_of (o := 1) T0.out rfl
      have t03 := free_of (o := 0) T0.out
      have t04 := free_of (o := 1) T0.out
      have t11 := cell_of (o := 0) T1.out rfl
      have t12 := cell_of (o := 1) T1.out rfl
      have t13 := free_of (o := 0) T1.out
      have t14 := free_of (o := 1) T1.out
      have t21 := cell_of (o := 0) N3.out rfl
      have t22 := cell_of (o := 1) N3.out rfl
      cases ok
      ·have hz := hid (show recover rs = none from recTo_none (by rw [recTo_succ HR.out hlt, g1, HS.out]; rfl) _ hlt)
       go_wp2
       have FE := hid ((FR3.setNew (p := ⟨w.heap.size, 0, none⟩) (Nat.le_refl _) (.slice ra s.refs.length rcap)).setNew (p := ⟨w.heap.size, 1, none⟩) (Nat.le_refl _) (.slice la s.locks.length lcap))
       have FT := hid (((Fr.refl 0 [133] W3).setOld (p := ⟨w.heap.size, 0, none⟩) T0.out (Nat.zero_le _) (by simp [otag]) (.slice ra s.refs.length rcap)).setOld (p := ⟨w.heap.size, 1, none⟩) (block_set T0.out 0 _) (Nat.zero_le _) (by simp [otag]) (.slice la s.locks.length lcap))
       exact bodyPost_ret (v := .tuple #[.agg #[.slice ra s.refs.length rcap, .slice la s.locks.length lcap], .bool false]) (by simp [results, Tryz.results76, go_sem, t01, t02]) rfl
        ⟨_, _, s, by rw [valid_none hz.out], T3.out.keep FT.out (Safe.new (by simp)), T4.out.keep FT.out (Safe.new (by simp)), (recTo_len HR.out).1, (recTo_len HR.out).2, (fun s' h => by rw [hz.out] at h; cases h), FE.out⟩
      ·have hz := hid (show recTo rs (k + 1) = some s' by rw [recTo_succ HR.out hlt, g1, HS.out]; rfl)
       go_wp2
       go_roundw
       case rel =>
        have FT := ((Fr.refl 0 [133] W3).setOld (p := ⟨w1.heap.size, 0, none⟩) T1.out (Nat.zero_le _) (by simp [otag]) (.slice xa s'.refs.length xcap)).setOld (p := ⟨w1.heap.size, 1, none⟩) (block_set T1.out 0 _) (Nat.zero_le _) (by simp [otag]) (.slice ya s'.locks.length ycap)
        exact ⟨k + 1, _, _, s', by omega, by go_num, hz.out, block_set (block_set T1.out 0 _) 1 _, block_setne (block_setne T0.out (Nat.ne_of_lt hsz')) (Nat.ne_of_lt hsz'), T5.out.keep FT (Safe.new (by simp)), T6.out.keep FT (Safe.new (by simp)), (FR3.setNew (Nat.le_of_lt hsz') _).setNew (Nat.le_of_lt hsz') _⟩
       case measure => simp [intOf]; omega
     ·have N3 := hid (block_set (block_set HN 0 (.slice xa s'.refs.length xcap)) 1 (.slice ya s'.locks.length ycap))
      have T0 := hid (block_setne (u := .slice ya s'.locks.length ycap) (p := ⟨wr.heap.size, 1, none⟩) (block_setne (u := .slice xa s'.refs.length xcap) (p := ⟨wr.heap.size, 0, none⟩) HB2.out hne0) hne0)
      have T1 := hid (block_setne (u := .slice ya s'.locks.length ycap) (p := ⟨wr.heap.size, 1, none⟩) (block_setne (u := .slice xa s'.refs.length xcap) (p := ⟨wr.heap.size, 0, none⟩) HX2 hne1) hne1)
      have T3 := hid (H1.out.grow (((fw2.setNew (p := ⟨wr.heap.size, 0, none⟩) (Nat.le_refl _) (.slice xa s'.refs.length xcap)).setNew (p := ⟨wr.heap.size, 1, none⟩) (Nat.le_refl _) (.slice ya s'.locks.length ycap)).nil : Fr 0 [] wr _))
      have T4 := hid (H2.out.grow (((fw2.setNew (p := ⟨wr.heap.size, 0, none⟩) (Nat.le_refl _) (.slice xa s'.refs.length xcap)).setNew (p := ⟨wr.heap.size, 1, none⟩) (Nat.le_refl _) (.slice ya s'.locks.length ycap)).nil : Fr 0 [] wr _))
      have T5 := hid (R1.out.keep (((Fr.refl 0 [133] w2).setOld (p := ⟨wr.heap.size, 0, none⟩) HN (Nat.zero_le _) (by simp [otag]) (.slice xa s'.refs.length xcap)).setOld (p := ⟨wr.heap.size, 1, none⟩) (block_set HN 0 _) (Nat.zero_le _) (by simp [otag]) (.slice ya s'.locks.length ycap)) (Safe.new (by simp)))
      have T6 := hid (R2.out.keep (((Fr.refl 0 [133] w2).setOld (p := ⟨wr.heap.size, 0, none⟩) HN (Nat.zero_le _) (by simp [otag]) (.slice xa s'.refs.length xcap)).setOld (p := ⟨wr.heap.size, 1, none⟩) (block_set HN 0 _) (Nat.zero_le _) (by simp [otag]) (.slice ya s'.locks.length ycap)) (Safe.new (by simp)))
      have FR3 := hfr.trans ((fw2.setNew (p := ⟨wr.heap.size, 0, none⟩) (Nat.le_refl _) (.slice xa s'.refs.length xcap)).setNew (p := ⟨wr.heap.size, 1, none⟩) (Nat.le_refl _) (.slice ya s'.locks.length ycap)).nil
      clear n1 n2 n3 n4 p1 p2 q0 q1 q2 HX2 HB2 FR2 c1 c2 f1 f2 d1 d2 e1 e2 k0 k1 k2
      revert N3 T0 T1 T3 T4 T5 T6 FR3
      generalize (w2.setCell ⟨wr.heap.size, 0, none⟩ (.slice xa s'.refs.length xcap)).setCell ⟨wr.heap.size, 1, none⟩ (.slice ya s'.locks.length ycap) = W3
      intro N3 T0 T1 T3 T4 T5 T6 FR3
      have t01 := cell_of (o := 0) T0.out rfl
      have t02 := cell_of (o := 1) T0.out rfl
      have t03 := free_of (o := 0) T0.out
      have t04 := free_of (o := 1) T0.out
      have t11 := cell_of (o := 0) T1.out rfl
      have t12 := cell_of (o := 1) T1.out rfl
      have t13 := free_of (o := 0) T1.out
      have t14 := free_of (o := 1) T1.out
      have t21 := cell_of (o := 0) N3.out rfl
      have t22 := cell_of (o := 1) N3.out rfl
      cases ok
      ·have hz := hid (show recover rs = none from recTo_none (by rw [recTo_succ HR.out hlt, g1, HS.out]; rfl) _ hlt)
       go_wp2
       have FE := hid ((FR3.setNew (p := ⟨w.heap.size, 0, none⟩) (Nat.le_refl _) (.slice ra s.refs.length rcap)).setNew (p := ⟨w.heap.size, 1, none⟩) (Nat.le_refl _) (.slice la s.locks.length lcap))
       have FT := hid (((Fr.refl 0 [133] W3).setOld (p := ⟨w.heap.size, 0, none⟩) T0.out (Nat.zero_le _) (by simp [otag]) (.slice ra s.refs.length rcap)).setOld (p := ⟨w.heap.size, 1, none⟩) (block_set T0.out 0 _) (Nat.zero_le _) (by simp [otag]) (.slice la s.locks.length lcap))
       exact bodyPost_ret (v := .tuple #[.agg #[.slice ra s.refs.length rcap, .slice la s.locks.length lcap], .bool false]) (by simp [results, Tryz.results76, go_sem, t01, t02]) rfl
        ⟨_, _, s, by rw [valid_none hz.out], T3.out.keep FT.out (Safe.new (by simp)), T4.out.keep FT.out (Safe.new (by simp)), (recTo_len HR.out).1, (recTo_len HR.out).2, (fun s' h => by rw [hz.out] at h; cases h), FE.out⟩
      ·have hz := hid (show recTo rs (k + 1) = some s' by rw [recTo_succ HR.out hlt, g1, HS.out]; rfl)
       go_wp2
       go_roundw
       case rel =>
        have FT := ((Fr.refl 0 [133] W3).setOld (p := ⟨w1.heap.size, 0, none⟩) T1.out (Nat.zero_le _) (by simp [otag]) (.slice xa s'.refs.length xcap)).setOld (p := ⟨w1.heap.size, 1, none⟩) (block_set T1.out 0 _) (Nat.zero_le _) (by simp [otag]) (.slice ya s'.locks.length ycap)
        exact ⟨k + 1, _, _, s', by omega, by go_num, hz.out, block_set (block_set T1.out 0 _) 1 _, block_setne (block_setne T0.out (Nat.ne_of_lt hsz')) (Nat.ne_of_lt hsz'), T5.out.keep FT (Safe.new (by simp)), T6.out.keep FT (Safe.new (by simp)), (FR3.setNew (Nat.le_of_lt hsz') _).setNew (Nat.le_of_lt hsz') _⟩
       case measure => simp [intOf]; omega
  ·obtain rfl : k = rs.length := by omega
   go_wp2
   have FE := hid ((hfr.setNew (p := ⟨w.heap.size, 0, none⟩) (Nat.le_refl _) (.slice ra s.refs.length rcap)).setNew (p := ⟨w.heap.size, 1, none⟩) (Nat.le_refl _) (.slice la s.locks.length lcap))
   have FT := hid (((Fr.refl 0 [133] wr).setOld (p := ⟨w.heap.size, 0, none⟩) HB.out (Nat.zero_le _) (by simp [otag]) (.slice ra s.refs.length rcap)).setOld (p := ⟨w.heap.size, 1, none⟩) (block_set HB.out 0 _) (Nat.zero_le _) (by simp [otag]) (.slice la s.locks.length lcap))
   exact bodyPost_ret (v := .tuple #[.agg #[.slice ra s.refs.length rcap, .slice la s.locks.length lcap], .bool (decide ((rs.length : Int) ≤ 30))]) (by simp [results, Tryz.results76, go_sem, d1, d2]) rfl
      ⟨_, _, s, by rw [valid_some (s := s) HR.out, show decide ((rs.length : Int) ≤ 30) = decide (rs.length ≤ 30) from decide_eq_decide.2 (by omega)], H1.out.keep FT.out (Safe.new (by simp)), H2.out.keep FT.out (Safe.new (by simp)), (recTo_len HR.out).1, (recTo_len HR.out).2, (fun s' h => by rw [show recover rs = some s from HR.out] at h; cases h; rfl), FE.out⟩

def Small (rs : List Rc) : Prop := rs.length ≤ 1000000000 ∧ ∀ r ∈ rs, r.ups.length ≤ 1000000000

set_option maxRecDepth 20000 in
set_option maxHeartbeats 2000000 in
theorem specShardValid_any (K : Nat → Bool → Prop) (v : Value) (rs : List Rc) (w : World) (hv : RecsR K w v rs) (hs : Small rs) :
  Calls Tryz.prog 48 #[.agg #[v]] w fun e w' => e = .returned (.bool (valid rs)) ∧ Fr w.heap.size [] w w' := by
 obtain ⟨a, cap, rfl, hcap, -⟩ := hv.shape
 have HV := hid hv
 have HS := hid hs
 clear hv hs
 go_enter Tryz.func48, Tryz.ntmps48
 go_wp2_with (go_at_call 76; go_must (refine (l21Recover_any K _ rs _ (HV.out.grow ((Fr.refl 0 [] w).alloc _)) HS.out.1 HS.out.2).mono ?_; rintro e w1 ⟨v1, v2, s, rfl, r1, r2, l1, l2, hx, fr1⟩; obtain ⟨xa, xcap, rfl, _, _⟩ := r1.shape; obtain ⟨ya, ycap, rfl, _, _⟩ := r2.shape; clear r1 r2 hx))
 go_ret
 exact ⟨rfl, (((Fr.refl _ _ _).alloc _).trans fr1.nil).alloc _⟩

theorem infoU : (Tryz.prog.info? 97).map (fun i => (i.zero, i.size, i.bytes)) = some (some (.agg #[.int .i64 0, .int .i64 0, .int .i64 0]), 3, 24) := by kernel_rfl
theorem infoR : (Tryz.prog.info? 94).map (fun i => (i.zero, i.size, i.bytes)) = some (some (.agg #[.int .i64 0, .int .i64 0, .slice none 0 0]), 3, 40) := by kernel_rfl

theorem oneU (us : List Upd) : ∀ u ∈ us.flatMap encU, u.oneCell' = true := by
 intro u hu
 obtain ⟨x, _, hx⟩ := List.mem_flatMap.1 hu
 simp [encU] at hx
 rcases hx with rfl | rfl | rfl <;> rfl

def RecsOwn (lo : Nat) (w : World) (v : Value) (rs : List Rc) : Prop :=
 ∃ zs : List (Rc × Value), zs.map (·.1) = rs ∧ w.ownsRow lo 94 3 v rs.length (zs.flatMap encR) ∧ ∀ z ∈ zs, UpsR (new lo) w z.2 z.1.ups

theorem RecsOwn.reads {lo : Nat} {w : World} {v : Value} {rs : List Rc} (h : RecsOwn lo w v rs) : RecsR (new lo) w v rs := by
 obtain ⟨zs, h1, h2, h3⟩ := h
 exact ⟨zs, h1, SlR.ofOwns h2, h3⟩

theorem RecsOwn.keep {lo B : Nat} {T : List Nat} {w w' : World} {v : Value} {rs : List Rc} (h : RecsOwn lo w v rs) (hf : Fr B T w w') (h1 : 94 ∉ T) (h2 : 97 ∉ T) : RecsOwn lo w' v rs := by
 obtain ⟨zs, g1, g2, g3⟩ := h
 exact ⟨zs, g1, ownsRow_keep g2 hf h1, fun z hz => (g3 z hz).keep hf (Safe.new h2)⟩

theorem RecsOwn.grow {lo B : Nat} {w w' : World} {v : Value} {rs : List Rc} (h : RecsOwn lo w v rs) (hf : Fr B [] w w') : RecsOwn lo w' v rs := h.keep hf (by simp) (by simp)

theorem RecsOwn.lower {lo lo' : Nat} {w : World} {v : Value} {rs : List Rc} (h : RecsOwn lo w v rs) (hl : lo' ≤ lo) : RecsOwn lo' w v rs := by
 obtain ⟨zs, g1, g2, g3⟩ := h
 exact ⟨zs, g1, ownsRow_lo g2 hl, fun z hz => (g3 z hz).weak fun b t _ hb => new_le hl b t hb⟩

theorem RecsOwn.nil (lo : Nat) (w : World) : RecsOwn lo w (.slice none 0 0) [] := ⟨[], rfl, World.ownsRow_nil _ _ _ _, fun z hz => by cases hz⟩

theorem RecsOwn.empty {w : World} {n : Nat} (h : n = w.heap.size) : RecsOwn n (w.alloc (.cells #[] 94)) (.slice (some ⟨n, 0, none⟩) 0 0) [] := by
 subst h
 exact ⟨[], rfl, World.ownsRow_made w #[] 0 (Nat.le_refl _) (by decide) (by simp), fun z hz => by cases hz⟩

theorem UpsR.one {K : Nat → Bool → Prop} {w : World} {v : Value} {us : List Upd} (h : UpsR K w v us) : v.oneCell' = true := by
 obtain ⟨a, cap, rfl, _⟩ := h
 rfl

theorem oneR {K : Nat → Bool → Prop} {w : World} {v : Value} {us : List Upd} (h : UpsR K w v us) (k t : Int) : ∀ u ∈ [Value.int .i64 k, .int .i64 t, v], u.oneCell' = true := by
 intro u hu
 simp at hu
 rcases hu with rfl | rfl | rfl
 ·rfl
 ·rfl
 ·exact h.one

theorem RecsOwn.snoc {lo n : Nat} {w' : World} {v' : Value} {rs : List Rc} {r : Rc} {u : Value} {zs : List (Rc × Value)} (g1 : zs.map (·.1) = rs) (g3 : ∀ z ∈ zs, UpsR (new lo) w' z.2 z.1.ups)
  (hu : UpsR (new lo) w' u r.ups) (hn : n = rs.length) (hown : w'.ownsRow lo 94 3 v' (n + 1) (zs.flatMap encR ++ [.int .i64 r.kind, .int .i64 r.txn, u])) : RecsOwn lo w' v' (rs ++ [r]) := by
 subst hn
 refine ⟨zs ++ [(r, u)], by simp [g1], ?_, fun z hz => ?_⟩
 ·rw [List.flatMap_append, List.length_append]
  simpa [encR] using hown
 ·rcases List.mem_append.1 hz with hz | hz
  ·exact g3 z hz
  ·simp at hz; subst hz; exact hu

theorem UpsR.ofOwn {lo lo' n : Nat} {w : World} {v : Value} {us : List Upd} (h : w.ownsRow lo 97 3 v n (us.flatMap encU)) (hn : n = us.length) (hl : lo' ≤ lo) : UpsR (new lo') w v us := by
 subst hn
 exact (SlR.ofOwns h).weak fun b t _ hb => new_le hl b t hb

set_option maxRecDepth 20000 in
set_option maxHeartbeats 2000000 in
theorem l21Copy_any (K : Nat → Bool → Prop) (v : Value) (rs : List Rc) (w : World) (hv : RecsR K w v rs) (hs : Small rs) :
  Calls Tryz.prog 68 #[.agg #[v]] w fun e w' => ∃ v', e = .returned (.agg #[v']) ∧ RecsOwn w.heap.size w' v' rs ∧ Fr w.heap.size [] w w' := by
 obtain ⟨a, cap, rfl, hcap, hcell⟩ := hv.shape
 obtain ⟨iu, hui, huz0, huz1, huz2⟩ := info_parts infoU
 obtain ⟨ir, hri, hrz0, hrz1, hrz2⟩ := info_parts infoR
 have HS := hid hs
 have hsl := hs.1
 clear hs
 go_enter Tryz.func68, Tryz.ntmps68
 go_wp2
 go_loopw [4] (fun i wr => ∃ (k : Nat) (u : Value), k ≤ rs.length ∧ i = .int .i64 k ∧ wr.heap[w.heap.size]? = some (.cells #[.slice a rs.length cap] 81 (0, 0)) ∧ wr.heap[w.heap.size + 1]? = some (.cells #[.slice none 0 0] 81 (0, 0)) ∧
   wr.heap[w.heap.size + 1 + 1 + 1]? = some (.cells #[u] 81 (0, 0)) ∧ RecsOwn w.heap.size wr u (rs.take k) ∧ Fr w.heap.size [] w wr) (fun i _ => rs.length - (intOf i).toNat)
 case atStart => exact ⟨0, _, Nat.zero_le _, rfl, heap_up (heap_up (heap_up (heap_alloc_new w _) _) _) _, heap_up (heap_up (heap_alloc_eq _ _ (by simp)) _) _, heap_alloc_eq _ _ (by simp),
   ((RecsOwn.empty (w := (w.alloc (.cells #[.slice a rs.length cap] 81)).alloc (.cells #[.slice none 0 0] 81)) (n := w.heap.size + 1 + 1) (by simp)).lower (lo' := w.heap.size) (by omega)).grow ((Fr.refl 0 [] _).alloc _), ((((Fr.refl _ _ _).alloc _).alloc _).alloc _).alloc _⟩
 case round =>
  obtain ⟨k, u, hk, rfl, b0, b1, b2, hown, hfr⟩ := hrel
  have B0 := hid b0
  have B1 := hid b1
  have B2 := hid b2
  have OWN := hid hown
  have c0 := cell_of (o := 0) b0 rfl
  have c1 := cell_of (o := 0) b1 rfl
  have f1 := free_of (o := 0) b1
  have c2 := cell_of (o := 0) b2 rfl
  have f2 := free_of (o := 0) b2
  clear b0 b1 b2 hown
  by_cases hlt : k < rs.length
  ·rcases hcell with rfl | ⟨b, off, rfl, hbs, hcell⟩
   ·simp at hlt
   ·obtain ⟨x, h0, h1, h2, h3⟩ := hcell k hlt
    obtain ⟨xa, xcap, rfl, hxc, -⟩ := h3.shape
    have k0 := hfr.cell hbs h0
    have k1 := hfr.cell hbs h1
    have k2 := hfr.cell hbs h2
    have H3 := hid h3
    have hul := HS.out.2 _ (List.getElem_mem hlt)
    have hbr : b < wr.heap.size := Nat.lt_of_lt_of_le hbs hfr.size
    clear h0 h1 h2 h3 hcell
    obtain ⟨zs, z1, z2, z3⟩ := id OWN.out
    have hzl : (rs.take k).length = k := by rw [List.length_take]; omega
    rw [hzl] at z2
    have Z1 := hid z1
    have Z2 := hid z2
    have Z3 := hid z3
    have hsz := hfr.size
    clear z1 z2 z3 hzl
    go_wp2_with (first
     | ((at_builtin; refine wpList_clone rfl (.tmp 20) (.tmp 22) 52 rfl 97 iu (.agg #[.int .i64 0, .int .i64 0, .int .i64 0]) 3 24 Tryz.underlying52 hui huz0 huz1 huz2 rfl (by decide) _ (by rfl) (by simp [World.setCell]) K 97 _ _ _ (by rfl) (H3.out.grow (hfr.alloc _)) (oneU _) (by unfold maxLen; omega) (by omega) ?_; intro v2 w2 own2 fr2); go_must (obtain ⟨va, vcap, rfl⟩ := own_any own2; have FW := hid (((Fr.refl wr.heap.size [] wr).alloc _).trans fr2.nil); have OWN2 := hid own2; have BR := fr2.keep _ _ (heap_alloc_new wr (.cells #[.int .i64 rs[k].kind, .int .i64 rs[k].txn, .slice xa rs[k].ups.length xcap] 94)) (.inr (by simp)); have p0 := cell_of (o := 0) BR rfl; have p1 := cell_of (o := 1) BR rfl; have p2 := cell_of (o := 2) BR rfl; have p3 := free_of (o := 2) BR; have HBR := hid BR; have D2 := hid (FW.out.keep _ _ B2.out (.inr (by simp))); have q2 := cell_of (o := 0) D2.out rfl; have q3 := free_of (o := 0) D2.out; have hs2 := FW.out.size; clear own2 fr2 BR c0 c1 c2 f1 f2 k0 k1 k2))
     | ((at_builtin; go_must (refine wpList_push rfl (.tmp 26) (.tmp 28) 79 rfl w.heap.size 94 ir (.agg #[.int .i64 0, .int .i64 0, .slice none 0 0]) 3 40 Tryz.underlying79 hri hrz0 hrz1 hrz2 rfl (by decide) _ _ _ (ownsRow_grow Z2.out (FW.out.setNew (p := ⟨wr.heap.size, 2, none⟩) (Nat.le_refl _) _)) rfl (oneR (UpsR.ofOwn OWN2.out rfl (Nat.le_refl _)) _ _) (by unfold maxLen; omega) (by omega) (by simp [World.setCell]; omega) (by rfl) _ (by rfl) (by simp [World.setCell]) ?_; intro v4 w4 own4 fr4 _)); go_must (obtain ⟨g4, cap4, rfl, _, _, _⟩ := own_shape own4 (by omega); have OWN4 := hid own4; have E2 := hid (fr4.keep _ _ (block_setne (p := ⟨wr.heap.size, 2, none⟩) D2.out (by have := lt_of_get B2.out; dsimp only; omega)) (.inr (by simp [otag]))); have r2 := cell_of (o := 0) E2.out rfl; have r3 := free_of (o := 0) E2.out; clear own4 p0 p1 p2 p3 q2 q3)))
    go_roundw
    case rel =>
     have FW3 := FW.out.setNew (p := ⟨wr.heap.size, 2, none⟩) (Nat.le_refl _) (.slice va rs[k].ups.length vcap)
     have F4 : Fr w.heap.size [94] wr w4 := FW3.nil.trans fr4
     have hu4 := (((UpsR.ofOwn OWN2.out rfl (show w.heap.size ≤ _ by simp; omega)).keep ((Fr.refl 0 [94] w2).setOld (p := ⟨wr.heap.size, 2, none⟩) HBR.out (Nat.zero_le _) (by simp [otag]) (.slice va rs[k].ups.length vcap)) (Safe.new (by simp))).keep fr4 (Safe.new (by simp)))
     have hown := RecsOwn.snoc (r := rs[k]) Z1.out (fun z hz => (Z3.out z hz).keep F4 (Safe.new (by simp))) hu4 (by rw [List.length_take]; omega) OWN4.out
     rw [← List.take_succ_eq_append_getElem hlt] at hown
     have l0 := lt_of_get B0.out
     have l1 := lt_of_get B1.out
     have FE := ((Fr.refl 0 [81] w4).setOld (p := ⟨w.heap.size + 1 + 1 + 1, 0, none⟩) E2.out (Nat.zero_le _) (by simp [otag]) (.slice (some ⟨g4, 0, none⟩) (k + 1) cap4))
     exact ⟨k + 1, _, by omega, by go_num, block_setne (fr4.keep _ _ (FW3.keep _ _ B0.out (.inr (by simp))) (.inr (by simp [otag]))) (by dsimp only; omega), block_setne (fr4.keep _ _ (FW3.keep _ _ B1.out (.inr (by simp))) (.inr (by simp [otag]))) (by dsimp only; omega), block_set E2.out 0 _,
      hown.keep FE (by simp) (by simp), ((hfr.trans FW3.nil).after fr4).setNew (by dsimp only; omega) _⟩
    case measure => simp [intOf]; omega
  ·obtain rfl : k = rs.length := by omega
   have HTK := hid (show rs.take rs.length = rs from List.take_length)
   obtain ⟨ua, ucap, hua, _⟩ := OWN.out.reads.shape
   rw [HTK.out] at hua
   subst hua
   go_wp2
   have FT := ((Fr.refl 0 [81] wr).setOld (p := ⟨w.heap.size + 1, 0, none⟩) B1.out (Nat.zero_le _) (by simp [otag]) (.slice ua rs.length ucap))
   exact bodyPost_ret (v := .agg #[.slice ua rs.length ucap]) (by simp [results, Tryz.results68, go_sem, c1]) rfl ⟨_, rfl, by have := OWN.out; rw [HTK.out] at this; exact this.keep FT (by simp) (by simp), hfr.setNew (by dsimp only; omega) _⟩

theorem own_size {w w1 : World} {a b c : Obj} {E sz n : Nat} {v : Value} {cs : List Value} (h : w1.ownsRow (((w.alloc a).alloc b).alloc c).heap.size E sz v n cs) : w1.ownsRow (w.heap.size + 1 + 1 + 1) E sz v n cs := by
 have : (((w.alloc a).alloc b).alloc c).heap.size = w.heap.size + 1 + 1 + 1 := by simp
 rw [this] at h; exact h

def AddPost (w : World) (rs : List Rc) (r : Rc) (e : Ending) (w' : World) : Prop :=
 ∃ v', e = .returned (.tuple #[.agg #[v'], .bool (valid (rs ++ [r]))]) ∧ RecsOwn w.heap.size w' v' (if valid (rs ++ [r]) then rs ++ [r] else rs) ∧ Fr w.heap.size [] w w'

theorem Small.snoc {rs : List Rc} {r : Rc} (h : Small rs) (hl : rs.length ≤ 999999999) (hr : r.ups.length ≤ 1000000000) : Small (rs ++ [r]) :=
 ⟨by simp; omega, fun x hx => by
  rcases List.mem_append.1 hx with hx | hx
  ·exact h.2 x hx
  ·simp at hx; subst hx; exact hr⟩

set_option maxRecDepth 20000 in
set_option maxHeartbeats 2000000 in
theorem l21Add_any (K K3 : Nat → Bool → Prop) (v vu : Value) (rs : List Rc) (r : Rc) (w : World) (hv : RecsR K w v rs) (hs : Small rs) (hl : rs.length ≤ 999999999) (h3 : UpsR K3 w vu r.ups) (hu : r.ups.length ≤ 1000000000) :
  Calls Tryz.prog 116 #[.agg #[v], .agg #[.int .i64 r.kind, .int .i64 r.txn, vu]] w (AddPost w rs r) := by
 obtain ⟨a, cap, rfl, hcap, -⟩ := hv.shape
 obtain ⟨ua, ucap, rfl, hucap, -⟩ := h3.shape
 obtain ⟨iu, hui, huz0, huz1, huz2⟩ := info_parts infoU
 obtain ⟨ir, hri, hrz0, hrz1, hrz2⟩ := info_parts infoR
 have HV := hid hv
 have HS := hid hs
 have H3 := hid h3
 have hW := Boxes3.made w (.cells #[.slice a rs.length cap] 81) (.cells #[.int .i64 r.kind, .int .i64 r.txn, .slice ua r.ups.length ucap] 94) (.cells #[.slice none 0 0] 81)
 have F0 := hid ((((Fr.refl w.heap.size [] w).alloc (.cells #[.slice a rs.length cap] 81)).alloc (.cells #[.int .i64 r.kind, .int .i64 r.txn, .slice ua r.ups.length ucap] 94)).alloc (.cells #[.slice none 0 0] 81))
 have HW := hid hW
 clear hv hs h3 hW
 cases g1 : valid (rs ++ [r])
 all_goals
  have G1 := hid g1
  go_enter Tryz.func116, Tryz.ntmps116
  go_wp2_with (first
   | (go_at_call 68; (with_reducible refine (l21Copy_any K _ rs _ (HV.out.grow F0.out) HS.out).mono ?_); go_must (rintro e w1 ⟨v1, rfl, own1, fr1⟩; obtain ⟨a1, cap1, rfl, _, _⟩ := own1.reads.shape; obtain ⟨zs, z1, z2, z3⟩ := id own1; have Z1 := hid z1; have Z2 := hid z2; have Z3 := hid z3; have F1 := hid (F0.out.trans fr1.nil); have W1 := hid (HW.out.grow fr1); have hs1 := fr1.size; have c0 := cell_of (o := 0) W1.out.1 rfl; have c1 := cell_of (o := 0) W1.out.2.1 rfl; have c2 := cell_of (o := 1) W1.out.2.1 rfl; have c3 := cell_of (o := 2) W1.out.2.1 rfl; have hb2 := lt_of_get W1.out.2.2; have hb1 := lt_of_get W1.out.2.1; have hb0 := lt_of_get W1.out.1; clear own1 z1 z2 z3 fr1))
   | ((at_builtin; refine wpList_clone rfl (.tmp 9) (.tmp 11) 52 rfl 97 iu (.agg #[.int .i64 0, .int .i64 0, .int .i64 0]) 3 24 Tryz.underlying52 hui huz0 huz1 huz2 rfl (by decide) _ (by rfl) (by simp [World.setCell]) K3 97 _ _ _ (by rfl) (H3.out.grow (F1.out.alloc _)) (oneU _) (by unfold maxLen; omega) (by omega) ?_; intro v2 w2 own2 fr2); go_must (obtain ⟨a2, cap2, rfl⟩ := own_any own2; have FW := hid (((Fr.refl w1.heap.size [] w1).alloc _).trans fr2.nil); have OWN2 := hid own2; have W2 := hid (W1.out.grow FW.out); have BX := hid (fr2.keep _ _ (heap_alloc_new w1 (.cells #[.slice a1 rs.length cap1] 81)) (.inr (by simp))); have hs2 := FW.out.size; have d0 := cell_of (o := 0) W2.out.1 rfl; have d1 := cell_of (o := 0) W2.out.2.1 rfl; have d2 := cell_of (o := 1) W2.out.2.1 rfl; have d3 := cell_of (o := 2) W2.out.2.1 rfl; have d4 := free_of (o := 2) W2.out.2.1; have d5 := cell_of (o := 0) BX.out rfl; have d6 := free_of (o := 0) BX.out; have hbx := lt_of_get BX.out; have hb2 := lt_of_get W2.out.2.2; have hb1 := lt_of_get W2.out.2.1; have hb0 := lt_of_get W2.out.1; clear own2 fr2 c0 c1 c2 c3))
   | ((at_builtin; go_must (refine wpList_push rfl (.tmp 15) (.tmp 17) 79 rfl (w.heap.size + 1 + 1 + 1) 94 ir (.agg #[.int .i64 0, .int .i64 0, .slice none 0 0]) 3 40 Tryz.underlying79 hri hrz0 hrz1 hrz2 rfl (by decide) _ _ _ (ownsRow_setCell_below (a := ⟨w.heap.size + 1, 2, none⟩) (ownsRow_grow (own_size Z2.out) FW.out) (by dsimp only; omega) _) rfl (oneR (UpsR.ofOwn OWN2.out rfl (Nat.le_refl _)) _ _) (by unfold maxLen; omega) (by omega) (by simp [World.setCell]; omega) (by rfl) _ (by rfl) (by simp [World.setCell]) ?_; intro v4 w4 own4 fr4 _)); go_must (obtain ⟨g4, cap4, rfl, _, _, _⟩ := own_shape own4 (by omega); have FS := hid ((Fr.refl 0 [94] w2).setOld (p := ⟨w.heap.size + 1, 2, none⟩) W2.out.2.1 (Nat.zero_le _) (by simp [otag]) (.slice a2 r.ups.length cap2)); have F14 := hid (((FW.out.nil (B' := 0) (T := [94])).trans FS.out).trans (fr4.mono (Nat.zero_le _) (fun _ h => h))); have F24 := hid (FS.out.trans (fr4.mono (Nat.zero_le _) (fun _ h => h))); have OWN4 := hid (RecsOwn.snoc (lo := w.heap.size + 1 + 1 + 1) (r := r) Z1.out (fun z hz => ((Z3.out z hz).weak (fun b t _ hb => new_le (by simp) b t hb)).keep F14.out (Safe.new (by simp))) ((UpsR.ofOwn (lo' := w.heap.size + 1 + 1 + 1) OWN2.out rfl (by simp; omega)).keep F24.out (Safe.new (by simp))) rfl own4); have F4 := hid (((F1.out.trans FW.out.nil).setNew (p := ⟨w.heap.size + 1, 2, none⟩) (by dsimp only; omega) (.slice a2 r.ups.length cap2)).after (fr4.mono (by omega) (fun _ h => h))); have A4 := hid (fr4.keep _ _ (block_setne (p := ⟨w.heap.size + 1, 2, none⟩) W2.out.1 (by dsimp only; omega)) (.inl (by omega))); have C4 := hid (fr4.keep _ _ (block_setne (p := ⟨w.heap.size + 1, 2, none⟩) W2.out.2.2 (by dsimp only; omega)) (.inl (by omega))); have X4 := hid (fr4.keep _ _ (block_setne (p := ⟨w.heap.size + 1, 2, none⟩) BX.out (by dsimp only; omega)) (.inr (by simp [otag]))); have e0 := cell_of (o := 0) X4.out rfl; have e1 := free_of (o := 0) X4.out; have hb4 := fr4.size; clear own4 fr4 d0 d1 d2 d3 d4 d5 d6))
   | (go_at_call 48; (with_reducible refine (specShardValid_any (new (w.heap.size + 1 + 1 + 1)) _ (rs ++ [r]) _ ((OWN4.out.keep ((Fr.refl 0 [81] w4).setOld (p := ⟨w1.heap.size, 0, none⟩) X4.out (Nat.zero_le _) (by simp [otag]) _) (by simp) (by simp)).reads) (HS.out.snoc hl hu)).mono ?_); go_must (rintro e w6 ⟨rfl, fr6⟩; have FX := hid ((Fr.refl 0 [81] w4).setOld (p := ⟨w1.heap.size, 0, none⟩) X4.out (Nat.zero_le _) (by simp [otag]) (.slice (some ⟨g4, 0, none⟩) (rs.length + 1) cap4)); have F6 := hid ((F4.out.setNew (p := ⟨w1.heap.size, 0, none⟩) (by dsimp only; omega) (.slice (some ⟨g4, 0, none⟩) (rs.length + 1) cap4)).trans fr6.nil); have OWN6 := hid ((OWN4.out.keep FX.out (by simp) (by simp)).grow fr6); have A6 := hid (fr6.keep _ _ (block_setne (p := ⟨w1.heap.size, 0, none⟩) A4.out (by dsimp only; omega)) (.inr (by simp))); have C6 := hid (fr6.keep _ _ (block_setne (p := ⟨w1.heap.size, 0, none⟩) C4.out (by dsimp only; omega)) (.inr (by simp))); have X6 := hid (fr6.keep _ _ (block_set X4.out 0 _) (.inr (by simp))); have r0 := cell_of (o := 0) A6.out rfl; have r1 := cell_of (o := 0) C6.out rfl; have r2 := free_of (o := 0) C6.out; have r3 := cell_of (o := 0) X6.out rfl; clear fr6 e0 e1))
   | (go_at_call 68; (with_reducible refine (l21Copy_any K _ rs _ (HV.out.grow F6.out) HS.out).mono ?_); go_must (rintro e w7 ⟨v7, rfl, own7, fr7⟩; obtain ⟨a7, cap7, rfl, _, _⟩ := own7.reads.shape; have OWN7 := hid own7; have C7 := hid (fr7.keep _ _ C6.out (.inr (by simp))); have s1 := cell_of (o := 0) C7.out rfl; have s2 := free_of (o := 0) C7.out; have F7 := hid (F6.out.trans fr7.nil); have hs6 := F6.out.size; clear own7 fr7)))
 ·have FT := ((Fr.refl 0 [81] w7).setOld (p := ⟨w.heap.size + 1 + 1, 0, none⟩) C7.out (Nat.zero_le _) (by simp [otag]) (.slice a7 rs.length cap7))
  exact bodyPost_ret (v := .tuple #[.agg #[.slice a7 rs.length cap7], .bool false]) (by simp [results, Tryz.results116, go_sem, s1]) rfl
   ⟨_, by rw [G1.out], by rw [G1.out]; exact ((OWN7.out.lower hs6).keep FT (by simp) (by simp)), F7.out.setNew (by dsimp only; omega) _⟩
 ·have FT := ((Fr.refl 0 [81] w6).setOld (p := ⟨w.heap.size + 1 + 1, 0, none⟩) C6.out (Nat.zero_le _) (by simp [otag]) (.slice (some ⟨g4, 0, none⟩) (rs.length + 1) cap4))
  exact bodyPost_ret (v := .tuple #[.agg #[.slice (some ⟨g4, 0, none⟩) (rs.length + 1) cap4], .bool true]) (by simp [results, Tryz.results116, go_sem, r1]) rfl
   ⟨_, by rw [G1.out], by rw [G1.out]; exact ((OWN6.out.lower (by omega)).keep FT (by simp) (by simp)), F6.out.setNew (by dsimp only; omega) _⟩

def encP (z : Pt × Value) : List Value := [.int .i64 z.1.shard, z.2]
def encT (z : Tn × (Value × Value)) : List Value := [z.2.1, z.2.2, .int .i64 z.1.dec]
def encM (m : Msg) : List Value := [.int .i64 m.kind, .int .i64 m.txn, .int .i64 m.shard, .bool m.yes]

def PartsR (lo : Nat) (w : World) (v : Value) (ps : List Pt) : Prop :=
 ∃ zs : List (Pt × Value), zs.map (·.1) = ps ∧ SlR (new lo) 76 2 w v ps.length (zs.flatMap encP) ∧ ∀ z ∈ zs, UpsR (new lo) w z.2 z.1.ups
def TxnsR (lo : Nat) (w : World) (v : Value) (ts : List Tn) : Prop :=
 ∃ zs : List (Tn × (Value × Value)), zs.map (·.1) = ts ∧ SlR (new lo) 74 3 w v ts.length (zs.flatMap encT) ∧ ∀ z ∈ zs, PartsR lo w z.2.1 z.1.parts ∧ IntsR (new lo) w z.2.2 z.1.votes
def CoR (lo : Nat) (w : World) (v1 v2 : Value) (c : Co) : Prop := TxnsR lo w v1 c.txns ∧ IntsR (new lo) w v2 c.order
def ShardsR (lo : Nat) (w : World) (v : Value) (ss : List (List Rc)) : Prop :=
 ∃ zs : List (List Rc × Value), zs.map (·.1) = ss ∧ SlR (new lo) 81 1 w v ss.length (zs.map (·.2)) ∧ ∀ z ∈ zs, RecsR (new lo) w z.2 z.1
def NetR (lo : Nat) (w : World) (v : Value) (ms : List Msg) : Prop := SlR (new lo) 47 4 w v ms.length (ms.flatMap encM)

def Apt (T : List Nat) : Prop := 97 ∉ T ∧ 76 ∉ T ∧ 74 ∉ T ∧ 3 ∉ T ∧ 81 ∉ T ∧ 94 ∉ T ∧ 47 ∉ T

theorem UpsR.tk {lo B : Nat} {T : List Nat} {w w' : World} {v : Value} {us : List Upd} (h : UpsR (new lo) w v us) (hf : Fr B T w w') (hT : 97 ∉ T) : UpsR (new lo) w' v us := h.keep hf (Safe.new hT)
theorem IntsR.tk {lo B : Nat} {T : List Nat} {w w' : World} {v : Value} {l : List Int} (h : IntsR (new lo) w v l) (hf : Fr B T w w') (hT : 3 ∉ T) : IntsR (new lo) w' v l := h.keep hf (Safe.new hT)
theorem RecsR.tk {lo B : Nat} {T : List Nat} {w w' : World} {v : Value} {rs : List Rc} (h : RecsR (new lo) w v rs) (hf : Fr B T w w') (h1 : 97 ∉ T) (h2 : 94 ∉ T) : RecsR (new lo) w' v rs := h.keep hf (Safe.new h1) (Safe.new h2)

theorem PartsR.tk {lo B : Nat} {T : List Nat} {w w' : World} {v : Value} {ps : List Pt} (h : PartsR lo w v ps) (hf : Fr B T w w') (h1 : 76 ∉ T) (h2 : 97 ∉ T) : PartsR lo w' v ps := by
 obtain ⟨zs, g1, g2, g3⟩ := h
 exact ⟨zs, g1, g2.keep hf (Safe.new h1), fun z hz => (g3 z hz).tk hf h2⟩
theorem PartsR.grow {lo B : Nat} {w w' : World} {v : Value} {ps : List Pt} (h : PartsR lo w v ps) (hf : Fr B [] w w') : PartsR lo w' v ps := h.tk hf (by simp) (by simp)

theorem TxnsR.tk {lo B : Nat} {T : List Nat} {w w' : World} {v : Value} {ts : List Tn} (h : TxnsR lo w v ts) (hf : Fr B T w w') (h0 : 74 ∉ T) (h1 : 76 ∉ T) (h2 : 97 ∉ T) (h3 : 3 ∉ T) : TxnsR lo w' v ts := by
 obtain ⟨zs, g1, g2, g3⟩ := h
 exact ⟨zs, g1, g2.keep hf (Safe.new h0), fun z hz => ⟨(g3 z hz).1.tk hf h1 h2, (g3 z hz).2.tk hf h3⟩⟩
theorem TxnsR.grow {lo B : Nat} {w w' : World} {v : Value} {ts : List Tn} (h : TxnsR lo w v ts) (hf : Fr B [] w w') : TxnsR lo w' v ts := h.tk hf (by simp) (by simp) (by simp) (by simp)

theorem CoR.tk {lo B : Nat} {T : List Nat} {w w' : World} {v1 v2 : Value} {c : Co} (h : CoR lo w v1 v2 c) (hf : Fr B T w w') (h0 : 74 ∉ T) (h1 : 76 ∉ T) (h2 : 97 ∉ T) (h3 : 3 ∉ T) : CoR lo w' v1 v2 c := ⟨h.1.tk hf h0 h1 h2 h3, h.2.tk hf h3⟩
theorem CoR.grow {lo B : Nat} {w w' : World} {v1 v2 : Value} {c : Co} (h : CoR lo w v1 v2 c) (hf : Fr B [] w w') : CoR lo w' v1 v2 c := h.tk hf (by simp) (by simp) (by simp) (by simp)

theorem ShardsR.tk {lo B : Nat} {T : List Nat} {w w' : World} {v : Value} {ss : List (List Rc)} (h : ShardsR lo w v ss) (hf : Fr B T w w') (h0 : 81 ∉ T) (h1 : 97 ∉ T) (h2 : 94 ∉ T) : ShardsR lo w' v ss := by
 obtain ⟨zs, g1, g2, g3⟩ := h
 exact ⟨zs, g1, g2.keep hf (Safe.new h0), fun z hz => (g3 z hz).tk hf h1 h2⟩
theorem ShardsR.grow {lo B : Nat} {w w' : World} {v : Value} {ss : List (List Rc)} (h : ShardsR lo w v ss) (hf : Fr B [] w w') : ShardsR lo w' v ss := h.tk hf (by simp) (by simp) (by simp)

theorem NetR.tk {lo B : Nat} {T : List Nat} {w w' : World} {v : Value} {ms : List Msg} (h : NetR lo w v ms) (hf : Fr B T w w') (h0 : 47 ∉ T) : NetR lo w' v ms := SlR.keep h hf (Safe.new h0)
theorem NetR.grow {lo B : Nat} {w w' : World} {v : Value} {ms : List Msg} (h : NetR lo w v ms) (hf : Fr B [] w w') : NetR lo w' v ms := SlR.grow h hf

theorem fst_get {α β : Type} {zs : List (α × β)} {l : List α} (hz : zs.map (·.1) = l) {i : Nat} (hi : i < l.length) : ∃ h : i < zs.length, l[i] = zs[i].1 := by
 subst hz
 exact ⟨by simpa using hi, by simp⟩

theorem PartsR.shape {lo : Nat} {w : World} {v : Value} {ps : List Pt} (h : PartsR lo w v ps) :
  ∃ a cap, v = .slice a ps.length cap ∧ ps.length ≤ cap ∧ (ps = [] ∨ ∃ b off, a = some ⟨b, off, none⟩ ∧ b < w.heap.size ∧
   ∀ i (hi : i < ps.length), ∃ ua ucap, w.cell? ⟨b, off + i * 2, none⟩ = some (.int .i64 ps[i].shard) ∧ w.cell? ⟨b, off + i * 2 + 1, none⟩ = some (.slice ua ps[i].ups.length ucap) ∧ UpsR (new lo) w (.slice ua ps[i].ups.length ucap) ps[i].ups) := by
 obtain ⟨zs, hz, h, hu⟩ := h
 rcases ps with _ | ⟨p, ps⟩
 ·obtain ⟨a, cap, h1, h2, h3, h4, h5⟩ := h
  exact ⟨a, cap, h1, h3, .inl rfl⟩
 ·obtain ⟨b, off, cap, h1, h2, h3, h4, h5⟩ := SlR.cells h (by simp)
  refine ⟨_, cap, h1, h3, .inr ⟨b, off, rfl, h2, fun i hi => ?_⟩⟩
  obtain ⟨hi', e⟩ := fst_get hz hi
  have hx := hu _ (List.getElem_mem hi')
  obtain ⟨ua, ucap, hv, _, _⟩ := hx.shape
  rw [e]
  refine ⟨ua, ucap, ?_, ?_, by rw [← hv]; exact hx⟩
  ·exact h5 (i * 2) _ (by have := fm_get encP 2 (fun _ => rfl) zs i 0 (by omega) hi'; simpa [encP] using this)
  ·rw [← hv]
   exact h5 (i * 2 + 1) _ (by have := fm_get encP 2 (fun _ => rfl) zs i 1 (by omega) hi'; simpa [encP] using this)

theorem TxnsR.shape {lo : Nat} {w : World} {v : Value} {ts : List Tn} (h : TxnsR lo w v ts) :
  ∃ a cap, v = .slice a ts.length cap ∧ ts.length ≤ cap ∧ (ts = [] ∨ ∃ b off, a = some ⟨b, off, none⟩ ∧ b < w.heap.size ∧
   ∀ i (hi : i < ts.length), ∃ pa pcap va vcap, w.cell? ⟨b, off + i * 3, none⟩ = some (.slice pa ts[i].parts.length pcap) ∧ w.cell? ⟨b, off + i * 3 + 1, none⟩ = some (.slice va ts[i].votes.length vcap) ∧ w.cell? ⟨b, off + i * 3 + 2, none⟩ = some (.int .i64 ts[i].dec) ∧
    PartsR lo w (.slice pa ts[i].parts.length pcap) ts[i].parts ∧ IntsR (new lo) w (.slice va ts[i].votes.length vcap) ts[i].votes) := by
 obtain ⟨zs, hz, h, hu⟩ := h
 rcases ts with _ | ⟨p, ts⟩
 ·obtain ⟨a, cap, h1, h2, h3, h4, h5⟩ := h
  exact ⟨a, cap, h1, h3, .inl rfl⟩
 ·obtain ⟨b, off, cap, h1, h2, h3, h4, h5⟩ := SlR.cells h (by simp)
  refine ⟨_, cap, h1, h3, .inr ⟨b, off, rfl, h2, fun i hi => ?_⟩⟩
  obtain ⟨hi', e⟩ := fst_get hz hi
  obtain ⟨hx, hy⟩ := hu _ (List.getElem_mem hi')
  obtain ⟨pa, pcap, hv, _, _⟩ := hx.shape
  obtain ⟨va, vcap, hw, _, _⟩ := hy.shape
  rw [e]
  refine ⟨pa, pcap, va, vcap, ?_, ?_, ?_, by rw [← hv]; exact hx, by rw [← hw]; exact hy⟩
  ·rw [← hv]
   exact h5 (i * 3) _ (by have := fm_get encT 3 (fun _ => rfl) zs i 0 (by omega) hi'; simpa [encT] using this)
  ·rw [← hw]
   exact h5 (i * 3 + 1) _ (by have := fm_get encT 3 (fun _ => rfl) zs i 1 (by omega) hi'; simpa [encT] using this)
  ·exact h5 (i * 3 + 2) _ (by have := fm_get encT 3 (fun _ => rfl) zs i 2 (by omega) hi'; simpa [encT] using this)

theorem ShardsR.shape {lo : Nat} {w : World} {v : Value} {ss : List (List Rc)} (h : ShardsR lo w v ss) :
  ∃ a cap, v = .slice a ss.length cap ∧ ss.length ≤ cap ∧ (ss = [] ∨ ∃ b off, a = some ⟨b, off, none⟩ ∧ b < w.heap.size ∧
   ∀ i (hi : i < ss.length), ∃ ra rcap, w.cell? ⟨b, off + i, none⟩ = some (.slice ra ss[i].length rcap) ∧ RecsR (new lo) w (.slice ra ss[i].length rcap) ss[i]) := by
 obtain ⟨zs, hz, h, hu⟩ := h
 rcases ss with _ | ⟨p, ss⟩
 ·obtain ⟨a, cap, h1, h2, h3, h4, h5⟩ := h
  exact ⟨a, cap, h1, h3, .inl rfl⟩
 ·obtain ⟨b, off, cap, h1, h2, h3, h4, h5⟩ := SlR.cells h (by simp)
  refine ⟨_, cap, h1, h3, .inr ⟨b, off, rfl, h2, fun i hi => ?_⟩⟩
  obtain ⟨hi', e⟩ := fst_get hz hi
  have hx := hu _ (List.getElem_mem hi')
  obtain ⟨ra, rcap, hv, _, _⟩ := hx.shape
  rw [e]
  refine ⟨ra, rcap, ?_, by rw [← hv]; exact hx⟩
  rw [← hv]
  exact h5 i _ (by rw [List.getElem?_map, List.getElem?_eq_getElem hi']; rfl)

theorem NetR.shape {lo : Nat} {w : World} {v : Value} {ms : List Msg} (h : NetR lo w v ms) :
  ∃ a cap, v = .slice a ms.length cap ∧ ms.length ≤ cap ∧ (ms = [] ∨ ∃ b off, a = some ⟨b, off, none⟩ ∧ b < w.heap.size ∧
   ∀ i (hi : i < ms.length), w.cell? ⟨b, off + i * 4, none⟩ = some (.int .i64 ms[i].kind) ∧ w.cell? ⟨b, off + i * 4 + 1, none⟩ = some (.int .i64 ms[i].txn) ∧ w.cell? ⟨b, off + i * 4 + 2, none⟩ = some (.int .i64 ms[i].shard) ∧ w.cell? ⟨b, off + i * 4 + 3, none⟩ = some (.bool ms[i].yes)) := by
 rcases ms with _ | ⟨p, ms⟩
 ·obtain ⟨a, cap, h1, h2, h3, h4, h5⟩ := h
  exact ⟨a, cap, h1, h3, .inl rfl⟩
 ·obtain ⟨b, off, cap, h1, h2, h3, h4, h5⟩ := SlR.cells h (by simp)
  refine ⟨_, cap, h1, h3, .inr ⟨b, off, rfl, h2, fun i hi => ⟨?_, ?_, ?_, ?_⟩⟩⟩
  ·exact h5 (i * 4) _ (by have := fm_get encM 4 (fun _ => rfl) (p :: ms) i 0 (by omega) hi; simpa [encM] using this)
  ·exact h5 (i * 4 + 1) _ (by have := fm_get encM 4 (fun _ => rfl) (p :: ms) i 1 (by omega) hi; simpa [encM] using this)
  ·exact h5 (i * 4 + 2) _ (by have := fm_get encM 4 (fun _ => rfl) (p :: ms) i 2 (by omega) hi; simpa [encM] using this)
  ·exact h5 (i * 4 + 3) _ (by have := fm_get encM 4 (fun _ => rfl) (p :: ms) i 3 (by omega) hi; simpa [encM] using this)

theorem new_low {lo lo' : Nat} (h : lo' ≤ lo) : ∀ {n : Nat} (b : Nat) (t : Bool), b < n → new lo b t → new lo' b t := fun b t _ hb => ⟨Nat.le_trans h hb.1, hb.2⟩

theorem PartsR.lower {lo lo' : Nat} {w : World} {v : Value} {ps : List Pt} (h : PartsR lo w v ps) (hl : lo' ≤ lo) : PartsR lo' w v ps := by
 obtain ⟨zs, g1, g2, g3⟩ := h
 exact ⟨zs, g1, g2.weak (new_low hl), fun z hz => (g3 z hz).weak (new_low hl)⟩
theorem TxnsR.lower {lo lo' : Nat} {w : World} {v : Value} {ts : List Tn} (h : TxnsR lo w v ts) (hl : lo' ≤ lo) : TxnsR lo' w v ts := by
 obtain ⟨zs, g1, g2, g3⟩ := h
 exact ⟨zs, g1, g2.weak (new_low hl), fun z hz => ⟨(g3 z hz).1.lower hl, (g3 z hz).2.weak (new_low hl)⟩⟩
theorem CoR.lower {lo lo' : Nat} {w : World} {v1 v2 : Value} {c : Co} (h : CoR lo w v1 v2 c) (hl : lo' ≤ lo) : CoR lo' w v1 v2 c := ⟨h.1.lower hl, h.2.weak (new_low hl)⟩
theorem ShardsR.lower {lo lo' : Nat} {w : World} {v : Value} {ss : List (List Rc)} (h : ShardsR lo w v ss) (hl : lo' ≤ lo) : ShardsR lo' w v ss := by
 obtain ⟨zs, g1, g2, g3⟩ := h
 exact ⟨zs, g1, g2.weak (new_low hl), fun z hz => (g3 z hz).weak (new_low hl)⟩
theorem NetR.lower {lo lo' : Nat} {w : World} {v : Value} {ms : List Msg} (h : NetR lo w v ms) (hl : lo' ≤ lo) : NetR lo' w v ms := SlR.weak h (new_low hl)

set_option maxRecDepth 20000 in
set_option maxHeartbeats 1000000 in
theorem isPart_any (s : Int) (ua : Option Addr) (n ucap : Nat) (x : Nat) (k : Int) (w : World) (hx : w.heap[x]? = some (.cells #[.int .i64 k] 3 (0, 0))) :
  Calls Tryz.prog 85 #[.agg #[.int .i64 s, .slice ua n ucap], .pointer (some ⟨x, 0, none⟩)] w fun e w' => e = .returned (.bool (s == k)) ∧ Fr w.heap.size [] w w' := by
 have c0 := cell_of (o := 0) hx rfl
 have hb := lt_of_get hx
 have F0 := hid ((Fr.refl w.heap.size [] w).alloc (.cells #[.int .i64 s, .slice ua n ucap] 76))
 have c1 := F0.out.cell hb c0
 clear hx c0
 go_enter Tryz.func85, Tryz.ntmps85
 go_wp2
 go_ret
 exact ⟨rfl, F0.out⟩

set_option maxRecDepth 20000 in
set_option maxHeartbeats 4000000 in
theorem indexPart_any (lo : Nat) (v : Value) (ps : List Pt) (x : Nat) (t : Int) (w : World) (hp : PartsR lo w v ps) (hpl : ps.length ≤ 1000000000) (hx : w.heap[x]? = some (.cells #[.int .i64 t] 3 (0, 0))) (f : Value) (hf : f = .func (.func 85) #[] #[.pointer (some ⟨x, 0, none⟩)]) :
  Calls Tryz.prog 84 #[v, f] w fun e w' => e = .returned (.int .i64 (partOf ps t)) ∧ Fr w.heap.size [] w w' := by
 subst hf
 obtain ⟨pa, pcap, rfl, hcap, hcell⟩ := hp.shape
 have HX := hid hx
 clear hp hx
 go_enter Tryz.func84, Tryz.ntmps84
 go_wp2
 go_loopw [8] (fun i wr => ∃ k : Nat, k ≤ ps.length ∧ i = .int .i64 k ∧ (∀ i (hi : i < ps.length), i < k → ps[i].shard ≠ t) ∧ Fr w.heap.size [] w wr) (fun i _ => ps.length - (intOf i).toNat)
 case atStart => exact ⟨0, Nat.zero_le _, rfl, fun i _ h => absurd h (Nat.not_lt_zero _), Fr.refl _ _ _⟩
 case round =>
  obtain ⟨k, hk, rfl, hto, hfr⟩ := hrel
  have TO := hid hto
  clear hto
  by_cases hlt : k < ps.length
  ·rcases hcell with rfl | ⟨b, off, rfl, hbs, hcell⟩
   ·simp at hlt
   ·obtain ⟨ua, ucap, h0, h1, _⟩ := hcell k hlt
    have c0 := hfr.cell hbs h0
    have c1 := hfr.cell hbs h1
    have hki : (k : Int) < (ps.length : Int) := by omega
    have X1 := hid (hfr.keep _ _ HX.out (.inr (by simp)))
    have YES := hid (fun h : ps[k].shard = t => partOf_at hlt TO.out h)
    have NX := hid (fun (h : ¬ ps[k].shard = t) => show ∀ i (hi : i < ps.length), i < k + 1 → ps[i].shard ≠ t from fun i hi hik => by
     by_cases e : i = k
     ·subst e; exact h
     ·exact TO.out i hi (by omega))
    clear hcell h0 h1
    generalize ps[k] = p at *
    cases g : p.shard == t
    ·have G := hid g
     have hne : ¬ p.shard = t := by simpa using g
     clear g
     go_wp2_with (go_at_call 85; go_must (refine (isPart_any _ _ _ _ x t _ X1.out).mono ?_; rintro e w1 ⟨rfl, fr1⟩; rw [G.out]))
     go_roundw
     case rel => exact ⟨k + 1, by omega, by go_num, NX.out hne, hfr.trans fr1.nil⟩
     case measure => simp [intOf]; omega
    ·have G := hid g
     have heq : Hid (p.shard = t) := hid (by simpa using g)
     clear g
     go_wp2_with (go_at_call 85; go_must (refine (isPart_any _ _ _ _ x t _ X1.out).mono ?_; rintro e w1 ⟨rfl, fr1⟩; rw [G.out]))
     go_ret
     exact ⟨ret_int (YES.out heq.out).symm, hfr.trans fr1.nil⟩
  ·obtain rfl : k = ps.length := by omega
   have hz := hid (partOf_none (ps := ps) (k := t) fun i hi => TO.out i hi hi)
   clear hcell
   go_wp2
   go_ret
   exact ⟨ret_int (by rw [hz.out]), hfr⟩

set_option maxRecDepth 20000 in
set_option maxHeartbeats 1000000 in
theorem implPartAt_any (lo : Nat) (T : Tn) (pv vv : Value) (t : Int) (w : World) (hp : PartsR lo w pv T.parts) (hpl : T.parts.length ≤ 1000000000) (hvv : ∃ va vcap, vv = .slice va T.votes.length vcap) :
  Calls Tryz.prog 45 #[.agg #[pv, vv, .int .i64 T.dec], .int .i64 t] w fun e w' => e = .returned (.int .i64 (partOf T.parts t)) ∧ Fr w.heap.size [] w w' := by
 obtain ⟨va, vcap, rfl⟩ := hvv
 obtain ⟨pa, pcap, rfl, -⟩ := hp.shape
 have HP := hid hp
 have F0 := hid (((Fr.refl w.heap.size [] w).alloc (.cells #[.slice pa T.parts.length pcap, .slice va T.votes.length vcap, .int .i64 T.dec] 74)).alloc (.cells #[.int .i64 t] 3))
 have BY := hid (heap_alloc_new (w.alloc (.cells #[.slice pa T.parts.length pcap, .slice va T.votes.length vcap, .int .i64 T.dec] 74)) (.cells #[.int .i64 t] 3))
 clear hp
 simp only [World.size_alloc] at BY
 go_enter Tryz.func45, Tryz.ntmps45
 go_wp2_with (go_at_call 84; go_must (refine (indexPart_any lo _ T.parts _ t _ (HP.out.grow F0.out) hpl BY.out _ rfl).mono ?_; rintro e w1 ⟨rfl, fr1⟩; have F1 := hid (F0.out.trans fr1.nil)))
 go_ret
 exact ⟨rfl, F1.out⟩

theorem step_ap {P : Program} {w : World} {ops : Array Oper} {o : Oper} {a : Act} {K' : Act → World → Prop} {Q : Exit → Act → World → Prop} {E0 : Prop} (hgd : o.guard = none) (s x : Operand) (t : TypeId)
  (ho : o.op = .call { callee := .builtin .append, args := #[s, x], argTypes := #[t, t] })
  (lo : Nat) (e : TypeId) (i : TypeInfo) (z : Value) (size bytes : Nat) (ht : P.underlying t = some (.slice e)) (hi : P.info? e = some i) (hz : i.zero = some z)
  (hsize : i.size = size) (hby : i.bytes = bytes) (hzs : z.cells.size = size) (hsz : 0 < size)
  (v : Value) (n : Nat) (xs : List Value) (hs : a.eval s = v) (hown : w.ownsRow lo e size v n xs)
  (K : Nat → Bool → Prop) (E' : Nat) (vx : Value) (m : Nat) (news : List Value) (hx : a.eval x = vx) (hsrc : SlR K E' size w vx m news) (h1 : ∀ u ∈ news, u.oneCell' = true)
  (h63 : n + m ≤ maxLen) (hbytes : (n + m) * bytes ≤ 140737488355328) (hlo : lo ≤ w.heap.size)
  (h : ∀ v' w', w'.ownsRow lo e size v' (n + m) (xs ++ news) → Fr lo [e] w w' → K' (a.put o.dst v') w') :
  if Region.wanted o (yielded ops a.tmps) = true then Oper.wp P o a w K' Q else E0 := by
 have hw : Region.wanted o (yielded ops a.tmps) = true := by simp [Region.wanted, hgd]
 rw [if_pos hw]
 obtain ⟨ad, cap, rfl, hl, hcap, hnone, hc⟩ := hsrc
 cases ad with
 | none =>
  obtain ⟨rfl, rfl⟩ := hnone rfl
  have hnn : news = [] := List.eq_nil_of_length_eq_zero (by simpa using hl)
  subst hnn
  have hrun := run_append_owned_none (P := P) (w := w) lo t o.type e i size ht hi v n xs hown
  unfold Oper.wp
  simp [execOp, ho, resolve, invoke, builtin, hs, hx, hrun, Result.andThen]
  exact h v w (by simpa using hown) (Fr.refl _ _ _)
 | some ad =>
  have hnews : ∀ j u, news[j]? = some u → w.cell? (ad.add j) = some u := by
   intro j u hu
   have hm : 0 < m := by
    rcases Nat.eq_zero_or_pos m with rfl | h
    ·have : news = [] := List.eq_nil_of_length_eq_zero (by simpa using hl)
     subst this; simp at hu
    ·exact h
   obtain ⟨b, off, cur, e2, fr, g1, g2, g3, g4⟩ := hc hm
   cases g1
   have hadd : (⟨b, off, none⟩ : Addr).add j = ⟨b, off + j, none⟩ := by unfold Addr.add; split <;> simp_all
   rw [hadd]; simp [World.cell?, g3]; exact g4 j u hu
  obtain ⟨v', w', hr, h2, h3, _⟩ := run_append_own (P := P) w lo t o.type e i z size bytes ht hi hz hsize hby hzs hsz v n xs hown ad m cap news hl hnews h1 h63 hbytes hlo
  unfold Oper.wp execOp
  simp only [ho, resolve, invoke, builtin, Sem.run_bind, Sem.run_pure, Result.andThen_ok, List.map_toArray, List.map_cons, List.map_nil, hs, hx, hr]
  exact h v' w' h2 (Fr.ofOwnGrown hown h3 (Nat.le_refl _) (List.mem_singleton.2 rfl))

theorem SlR.lit {w : World} {e sz : Nat} {cs : List Value} (hl : cs.length = sz) : SlR (new w.heap.size) e sz (w.alloc (.cells cs.toArray e)) (.slice (some ⟨w.heap.size, 0, none⟩) 1 1) 1 cs := SlR.ofOwns (by
 have := World.ownsRow_lit (base := w.heap.size) (e := e) (size := sz) w cs.toArray 1 (Nat.le_refl _) (by decide) (by simp [hl])
 simpa using this)

theorem step_apG {P : Program} {w : World} {ops : Array Oper} {o : Oper} {a : Act} {K' : Act → World → Prop} {Q : Exit → Act → World → Prop} {E0 : Prop} (hgd : o.guard = none) (s x : Operand) (t : TypeId)
  (ho : o.op = .call { callee := .builtin .append, args := #[s, x], argTypes := #[t, t] })
  (lo : Nat) (e : TypeId) (i : TypeInfo) (z : Value) (size bytes : Nat) (ht : P.underlying t = some (.slice e)) (hi : P.info? e = some i) (hz : i.zero = some z)
  (hsize : i.size = size) (hby : i.bytes = bytes) (hzs : z.cells.size = size) (hsz : 0 < size)
  (v : Value) (n : Nat) (xs : List Value) (hs : a.eval s = v) (hown : w.ownsRow lo e size v n xs)
  (K : Nat → Bool → Prop) (E' : Nat) (vx : Value) (m : Nat) (news : List Value) (hx : a.eval x = vx) (hsrc : SlR K E' size w vx m news) (h1 : ∀ u ∈ news, u.oneCell' = true)
  (h63 : n + m ≤ maxLen) (hbytes : (n + m) * bytes ≤ 140737488355328) (hlo : lo ≤ w.heap.size)
  (h : ∀ v' w', w'.ownsRow lo e size v' (n + m) (xs ++ news) → w.grownBy w' v.ownBlock → True → K' (a.put o.dst v') w') :
  if Region.wanted o (yielded ops a.tmps) = true then Oper.wp P o a w K' Q else E0 := by
 have hw : Region.wanted o (yielded ops a.tmps) = true := by simp [Region.wanted, hgd]
 rw [if_pos hw]
 obtain ⟨ad, cap, rfl, hl, hcap, hnone, hc⟩ := hsrc
 cases ad with
 | none =>
  obtain ⟨rfl, rfl⟩ := hnone rfl
  have hnn : news = [] := List.eq_nil_of_length_eq_zero (by simpa using hl)
  subst hnn
  have hrun := run_append_owned_none (P := P) (w := w) lo t o.type e i size ht hi v n xs hown
  unfold Oper.wp
  simp [execOp, ho, resolve, invoke, builtin, hs, hx, hrun, Result.andThen]
  exact h v w (by simpa using hown) ⟨rfl, rfl, rfl, Nat.le_refl _, fun _ _ _ => rfl⟩ trivial
 | some ad =>
  have hnews : ∀ j u, news[j]? = some u → w.cell? (ad.add j) = some u := by
   intro j u hu
   have hm : 0 < m := by
    rcases Nat.eq_zero_or_pos m with rfl | h
    ·have : news = [] := List.eq_nil_of_length_eq_zero (by simpa using hl)
     subst this; simp at hu
    ·exact h
   obtain ⟨b, off, cur, e2, fr, g1, g2, g3, g4⟩ := hc hm
   cases g1
   have hadd : (⟨b, off, none⟩ : Addr).add j = ⟨b, off + j, none⟩ := by unfold Addr.add; split <;> simp_all
   rw [hadd]; simp [World.cell?, g3]; exact g4 j u hu
  obtain ⟨v', w', hr, h2, h3, _⟩ := run_append_own (P := P) w lo t o.type e i z size bytes ht hi hz hsize hby hzs hsz v n xs hown ad m cap news hl hnews h1 h63 hbytes hlo
  unfold Oper.wp execOp
  simp only [ho, resolve, invoke, builtin, Sem.run_bind, Sem.run_pure, Result.andThen_ok, List.map_toArray, List.map_cons, List.map_nil, hs, hx, hr]
  exact h v' w' h2 h3 trivial

theorem IntsR.storeI {lo : Nat} {w : World} {v : Value} {l : List Int} (h : IntsR (new lo) w v l) (g j : Nat) (n : Int) :
  ∃ l', l'.length = l.length ∧ (∀ x ∈ l', x ∈ l ∨ x = n) ∧ IntsR (new lo) (w.setCell ⟨g, j, none⟩ (.int .i64 n)) v l' := by
 obtain ⟨a, cap, h1, h2, h3, h4, h5⟩ := h
 rcases Nat.eq_zero_or_pos l.length with h0 | h0
 ·exact ⟨l, rfl, fun x hx => .inl hx, a, cap, h1, h2, h3, h4, fun h => by omega⟩
 ·obtain ⟨b, off, cur, e, fr, g1, g2, g3, g4⟩ := h5 h0
  by_cases hb : b = g
  ·subst hb
   by_cases hj : off ≤ j
   ·refine ⟨l.set (j - off) n, by simp, fun x hx => List.mem_or_eq_of_mem_set hx, a, cap, by simpa using h1, by simp, by simpa using h3, by simpa using h4, fun _ => ⟨b, off, cur.setIfInBounds j (.int .i64 n), e, fr, g1, g2, block_set g3 j _, ?_⟩⟩
    intro i u hu
    rw [List.map_set] at hu
    rw [List.getElem?_set] at hu
    rw [Array.getElem?_setIfInBounds]
    by_cases hi : j - off = i
    ·rw [if_pos hi] at hu
     split at hu
     ·rename_i hlt
      have hx := g4 i _ (List.getElem?_eq_getElem (by omega))
      have hsz : off + i < cur.size := (Array.getElem?_eq_some_iff.1 hx).1
      rw [if_pos (by omega), if_pos (by omega)]
      exact hu
     ·cases hu
    ·rw [if_neg hi] at hu
     rw [if_neg (by omega)]
     exact g4 i u hu
   ·refine ⟨l, rfl, fun x hx => .inl hx, a, cap, h1, h2, h3, h4, fun _ => ⟨b, off, cur.setIfInBounds j (.int .i64 n), e, fr, g1, g2, block_set g3 j _, ?_⟩⟩
    intro i u hu
    rw [Array.getElem?_setIfInBounds, if_neg (by omega)]
    exact g4 i u hu
  ·exact ⟨l, rfl, fun x hx => .inl hx, a, cap, h1, h2, h3, h4, fun _ => ⟨b, off, cur, e, fr, g1, g2, block_setne g3 (by simpa using hb), g4⟩⟩

def Like (t t' : Tn) : Prop := t'.parts = t.parts ∧ t'.votes.length = t.votes.length ∧ t'.dec = t.dec ∧ ∀ v ∈ t'.votes, v ∈ t.votes ∨ (-1000 ≤ v ∧ v ≤ 1000)

theorem txns_storeI {lo : Nat} {w : World} {g j : Nat} {n : Int} {cur : Array Value} {fr : Nat × Nat} (hn : -1000 ≤ n ∧ n ≤ 1000) (hg : w.heap[g]? = some (.cells cur 3 fr)) (zs : List (Tn × (Value × Value))) (hz : ∀ z ∈ zs, PartsR lo w z.2.1 z.1.parts ∧ IntsR (new lo) w z.2.2 z.1.votes) :
  ∃ zs' : List (Tn × (Value × Value)), zs'.length = zs.length ∧ zs'.flatMap encT = zs.flatMap encT ∧ (∀ i (h : i < zs.length) (h' : i < zs'.length), Like zs[i].1 zs'[i].1) ∧ ∀ z ∈ zs', PartsR lo (w.setCell ⟨g, j, none⟩ (.int .i64 n)) z.2.1 z.1.parts ∧ IntsR (new lo) (w.setCell ⟨g, j, none⟩ (.int .i64 n)) z.2.2 z.1.votes := by
 induction zs with
 | nil => exact ⟨[], rfl, rfl, fun i h => by simp at h, fun z hz => by cases hz⟩
 | cons z zs ih =>
  obtain ⟨zs', h1, h2, h3, h4⟩ := ih fun z hz' => hz z (List.mem_cons_of_mem _ hz')
  obtain ⟨g1, g2⟩ := hz z (List.mem_cons_self ..)
  obtain ⟨l', e1, e3, e2⟩ := g2.storeI g j n
  have hf : Fr 0 [3] w (w.setCell ⟨g, j, none⟩ (.int .i64 n)) := (Fr.refl 0 _ w).setOld (p := ⟨g, j, none⟩) hg (Nat.zero_le _) (by simp [otag]) _
  refine ⟨({ z.1 with votes := l' }, z.2) :: zs', by simp [h1], by simp [encT, h2], fun i h h' => ?_, fun y hy => ?_⟩
  ·cases i with
   | zero => exact ⟨rfl, e1, rfl, fun v hv => (e3 v hv).imp id fun h => by omega⟩
   | succ i => exact h3 i (by simpa using h) (by simpa using h')
  ·rcases List.mem_cons.1 hy with rfl | hy
   ·exact ⟨g1.tk hf (by simp) (by simp), e2⟩
   ·exact h4 y hy

theorem TxnsR.storeI {lo : Nat} {w : World} {v : Value} {ts : List Tn} (h : TxnsR lo w v ts) {g j : Nat} {n : Int} {cur : Array Value} {fr : Nat × Nat} (hn : -1000 ≤ n ∧ n ≤ 1000) (hg : w.heap[g]? = some (.cells cur 3 fr)) :
  ∃ ts' : List Tn, ts'.length = ts.length ∧ (∀ i (h : i < ts.length) (h' : i < ts'.length), Like ts[i] ts'[i]) ∧ TxnsR lo (w.setCell ⟨g, j, none⟩ (.int .i64 n)) v ts' := by
 obtain ⟨zs, rfl, h2, h3⟩ := h
 obtain ⟨zs', g1, g2, g3, g4⟩ := txns_storeI (j := j) (n := n) hn hg zs h3
 have hf : Fr 0 [3] w (w.setCell ⟨g, j, none⟩ (.int .i64 n)) := (Fr.refl 0 _ w).setOld (p := ⟨g, j, none⟩) hg (Nat.zero_le _) (by simp [otag]) _
 refine ⟨zs'.map (·.1), by simp [g1], fun i h h' => ?_, zs', rfl, ?_, g4⟩
 ·have := g3 i (by simpa using h) (by simpa using h')
  simpa using this
 ·rw [g2, List.length_map, g1]
  rw [List.length_map] at h2
  exact h2.keep hf (Safe.new (by simp))

theorem encT_set (zs : List (Tn × (Value × Value))) {i : Nat} (hi : i < zs.length) (d : Int) : (zs.flatMap encT).set (i * 3 + 2) (.int .i64 d) = (zs.set i ({ zs[i].1 with dec := d }, zs[i].2)).flatMap encT := by
 induction zs generalizing i with
 | nil => simp at hi
 | cons z zs ih =>
  cases i with
  | zero => simp [encT]
  | succ i =>
   have := ih (i := i) (by simpa using hi)
   have e : (i + 1) * 3 + 2 = i * 3 + 2 + 1 + 1 + 1 := by omega
   simp [List.flatMap_cons, encT, e, this]

theorem TxnsR.storeD {lo : Nat} {w : World} {g off n cap : Nat} {ts : List Tn} (h : TxnsR lo w (.slice (some ⟨g, off, none⟩) n cap) ts) {i : Nat} (hi : i < ts.length) (d : Int) :
  TxnsR lo (w.setCell ⟨g, off + i * 3 + 2, none⟩ (.int .i64 d)) (.slice (some ⟨g, off, none⟩) n cap) (ts.set i { ts[i] with dec := d }) ∧ ∃ cur fr, w.heap[g]? = some (.cells cur 74 fr) ∧ lo ≤ g := by
 obtain ⟨zs, rfl, h2, h3⟩ := h
 have hz : i < zs.length := by simpa using hi
 obtain ⟨a, c, e1, e2, e3, e4, e5⟩ := h2
 obtain ⟨b, o, cur, e, fr, q1, q2, q3, q4⟩ := e5 (by omega)
 cases e1
 cases q1
 obtain ⟨hlo, he⟩ := q2
 have he' : e = 74 := of_decide_eq_true he
 subst he'
 have hf : Fr 0 [74] w (w.setCell ⟨g, off + i * 3 + 2, none⟩ (.int .i64 d)) := (Fr.refl 0 _ w).setOld (p := ⟨g, off + i * 3 + 2, none⟩) q3 (Nat.zero_le _) (by simp [otag]) _
 refine ⟨⟨zs.set i ({ zs[i].1 with dec := d }, zs[i].2), ?_, ?_, ?_⟩, cur, fr, q3, hlo⟩
 ·rw [List.map_set]; simp
 ·refine ⟨_, cap, by simp, ?_, by simpa using e3, by simp, fun _ => ⟨g, off, cur.setIfInBounds (off + i * 3 + 2) (.int .i64 d), 74, fr, rfl, ⟨hlo, he⟩, block_set q3 _ _, ?_⟩⟩
  ·rw [← encT_set zs hz d]; simpa using e2
  ·intro j u hu
   rw [← encT_set zs hz d, List.getElem?_set] at hu
   rw [Array.getElem?_setIfInBounds]
   by_cases hj : i * 3 + 2 = j
   ·rw [if_pos hj] at hu
    split at hu
    ·rename_i hlt
     have hx := q4 j _ (List.getElem?_eq_getElem (by omega))
     have hsz : off + j < cur.size := (Array.getElem?_eq_some_iff.1 hx).1
     rw [if_pos (by omega), if_pos (by omega)]
     exact hu
    ·cases hu
   ·rw [if_neg hj] at hu
    rw [if_neg (by omega)]
    exact q4 j u hu
 ·intro z hz'
  have hz0 : ∀ y ∈ zs, PartsR lo (w.setCell ⟨g, off + i * 3 + 2, none⟩ (.int .i64 d)) y.2.1 y.1.parts ∧ IntsR (new lo) (w.setCell ⟨g, off + i * 3 + 2, none⟩ (.int .i64 d)) y.2.2 y.1.votes := fun y hy =>
   ⟨(h3 y hy).1.tk hf (by simp) (by simp), (h3 y hy).2.tk hf (by simp)⟩
  rcases List.mem_or_eq_of_mem_set hz' with h | rfl
  ·exact hz0 z h
  ·have := hz0 zs[i] (List.getElem_mem hz)
   exact this

def prep (rs : List Rc) (t : Int) (us : List Upd) : List Rc × Bool :=
 if !(valid rs && inR t 0 11 && updsOk us) then ([], false)
 else if ask rs t != 0 then (rs, ask rs t == 1)
 else if valid (rs ++ [⟨1, t, us⟩]) then (rs ++ [⟨1, t, us⟩], true)
 else (if valid (rs ++ [⟨3, t, []⟩]) then rs ++ [⟨3, t, []⟩] else rs, false)

def ShardBool (w : World) (x : List Rc × Bool) (e : Ending) (w' : World) : Prop :=
 ∃ v', e = .returned (.tuple #[.agg #[v'], .bool x.2]) ∧ RecsOwn w.heap.size w' v' x.1 ∧ Fr w.heap.size [] w w'

theorem valid_len {rs : List Rc} (h : valid rs = true) : rs.length ≤ 30 := by
 simp [valid] at h; exact h.2

theorem two_boxes (w : World) (a b : Obj) : ((w.alloc a).alloc b).heap[w.heap.size]? = some a ∧ ((w.alloc a).alloc b).heap[w.heap.size + 1]? = some b :=
 ⟨heap_up (heap_alloc_new w a) b, heap_alloc_eq _ _ (by simp)⟩

set_option maxRecDepth 20000 in
set_option maxHeartbeats 4000000 in
theorem specShardPrepare_any (K K3 : Nat → Bool → Prop) (v vu : Value) (rs : List Rc) (t : Int) (us : List Upd) (w : World) (hv : RecsR K w v rs) (hs : Small rs) (h3 : UpsR K3 w vu us) (hu : us.length ≤ 1000000000) :
  Calls Tryz.prog 77 #[.agg #[v], .int .i64 t, vu] w (ShardBool w (prep rs t us)) := by
 obtain ⟨a, cap, rfl, hcap, -⟩ := hv.shape
 obtain ⟨ua, ucap, rfl, hucap, -⟩ := h3.shape
 have HV := hid hv
 have HS := hid hs
 have H3 := hid h3
 have F0 : Fr w.heap.size [] w ((w.alloc (.cells #[.slice a rs.length cap] 81)).alloc (.cells #[.slice none 0 0] 81)) := ((Fr.refl w.heap.size [] w).alloc _).alloc _
 have hB := two_boxes w (.cells #[.slice a rs.length cap] 81) (.cells #[.slice none 0 0] 81)
 have B0 := hid hB.1
 have C0 := hid hB.2
 clear hv hs h3 hB
 cases g0 : valid rs && inR t 0 11 && updsOk us
 case false =>
  have hz := hid (show prep rs t us = ([], false) by unfold prep; rw [g0]; rfl)
  cases g1 : valid rs
  all_goals cases g2 : inR t 0 11
  all_goals cases g3 : updsOk us
  case true.true.true => rw [g1, g2, g3] at g0; cases g0
  all_goals
   go_enter Tryz.func77, Tryz.ntmps77
   go_wp2_with (first
    | (go_at_call 48; go_must (refine (specShardValid_any K _ rs _ (HV.out.grow F0) HS.out).mono ?_; rintro e w1 ⟨rfl, fr1⟩; have F1 := F0.trans fr1.nil; have C1 := hid (fr1.keep _ _ C0.out (.inr (by simp))); have c1 := cell_of (o := 0) C1.out rfl; have c2 := free_of (o := 0) C1.out))
    | (go_at_call 112; go_must (refine (l12Txn_any _ _).mono ?_; rintro e w' ⟨rfl, rfl⟩))
    | (go_at_call 114; go_must (refine (specUpdatesValid_any K3 _ _ _ (H3.out.grow F1) hu).mono ?_; rintro e w2 ⟨rfl, fr2⟩; have F2 := F1.trans fr2.nil; have C2 := hid (fr2.keep _ _ C1.out (.inr (by simp))); have c3 := cell_of (o := 0) C2.out rfl; have c4 := free_of (o := 0) C2.out)))
   first
    | exact bodyPost_ret (v := .tuple #[.agg #[.slice none 0 0], .bool false]) (by simp [results, Tryz.results77, go_sem, c3]) rfl ⟨_, by rw [hz.out], by rw [hz.out]; exact RecsOwn.nil _ _, F2.setNew (by dsimp only; omega) _⟩
    | exact bodyPost_ret (v := .tuple #[.agg #[.slice none 0 0], .bool false]) (by simp [results, Tryz.results77, go_sem, c1]) rfl ⟨_, by rw [hz.out], by rw [hz.out]; exact RecsOwn.nil _ _, F1.setNew (by dsimp only; omega) _⟩
 case true =>
  have hg : (valid rs = true ∧ inR t 0 11 = true) ∧ updsOk us = true := by simpa using g0
  obtain ⟨⟨g1, g2⟩, g3⟩ := hg
  have hl := valid_len g1
  cases g4 : ask rs t != 0
  case true =>
   have hz := hid (show prep rs t us = (rs, ask rs t == 1) by unfold prep; rw [g0, g4]; rfl)
   go_enter Tryz.func77, Tryz.ntmps77
   go_wp2_with (first
    | (go_at_call 48; go_must (refine (specShardValid_any K _ rs _ (HV.out.grow F0) HS.out).mono ?_; rintro e w1 ⟨rfl, fr1⟩; have F1 := F0.trans fr1.nil; have C1 := hid (fr1.keep _ _ C0.out (.inr (by simp))); have B1 := hid (fr1.keep _ _ B0.out (.inr (by simp))); have c1 := cell_of (o := 0) C1.out rfl; have c2 := free_of (o := 0) C1.out))
    | (go_at_call 112; go_must (refine (l12Txn_any _ _).mono ?_; rintro e w' ⟨rfl, rfl⟩))
    | (go_at_call 114; go_must (refine (specUpdatesValid_any K3 _ _ _ (H3.out.grow F1) hu).mono ?_; rintro e w2 ⟨rfl, fr2⟩; have F2 := F1.trans fr2.nil; have C2 := hid (fr2.keep _ _ C1.out (.inr (by simp))); have B2 := hid (fr2.keep _ _ B1.out (.inr (by simp))); have c3 := cell_of (o := 0) C2.out rfl; have c4 := free_of (o := 0) C2.out; have b3 := cell_of (o := 0) B2.out rfl))
    | (go_at_call 115; go_must (refine (l21Ask_any K _ rs _ _ (HV.out.grow F2) HS.out.1).mono ?_; rintro e w' ⟨rfl, rfl⟩)))
   have F2d := F2.drew
   go_region_held3 (fun x => x.cell? ⟨w.heap.size, 0, none⟩ = some (.slice a rs.length cap) ∧ Fr w.heap.size [] w x)
    (first
     | exact ⟨b3, F2d⟩
     | exact ⟨b4, F4⟩
     | exact ⟨cell_setne b4 (by dsimp only; omega), F4.setNew (by dsimp only; omega) _⟩)
    (first
     | (go_at_call 68; go_must (refine (l21Copy_any K _ rs _ (HV.out.grow (by assumption)) HS.out).mono ?_; rintro e w4 ⟨v4, rfl, own4, fr4⟩; obtain ⟨a4, cap4, rfl, _, _⟩ := own4.reads.shape; have OWN4 := hid own4; have F4 := F2d.trans fr4.nil; have b4 := cell_of (o := 0) (fr4.keep _ _ (show w2.drew.heap[_]? = _ from B2.out) (.inr (by simp))) rfl; have C4 := hid (fr4.keep _ _ (show w2.drew.heap[_]? = _ from C2.out) (.inr (by simp))); have d1 := cell_of (o := 0) C4.out rfl; have d2 := free_of (o := 0) C4.out; clear own4))
     | (go_at_call 115; go_must (refine (l21Ask_any K _ rs _ _ (HV.out.grow (by assumption)) HS.out.1).mono ?_; rintro e w' ⟨rfl, rfl⟩)))
   go_wp2
   have FT := hid ((Fr.refl 0 [81] w4).setOld (p := ⟨w.heap.size + 1, 0, none⟩) C4.out (Nat.zero_le _) (by simp [otag]) (.slice a4 rs.length cap4))
   exact bodyPost_ret (v := .tuple #[.agg #[.slice a4 rs.length cap4], .bool (ask rs t == 1)]) (by simp [results, Tryz.results77, go_sem, d1]) rfl
    ⟨_, by rw [hz.out], by rw [hz.out]; exact (OWN4.out.lower F2d.size).keep FT.out (by simp) (by simp), F4.setNew (by dsimp only; omega) _⟩
  case false =>
  cases g5 : valid (rs ++ [⟨1, t, us⟩])
  all_goals
   have hz := hid (show prep rs t us = if valid (rs ++ [⟨1, t, us⟩]) then (rs ++ [⟨1, t, us⟩], true) else (if valid (rs ++ [⟨3, t, []⟩]) then rs ++ [⟨3, t, []⟩] else rs, false) by unfold prep; rw [g0, g4]; rfl)
   have G5 := hid g5
   go_enter Tryz.func77, Tryz.ntmps77
   go_wp2_with (first
    | (go_at_call 48; go_must (refine (specShardValid_any K _ rs _ (HV.out.grow F0) HS.out).mono ?_; rintro e w1 ⟨rfl, fr1⟩; have F1 := F0.trans fr1.nil; have C1 := hid (fr1.keep _ _ C0.out (.inr (by simp))); have B1 := hid (fr1.keep _ _ B0.out (.inr (by simp))); have c1 := cell_of (o := 0) C1.out rfl; have c2 := free_of (o := 0) C1.out))
    | (go_at_call 112; go_must (refine (l12Txn_any _ _).mono ?_; rintro e w' ⟨rfl, rfl⟩))
    | (go_at_call 114; go_must (refine (specUpdatesValid_any K3 _ _ _ (H3.out.grow F1) hu).mono ?_; rintro e w2 ⟨rfl, fr2⟩; have F2 := F1.trans fr2.nil; have C2 := hid (fr2.keep _ _ C1.out (.inr (by simp))); have B2 := hid (fr2.keep _ _ B1.out (.inr (by simp))); have c3 := cell_of (o := 0) C2.out rfl; have c4 := free_of (o := 0) C2.out; have b3 := cell_of (o := 0) B2.out rfl))
    | (go_at_call 115; go_must (refine (l21Ask_any K _ rs _ _ (HV.out.grow F2) HS.out.1).mono ?_; rintro e w' ⟨rfl, rfl⟩))
    | (go_at_call 116; (with_reducible refine (l21Add_any K K3 _ _ rs ⟨1, t, us⟩ _ (HV.out.grow F2) HS.out (by omega) (H3.out.grow F2) hu).mono ?_); go_must (rintro e w4 ⟨v4, rfl, own4, fr4⟩; obtain ⟨a4, cap4, rfl, _, _⟩ := own4.reads.shape; have OWN4 := hid own4; have F4 := F2.trans fr4.nil; have B4 := hid (fr4.keep _ _ B2.out (.inr (by simp))); have C4 := hid (fr4.keep _ _ C2.out (.inr (by simp))); have d0 := cell_of (o := 0) B4.out rfl; have d1 := cell_of (o := 0) C4.out rfl; have d2 := free_of (o := 0) C4.out; have hc4 := lt_of_get C4.out; have hb4 := lt_of_get B4.out; rw [G5.out]; clear own4))
    | (go_at_call 116; go_must (refine (l21Add_any K (new 0) _ _ rs ⟨3, t, []⟩ _ (HV.out.grow (F4.alloc _)) HS.out (by omega) (SlR.nil _ _ _ _) (by simp)).mono ?_); go_must (rintro e w6 ⟨v6, rfl, own6, fr6⟩; generalize hrs6 : (if valid (rs ++ [⟨3, t, []⟩]) then rs ++ [⟨3, t, []⟩] else rs) = rs6 at own6; have HR6 := hid hrs6; clear hrs6; obtain ⟨a6, cap6, rfl, _, _⟩ := own6.reads.shape; have OWN6 := hid own6; have F6 := (F4.alloc (.cells #[.slice a4 rs.length cap4] 81)).trans fr6.nil; have C6 := hid (fr6.keep _ _ (heap_up C4.out _) (.inr (by simp))); have X6 := hid (fr6.keep _ _ (heap_alloc_new w4 (.cells #[.slice a4 rs.length cap4] 81)) (.inr (by simp))); have q1 := cell_of (o := 0) C6.out rfl; have q2 := free_of (o := 0) C6.out; have q3 := cell_of (o := 0) X6.out rfl; have q4 := free_of (o := 0) X6.out; clear own6)))
  ·have FT := hid (((Fr.refl 0 [81] w6).setOld (p := ⟨w4.heap.size, 0, none⟩) X6.out (Nat.zero_le _) (by simp [otag]) (.slice a6 rs6.length cap6)).setOld (p := ⟨w.heap.size + 1, 0, none⟩) (block_setne C6.out (by dsimp only; omega)) (Nat.zero_le _) (by simp [otag]) (.slice a6 rs6.length cap6))
   exact bodyPost_ret (v := .tuple #[.agg #[.slice a6 rs6.length cap6], .bool false]) (by simp [results, Tryz.results77, go_sem, q1]) rfl
    ⟨_, by rw [hz.out, G5.out]; rfl, by rw [hz.out, G5.out, if_neg (by decide), HR6.out]; exact (OWN6.out.lower (by simp; omega)).keep FT.out (by simp) (by simp), (F6.setNew (by dsimp only; omega) _).setNew (by dsimp only; omega) _⟩
  ·have FT := hid (((Fr.refl 0 [81] w4).setOld (p := ⟨w.heap.size + 1, 0, none⟩) C4.out (Nat.zero_le _) (by simp [otag]) (.slice a4 (rs.length + 1) cap4)).alloc (.cells #[.slice a4 (rs.length + 1) cap4] 81))
   exact bodyPost_ret (v := .tuple #[.agg #[.slice a4 (rs.length + 1) cap4], .bool true]) (by simp [results, Tryz.results77, go_sem, d1, hc4]) rfl
    ⟨_, by rw [hz.out, G5.out]; rfl, by rw [hz.out, G5.out]; have := OWN4.out; rw [G5.out] at this; simp only [if_true, List.length_append, List.length_singleton] at this ⊢; exact (this.lower F2.size).keep FT.out (by simp) (by simp), (F4.setNew (by dsimp only; omega) _).alloc _⟩

def dec (rs : List Rc) (t : Int) (c : Bool) : List Rc × Bool :=
 if !(valid rs && inR t 0 11) then ([], false)
 else if ask rs t == (if c then 2 else 3) then (rs, true)
 else if valid (rs ++ [⟨if c then 2 else 3, t, []⟩]) then (rs ++ [⟨if c then 2 else 3, t, []⟩], true) else (rs, false)

set_option maxRecDepth 20000 in
set_option maxHeartbeats 4000000 in
theorem specShardDecide_any (K : Nat → Bool → Prop) (v : Value) (rs : List Rc) (t : Int) (c : Bool) (w : World) (hv : RecsR K w v rs) (hs : Small rs) :
  Calls Tryz.prog 79 #[.agg #[v], .int .i64 t, .bool c] w (ShardBool w (dec rs t c)) := by
 obtain ⟨a, cap, rfl, hcap, -⟩ := hv.shape
 have HV := hid hv
 have HS := hid hs
 have F0 : Fr w.heap.size [] w ((w.alloc (.cells #[.slice a rs.length cap] 81)).alloc (.cells #[.slice none 0 0] 81)) := ((Fr.refl w.heap.size [] w).alloc _).alloc _
 have hB := two_boxes w (.cells #[.slice a rs.length cap] 81) (.cells #[.slice none 0 0] 81)
 have B0 := hid hB.1
 have C0 := hid hB.2
 clear hv hs hB
 cases g0 : valid rs && inR t 0 11
 case false =>
  have hz := hid (show dec rs t c = ([], false) by unfold dec; rw [g0]; rfl)
  cases g1 : valid rs
  all_goals cases g2 : inR t 0 11
  case true.true => rw [g1, g2] at g0; cases g0
  all_goals
   go_enter Tryz.func79, Tryz.ntmps79
   go_wp2_with (first
    | (go_at_call 48; go_must (refine (specShardValid_any K _ rs _ (HV.out.grow F0) HS.out).mono ?_; rintro e w1 ⟨rfl, fr1⟩; have F1 := F0.trans fr1.nil; have C1 := hid (fr1.keep _ _ C0.out (.inr (by simp))); have B1 := hid (fr1.keep _ _ B0.out (.inr (by simp))); have c1 := cell_of (o := 0) C1.out rfl; have c2 := free_of (o := 0) C1.out; have b1 := cell_of (o := 0) B1.out rfl; have hlb := lt_of_get C1.out))
    | (go_at_call 112; go_must (refine (l12Txn_any _ _).mono ?_; rintro e w' ⟨rfl, rfl⟩)))
   exact bodyPost_ret (v := .tuple #[.agg #[.slice none 0 0], .bool false]) (by simp [results, Tryz.results79, go_sem, c1]) rfl ⟨_, by rw [hz.out], by rw [hz.out]; exact RecsOwn.nil _ _, F1.setNew (by dsimp only; omega) _⟩
 case true =>
  have hg : valid rs = true ∧ inR t 0 11 = true := by simpa using g0
  obtain ⟨g1, g2⟩ := hg
  have hl := valid_len g1
  cases c
  case false =>
   cases g4 : ask rs t == 3
   case true =>
    have hz := hid (show dec rs t false = (rs, true) by unfold dec; rw [g0]; simp only [Bool.not_true, Bool.false_eq_true, if_false, if_true]; rw [g4]; rfl)
    go_enter Tryz.func79, Tryz.ntmps79
    go_wp2_with (first
     | (go_at_call 48; go_must (refine (specShardValid_any K _ rs _ (HV.out.grow F0) HS.out).mono ?_; rintro e w1 ⟨rfl, fr1⟩; have F1 := F0.trans fr1.nil; have C1 := hid (fr1.keep _ _ C0.out (.inr (by simp))); have B1 := hid (fr1.keep _ _ B0.out (.inr (by simp))); have c1 := cell_of (o := 0) C1.out rfl; have c2 := free_of (o := 0) C1.out; have b1 := cell_of (o := 0) B1.out rfl; have hlb := lt_of_get C1.out))
     | (go_at_call 112; go_must (refine (l12Txn_any _ _).mono ?_; rintro e w' ⟨rfl, rfl⟩))
     | (go_at_call 115; go_must (refine (l21Ask_any K _ rs _ _ (HV.out.grow F1) HS.out.1).mono ?_; rintro e w' ⟨rfl, rfl⟩))
     | (go_at_call 68; go_must (refine (l21Copy_any K _ rs _ (HV.out.grow F1) HS.out).mono ?_; rintro e w4 ⟨v4, rfl, own4, fr4⟩; obtain ⟨a4, cap4, rfl, _, _⟩ := own4.reads.shape; have OWN4 := hid own4; have F4 := F1.trans fr4.nil; have C4 := hid (fr4.keep _ _ C1.out (.inr (by simp))); have d1 := cell_of (o := 0) C4.out rfl; have d2 := free_of (o := 0) C4.out; clear own4)))
    have FT := hid ((Fr.refl 0 [81] w4).setOld (p := ⟨w.heap.size + 1, 0, none⟩) C4.out (Nat.zero_le _) (by simp [otag]) (.slice a4 rs.length cap4))
    exact bodyPost_ret (v := .tuple #[.agg #[.slice a4 rs.length cap4], .bool true]) (by simp [results, Tryz.results79, go_sem, d1]) rfl
     ⟨_, by rw [hz.out], by rw [hz.out]; exact (OWN4.out.lower F1.size).keep FT.out (by simp) (by simp), F4.setNew (by dsimp only; omega) _⟩
   case false =>
    have hz := hid (show dec rs t false = if valid (rs ++ [⟨3, t, []⟩]) then (rs ++ [⟨3, t, []⟩], true) else (rs, false) by unfold dec; rw [g0]; simp only [Bool.not_true, Bool.false_eq_true, if_false, if_true]; rw [g4]; rfl)
    go_enter Tryz.func79, Tryz.ntmps79
    go_wp2_with (first
     | (go_at_call 48; go_must (refine (specShardValid_any K _ rs _ (HV.out.grow F0) HS.out).mono ?_; rintro e w1 ⟨rfl, fr1⟩; have F1 := F0.trans fr1.nil; have C1 := hid (fr1.keep _ _ C0.out (.inr (by simp))); have B1 := hid (fr1.keep _ _ B0.out (.inr (by simp))); have c1 := cell_of (o := 0) C1.out rfl; have c2 := free_of (o := 0) C1.out; have b1 := cell_of (o := 0) B1.out rfl; have hlb := lt_of_get C1.out))
     | (go_at_call 112; go_must (refine (l12Txn_any _ _).mono ?_; rintro e w' ⟨rfl, rfl⟩))
     | (go_at_call 115; go_must (refine (l21Ask_any K _ rs _ _ (HV.out.grow F1) HS.out.1).mono ?_; rintro e w' ⟨rfl, rfl⟩))
     | (go_at_call 116; go_must (refine (l21Add_any K (new 0) _ _ rs ⟨3, t, []⟩ _ (HV.out.grow F1) HS.out (by omega) (SlR.nil _ _ _ _) (by simp)).mono ?_; rintro e w6 ⟨v6, rfl, own6, fr6⟩; generalize hrs6 : (if valid (rs ++ [⟨3, t, []⟩]) then rs ++ [⟨3, t, []⟩] else rs) = rs6 at own6; have HR6 := hid hrs6; clear hrs6; generalize hok : valid (rs ++ [⟨3, t, []⟩]) = ok; have HOK := hid hok; clear hok; obtain ⟨a6, cap6, rfl, _, _⟩ := own6.reads.shape; have OWN6 := hid own6; have F6 := F1.trans fr6.nil; have C6 := hid (fr6.keep _ _ C1.out (.inr (by simp))); have q1 := cell_of (o := 0) C6.out rfl; have q2 := free_of (o := 0) C6.out; clear own6)))
    have FT := hid ((Fr.refl 0 [81] w6).setOld (p := ⟨w.heap.size + 1, 0, none⟩) C6.out (Nat.zero_le _) (by simp [otag]) (.slice a6 rs6.length cap6))
    exact bodyPost_ret (v := .tuple #[.agg #[.slice a6 rs6.length cap6], .bool ok]) (by simp [results, Tryz.results79, go_sem, q1]) rfl
     ⟨_, by rw [hz.out, HOK.out]; cases ok <;> rfl, by
      have e6 : (dec rs t false).1 = rs6 := by rw [hz.out, ← HR6.out]; split <;> rfl
      rw [e6]; exact (OWN6.out.lower F1.size).keep FT.out (by simp) (by simp), F6.setNew (by dsimp only; omega) _⟩
  case true =>
   cases g4 : ask rs t == 2
   case true =>
    have hz := hid (show dec rs t true = (rs, true) by unfold dec; rw [g0]; simp only [Bool.not_true, Bool.false_eq_true, if_false, if_true]; rw [g4]; rfl)
    go_enter Tryz.func79, Tryz.ntmps79
    go_wp2_with (first
     | (go_at_call 48; go_must (refine (specShardValid_any K _ rs _ (HV.out.grow F0) HS.out).mono ?_; rintro e w1 ⟨rfl, fr1⟩; have F1 := F0.trans fr1.nil; have C1 := hid (fr1.keep _ _ C0.out (.inr (by simp))); have B1 := hid (fr1.keep _ _ B0.out (.inr (by simp))); have c1 := cell_of (o := 0) C1.out rfl; have c2 := free_of (o := 0) C1.out; have b1 := cell_of (o := 0) B1.out rfl; have hlb := lt_of_get C1.out))
     | (go_at_call 112; go_must (refine (l12Txn_any _ _).mono ?_; rintro e w' ⟨rfl, rfl⟩))
     | (go_at_call 115; go_must (refine (l21Ask_any K _ rs _ _ (HV.out.grow F1) HS.out.1).mono ?_; rintro e w' ⟨rfl, rfl⟩))
     | (go_at_call 68; go_must (refine (l21Copy_any K _ rs _ (HV.out.grow F1) HS.out).mono ?_; rintro e w4 ⟨v4, rfl, own4, fr4⟩; obtain ⟨a4, cap4, rfl, _, _⟩ := own4.reads.shape; have OWN4 := hid own4; have F4 := F1.trans fr4.nil; have C4 := hid (fr4.keep _ _ C1.out (.inr (by simp))); have d1 := cell_of (o := 0) C4.out rfl; have d2 := free_of (o := 0) C4.out; clear own4)))
    have FT := hid ((Fr.refl 0 [81] w4).setOld (p := ⟨w.heap.size + 1, 0, none⟩) C4.out (Nat.zero_le _) (by simp [otag]) (.slice a4 rs.length cap4))
    exact bodyPost_ret (v := .tuple #[.agg #[.slice a4 rs.length cap4], .bool true]) (by simp [results, Tryz.results79, go_sem, d1]) rfl
     ⟨_, by rw [hz.out], by rw [hz.out]; exact (OWN4.out.lower F1.size).keep FT.out (by simp) (by simp), F4.setNew (by dsimp only; omega) _⟩
   case false =>
    have hz := hid (show dec rs t true = if valid (rs ++ [⟨2, t, []⟩]) then (rs ++ [⟨2, t, []⟩], true) else (rs, false) by unfold dec; rw [g0]; simp only [Bool.not_true, Bool.false_eq_true, if_false, if_true]; rw [g4]; rfl)
    go_enter Tryz.func79, Tryz.ntmps79
    go_wp2_with (first
     | (go_at_call 48; go_must (refine (specShardValid_any K _ rs _ (HV.out.grow F0) HS.out).mono ?_; rintro e w1 ⟨rfl, fr1⟩; have F1 := F0.trans fr1.nil; have C1 := hid (fr1.keep _ _ C0.out (.inr (by simp))); have B1 := hid (fr1.keep _ _ B0.out (.inr (by simp))); have c1 := cell_of (o := 0) C1.out rfl; have c2 := free_of (o := 0) C1.out; have b1 := cell_of (o := 0) B1.out rfl; have hlb := lt_of_get C1.out))
     | (go_at_call 112; go_must (refine (l12Txn_any _ _).mono ?_; rintro e w' ⟨rfl, rfl⟩))
     | (go_at_call 115; go_must (refine (l21Ask_any K _ rs _ _ (HV.out.grow F1) HS.out.1).mono ?_; rintro e w' ⟨rfl, rfl⟩))
     | (go_at_call 116; go_must (refine (l21Add_any K (new 0) _ _ rs ⟨2, t, []⟩ _ (HV.out.grow F1) HS.out (by omega) (SlR.nil _ _ _ _) (by simp)).mono ?_; rintro e w6 ⟨v6, rfl, own6, fr6⟩; generalize hrs6 : (if valid (rs ++ [⟨2, t, []⟩]) then rs ++ [⟨2, t, []⟩] else rs) = rs6 at own6; have HR6 := hid hrs6; clear hrs6; generalize hok : valid (rs ++ [⟨2, t, []⟩]) = ok; have HOK := hid hok; clear hok; obtain ⟨a6, cap6, rfl, _, _⟩ := own6.reads.shape; have OWN6 := hid own6; have F6 := F1.trans fr6.nil; have C6 := hid (fr6.keep _ _ C1.out (.inr (by simp))); have q1 := cell_of (o := 0) C6.out rfl; have q2 := free_of (o := 0) C6.out; clear own6)))
    have FT := hid ((Fr.refl 0 [81] w6).setOld (p := ⟨w.heap.size + 1, 0, none⟩) C6.out (Nat.zero_le _) (by simp [otag]) (.slice a6 rs6.length cap6))
    exact bodyPost_ret (v := .tuple #[.agg #[.slice a6 rs6.length cap6], .bool ok]) (by simp [results, Tryz.results79, go_sem, q1]) rfl
     ⟨_, by rw [hz.out, HOK.out]; cases ok <;> rfl, by
      have e6 : (dec rs t true).1 = rs6 := by rw [hz.out, ← HR6.out]; split <;> rfl
      rw [e6]; exact (OWN6.out.lower F1.size).keep FT.out (by simp) (by simp), F6.setNew (by dsimp only; omega) _⟩

theorem pick_at {B r p : Nat} {n : Int} {w : World} (hR : Rdr B w r p) (hp : p ≤ 1000000000) :
  Calls Tryz.prog 34 #[.pointer (some ⟨r, 0, none⟩), .int .i64 n] w (PickPost B r p n w) := pick_any B r p n w hp hR

def DrawI (B r p c : Nat) (w : World) (e : Ending) (w' : World) : Prop :=
 ∃ (n : Int) (q : Nat), e = .returned (.int .i64 n) ∧ Rdr B w' r q ∧ q ≤ p + c ∧ Fr B [86] w w' ∧ -1000 ≤ n ∧ n ≤ 1000

theorem Rdr.alloc {B r p : Nat} {w : World} (h : Rdr B w r p) (o : Obj) : Rdr B (w.alloc o) r p := h.keep ((Fr.refl B [] w).alloc o) (by simp)

theorem cell3 {w : World} {b t : Nat} {x y z : Int} {f : Nat × Nat} (h : w.heap[b]? = some (.cells #[.int .i64 x, .int .i64 y, .int .i64 z] t f)) {k : Nat} (hk : k < 3) :
  ∃ n, w.cell? ⟨b, k, none⟩ = some (.int .i64 n) ∧ (n = x ∨ n = y ∨ n = z) := by
 match k, hk with
 | 0, _ => exact ⟨x, cell_of h rfl, .inl rfl⟩
 | 1, _ => exact ⟨y, cell_of h rfl, .inr (.inl rfl)⟩
 | 2, _ => exact ⟨z, cell_of h rfl, .inr (.inr rfl)⟩

set_option maxRecDepth 20000 in
set_option maxHeartbeats 1000000 in
theorem l92Value_any {B r p : Nat} {w : World} (hR : Rdr B w r p) (hp : p ≤ 999999990) :
  Calls Tryz.prog 117 #[.pointer (some ⟨r, 0, none⟩)] w (DrawI B r p 2 w) := by
 go_enter Tryz.func117, Tryz.ntmps117
 go_wp2_with (first
  | (go_at_call 34; (with_reducible refine (pick_at hR (by omega)).mono ?_); go_must (rintro e w1 ⟨k, rfl, hk, hR1, hf1⟩))
  | (go_at_call 34; (with_reducible refine (pick_at hR1 (by omega)).mono ?_); go_must (rintro e w2 ⟨j, rfl, hj, hR2, hf2⟩; have hj6 : (j : Int) < 6 := by omega))
  | (go_at_call 34; go_must (refine (pick_at (hR1.alloc _) (by omega)).mono ?_; rintro e w2 ⟨j, rfl, hj, hR2, hf2⟩; have hj3 : j < 3 := (by omega); have hcb := hf2.keep _ _ (heap_alloc_new w1 (.cells #[.int .i64 (-2), .int .i64 990, .int .i64 991] 3)) (.inr (by simp [otag])); obtain ⟨m, hm, hmm⟩ := cell3 hcb hj3; have hj3' : (j : Int) < 3 := (by omega); have HM := hid hmm; clear hmm)))
 ·go_ret
  have hmm := HM.out
  exact ⟨m, _, rfl, hR2, by omega, (hf1.alloc _).trans hf2, by omega, by omega⟩
 ·go_ret
  exact ⟨_, _, rfl, hR2, by omega, hf1.trans hf2, by omega, by omega⟩

end Go.Proofs.YtknoanpgadecbaaGreatDoor
