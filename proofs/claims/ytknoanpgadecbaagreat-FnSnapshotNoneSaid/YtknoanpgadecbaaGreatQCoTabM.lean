/- The tables of refs, in plain Lean: what the program's SnapshotRefs fills is what the reference's returns. -/
import Derived.Test.YtknoanpgadecbaaGreatQM10
set_option linter.unusedVariables false
set_option linter.unusedSimpArgs false
namespace Go.Proofs.YtknoanpgadecbaaGreat
open Go.RowKit
set_option linter.unusedVariables false

def offTo (L : List Int) (o : Nat) (us : List Upd) : Nat → List Int
 | 0 => L
 | k + 1 => match us[k]? with | some u => (offTo L o us k).set (o + u.ref.toNat) u.new | none => offTo L o us k

def offAll (L : List Int) (o : Nat) (us : List Upd) : List Int := offTo L o us us.length

theorem offTo_succ {L : List Int} {o : Nat} {us : List Upd} {k : Nat} (h : k < us.length) : offTo L o us (k + 1) = (offTo L o us k).set (o + us[k].ref.toNat) us[k].new := by
 show (match us[k]? with | some u => (offTo L o us k).set (o + u.ref.toNat) u.new | none => offTo L o us k) = _
 rw [List.getElem?_eq_getElem h]

theorem offTo_len (L : List Int) (o : Nat) (us : List Upd) : ∀ k, (offTo L o us k).length = L.length
 | 0 => rfl
 | k + 1 => by
  by_cases h : k < us.length
  ·rw [offTo_succ h, List.length_set, offTo_len L o us k]
  ·show (match us[k]? with | some u => (offTo L o us k).set (o + u.ref.toNat) u.new | none => offTo L o us k).length = _
   rw [List.getElem?_eq_none (Nat.le_of_not_lt h)]
   exact offTo_len L o us k

def All4 (T : List (List Int)) : Prop := ∀ l ∈ T, l.length = 4

theorem All4.set {T : List (List Int)} (h : All4 T) {s : Nat} {l : List Int} (hl : l.length = 4) : All4 (T.set s l) := fun x hx => by
 rcases List.mem_or_eq_of_mem_set hx with hx | rfl
 ·exact h x hx
 ·exact hl

theorem All4.at {T : List (List Int)} (h : All4 T) {s : Nat} (hs : s < T.length) : (T.getD s []).length = 4 := by
 rw [List.getD_eq_getElem?_getD, List.getElem?_eq_getElem hs]; exact h _ (List.getElem_mem hs)

theorem flat_len {T : List (List Int)} (h : All4 T) : T.flatten.length = 4 * T.length := by
 induction T with
 | nil => rfl
 | cons l T ih =>
  rw [List.flatten_cons, List.length_append, ih fun x hx => h x (List.mem_cons_of_mem _ hx), h l (List.mem_cons_self ..), List.length_cons]
  omega

theorem flat_set {T : List (List Int)} (h : All4 T) {s j : Nat} (hs : s < T.length) (hj : j < 4) (x : Int) : T.flatten.set (4 * s + j) x = (T.set s ((T.getD s []).set j x)).flatten := by
 induction T generalizing s with
 | nil => simp at hs
 | cons l T ih =>
  have hl : l.length = 4 := h l (List.mem_cons_self ..)
  cases s with
  | zero =>
   show (l ++ T.flatten).set (4 * 0 + j) x = (l.set j x) ++ T.flatten
   rw [List.set_append_left _ _ (by omega)]
   simp
  | succ s =>
   show (l ++ T.flatten).set (4 * (s + 1) + j) x = l ++ (T.set s ((T.getD s []).set j x)).flatten
   rw [List.set_append_right _ _ (by omega), ← ih (fun x hx => h x (List.mem_cons_of_mem _ hx)) (by simpa using hs)]
   congr 2
   omega

theorem flat_get {T : List (List Int)} (h : All4 T) {s j : Nat} (hs : s < T.length) (hj : j < 4) : T.flatten[4 * s + j]? = (T.getD s [])[j]? := by
 induction T generalizing s with
 | nil => simp at hs
 | cons l T ih =>
  have hl : l.length = 4 := h l (List.mem_cons_self ..)
  cases s with
  | zero =>
   show (l ++ T.flatten)[4 * 0 + j]? = l[j]?
   rw [List.getElem?_append_left (by omega)]
   congr 1
   omega
  | succ s =>
   show (l ++ T.flatten)[4 * (s + 1) + j]? = (T.getD s [])[j]?
   rw [List.getElem?_append_right (by omega), ← ih (fun x hx => h x (List.mem_cons_of_mem _ hx)) (by simpa using hs)]
   congr 1
   omega

theorem getD_set {T : List (List Int)} {s : Nat} (hs : s < T.length) (l : List Int) (x : Nat) : (T.set s l).getD x [] = if s = x then l else T.getD x [] := by
 rw [List.getD_eq_getElem?_getD, List.getElem?_set, List.getD_eq_getElem?_getD]
 by_cases h : s = x
 ·rw [if_pos h, if_pos h, if_pos (by omega)]; rfl
 ·rw [if_neg h, if_neg h]

theorem off_flat {T : List (List Int)} (h : All4 T) {s : Nat} (hs : s < T.length) {us : List Upd} (hin : ∀ k (hk : k < us.length), 0 ≤ us[k].ref ∧ us[k].ref ≤ 3) : ∀ k, k ≤ us.length → offTo T.flatten (4 * s) us k = (T.set s (setTo (T.getD s []) us k)).flatten
 | 0, _ => by
  show T.flatten = (T.set s (T.getD s [])).flatten
  congr 1
  rw [List.getD_eq_getElem?_getD, List.getElem?_eq_getElem hs]
  simp
 | k + 1, hk => by
  have hk' : k < us.length := hk
  have h4 : (setTo (T.getD s []) us k).length = 4 := by rw [setTo_length]; exact h.at hs
  rw [offTo_succ hk', off_flat h hs hin k (by omega), flat_set (h.set h4) (by rw [List.length_set]; exact hs) (by have := hin k hk'; omega), getD_set hs, if_pos rfl, List.set_set, setTo_succ hk']

def tabPart (ss : List (List Rc)) (t : Int) (T : List (List Int)) (p : Pt) : List (List Int) := T.set p.shard.toNat (setAll (T.getD p.shard.toNat []) (upsOf (shAt ss p.shard) t))

def tabParts (ss : List (List Rc)) (t : Int) (ps : List Pt) (T : List (List Int)) (k : Nat) : List (List Int) := (ps.take k).foldl (tabPart ss t) T

def tabTx (c : Co) (ss : List (List Rc)) (T : List (List Int)) (t : Int) : List (List Int) := match c.txns[t.toNat]? with
 | some tn => tn.parts.foldl (tabPart ss t) T
 | none => T

def tab0 : List (List Int) := [ [-1, -1, -1, -1], [-1, -1, -1, -1], [-1, -1, -1, -1] ]

def tabs (c : Co) (ss : List (List Rc)) (n : Nat) : List (List Int) := (c.order.take n).foldl (tabTx c ss) tab0

structure Tab (T : List (List Int)) : Prop where
 len : T.length = 3
 four : All4 T

theorem Tab.part {T : List (List Int)} (h : Tab T) (ss : List (List Rc)) (t : Int) (p : Pt) (hp : 0 ≤ p.shard ∧ p.shard ≤ 2) : Tab (tabPart ss t T p) := by
 refine ⟨by unfold tabPart; rw [List.length_set]; exact h.len, h.four.set ?_⟩
 unfold setAll
 rw [setTo_length]
 exact h.four.at (by have := h.len; omega)

theorem Tab.parts {T : List (List Int)} (h : Tab T) (ss : List (List Rc)) (t : Int) (ps : List Pt) (hp : ∀ p ∈ ps, 0 ≤ p.shard ∧ p.shard ≤ 2) : Tab (ps.foldl (tabPart ss t) T) := by
 induction ps generalizing T with
 | nil => exact h
 | cons p ps ih => exact ih (h.part ss t p (hp p (List.mem_cons_self ..))) fun q hq => hp q (List.mem_cons_of_mem _ hq)

theorem tabParts_succ {ss : List (List Rc)} {t : Int} {ps : List Pt} {T : List (List Int)} {k : Nat} (h : k < ps.length) : tabParts ss t ps T (k + 1) = tabPart ss t (tabParts ss t ps T k) ps[k] := by
 unfold tabParts
 rw [List.take_succ_eq_append_getElem h, List.foldl_append]
 rfl

theorem tabs_succ {c : Co} {ss : List (List Rc)} {n : Nat} (h : n < c.order.length) : tabs c ss (n + 1) = tabTx c ss (tabs c ss n) c.order[n] := by
 unfold tabs
 rw [List.take_succ_eq_append_getElem h, List.foldl_append]
 rfl

theorem tabTx_at {c : Co} {ss : List (List Rc)} {T : List (List Int)} {i : Nat} (h : i < c.txns.length) : tabTx c ss T (i : Int) = tabParts ss i c.txns[i].parts T c.txns[i].parts.length := by
 unfold tabTx tabParts
 rw [show ((i : Int).toNat) = i from rfl, List.getElem?_eq_getElem h, List.take_length]

theorem parts_asc {ps : List Pt} (h : partsOk ps = true) : ps.Pairwise fun p q => p.shard < q.shard := by
 have hat := partsTo_at (ps := ps) (n := ps.length) (by simp [partsOk] at h; exact h.1)
 rw [List.pairwise_iff_getElem]
 intro i j hi hj hij
 induction j with
 | zero => omega
 | succ j ih =>
  have h1 := hat (j + 1) hj
  simp only [partAt, List.getElem?_eq_getElem hj, List.getElem?_eq_getElem (show j < ps.length by omega), Bool.and_eq_true, decide_eq_true_eq] at h1
  by_cases e : i = j
  ·subst e; exact h1.2
  ·have := ih (by omega) (by omega); have := h1.2; omega

theorem hasPart_iff {ps : List Pt} {x : Int} : 0 ≤ partOf ps x ↔ ∃ p ∈ ps, p.shard = x := by
 unfold partOf
 constructor
 ·intro h
  split at h
  ·rename_i hlt
   have := List.findIdx_getElem (w := hlt)
   exact ⟨_, List.getElem_mem hlt, by simpa using this⟩
  ·omega
 ·rintro ⟨p, hp, hx⟩
  have : ps.findIdx (fun p => p.shard == x) < ps.length := List.findIdx_lt_length_of_exists ⟨p, hp, by simpa using hx⟩
  rw [if_pos this]
  omega

theorem foldl_part (ss : List (List Rc)) (t : Int) (ps : List Pt) (T : List (List Int)) (hT : Tab T) (hp : ∀ p ∈ ps, 0 ≤ p.shard ∧ p.shard ≤ 2) (ha : ps.Pairwise fun p q => p.shard < q.shard) (x : Nat) (hx : x < 3) :
  (ps.foldl (tabPart ss t) T).getD x [] = if ∃ p ∈ ps, p.shard = (x : Int) then setAll (T.getD x []) (upsOf (shAt ss (x : Int)) t) else T.getD x [] := by
 induction ps generalizing T with
 | nil => simp
 | cons p ps ih =>
  have hp0 := hp p (List.mem_cons_self ..)
  have h3 := hT.len
  rw [List.foldl_cons, ih _ (hT.part ss t p hp0) (fun q hq => hp q (List.mem_cons_of_mem _ hq)) (List.pairwise_cons.1 ha).2]
  have hg : (tabPart ss t T p).getD x [] = if p.shard = (x : Int) then setAll (T.getD x []) (upsOf (shAt ss (x : Int)) t) else T.getD x [] := by
   unfold tabPart
   rw [getD_set (by omega)]
   by_cases e : p.shard = (x : Int)
   ·rw [if_pos e, if_pos (by omega), e]; rfl
   ·rw [if_neg e, if_neg (by omega)]
  rw [hg]
  by_cases e : p.shard = (x : Int)
  ·have hno : ¬ ∃ q ∈ ps, q.shard = (x : Int) := by
    rintro ⟨q, hq, hqx⟩
    have := (List.pairwise_cons.1 ha).1 q hq
    omega
   rw [if_neg hno, if_pos e, if_pos ⟨p, List.mem_cons_self .., e⟩]
  ·rw [if_neg e]
   by_cases h : ∃ q ∈ ps, q.shard = (x : Int)
   ·obtain ⟨q, hq, hqx⟩ := h
    rw [if_pos ⟨q, hq, hqx⟩, if_pos ⟨q, List.mem_cons_of_mem _ hq, hqx⟩]
   ·rw [if_neg h, if_neg]
    rintro ⟨q, hq, hqx⟩
    rcases List.mem_cons.1 hq with rfl | hq
    ·exact e hqx
    ·exact h ⟨q, hq, hqx⟩

theorem tabs_ok {c : Co} (h : coOk c = true) (ss : List (List Rc)) : ∀ n, n ≤ c.order.length → Tab (tabs c ss n) ∧ ∀ x, x < 3 → (tabs c ss n).getD x [] = refsTo c (shAt ss (x : Int)) (x : Int) n
 | 0, _ => ⟨⟨rfl, fun l hl => (show l = [-1, -1, -1, -1] by simpa [tabs, tab0] using hl) ▸ rfl⟩, fun x hx => by
   obtain rfl | rfl | rfl : x = 0 ∨ x = 1 ∨ x = 2 := by omega
   all_goals rfl⟩
 | n + 1, hn => by
  obtain ⟨h1, h2⟩ := tabs_ok h ss n (by omega)
  have hlt : n < c.order.length := hn
  obtain ⟨i, hi, hxi, _⟩ := order_at h (List.getElem_mem hlt)
  have hps := coOk_parts h hi
  have hok := (tnOk_len (coOk_txn h hi)).2
  rw [tabs_succ hlt, hxi, tabTx_at hi]
  unfold tabParts
  rw [List.take_length]
  refine ⟨h1.parts ss _ _ hps, fun x hx => ?_⟩
  rw [foldl_part ss _ _ _ h1 hps (parts_asc hok) x hx, h2 x hx]
  show _ = (match c.order[n]? with
   | some t => if hasPart c t x then setAll (refsTo c (shAt ss x) x n) (upsOf (shAt ss x) t) else refsTo c (shAt ss x) x n
   | none => refsTo c (shAt ss x) x n)
  rw [List.getElem?_eq_getElem hlt]
  simp only [hxi]
  have hh : hasPart c (i : Int) (x : Int) = decide (0 ≤ partOf c.txns[i].parts x) := by
   unfold hasPart
   rw [show ((i : Int).toNat) = i from rfl, List.getElem?_eq_getElem hi]
  rw [hh]
  by_cases e : ∃ p ∈ c.txns[i].parts, p.shard = (x : Int)
  ·rw [if_pos e, if_pos (by rw [decide_eq_true_eq]; exact hasPart_iff.2 e)]
  ·rw [if_neg e, if_neg (by rw [decide_eq_true_eq]; exact fun h => e (hasPart_iff.1 h))]

theorem tabs_snap {c : Co} (h : coOk c = true) (ss : List (List Rc)) {n : Nat} (hn : n ≤ c.order.length) : tabs c ss n = snapTo c ss n 3 := by
 obtain ⟨h1, h2⟩ := tabs_ok h ss n hn
 apply List.ext_getElem
 ·rw [h1.len, snapTo_len]
 ·intro x hx1 hx2
  have h3 : x < 3 := by rw [h1.len] at hx1; exact hx1
  have := h2 x h3
  rw [List.getD_eq_getElem?_getD, List.getElem?_eq_getElem hx1] at this
  rw [show (tabs c ss n)[x] = refsTo c (shAt ss (x : Int)) (x : Int) n from this]
  simp only [snapTo, List.getElem_map, List.getElem_range]

end Go.Proofs.YtknoanpgadecbaaGreat
