/- Making packs: the plain functions. -/
import Derived.Test.YtjgbconlpolddaaPkModel
namespace Go.Proofs.Ytjgbconlpolddaa
open Go.RowKit

/-- The best base among the first k texts, and the size that it makes. -/
def pickTo (ts : List Tx) (ds : List Nat) (t : Tx) : Nat → Int × Nat
  | 0 => (-1, dsize (delta [] t))
  | k + 1 => if ds.getD k 2 < 2 ∧ dsize (delta (ts.getD k []) t) < (pickTo ts ds t k).2 then ((k : Int), dsize (delta (ts.getD k []) t)) else pickTo ts ds t k

/-- The text of a base. -/
def baseT (ts : List Tx) (b : Int) : Tx := if b < 0 then [] else ts.getD b.toNat []

/-- The depth of an entry with this base. -/
def baseD (ds : List Nat) (b : Int) : Nat := if b < 0 then 0 else ds.getD b.toNat 0 + 1

/-- The entries of the first i objects, and their depths. -/
def pk (os : List Ob) : Nat → List En × List Nat
  | 0 => ([], [])
  | i + 1 => match os[i]? with
    | some o => ((pk os i).1 ++ [⟨o.kind, o.links, (pickTo (os.map (·.text)) (pk os i).2 o.text i).1, delta (baseT (os.map (·.text)) (pickTo (os.map (·.text)) (pk os i).2 o.text i).1) o.text⟩],
        (pk os i).2 ++ [baseD (pk os i).2 (pickTo (os.map (·.text)) (pk os i).2 o.text i).1])
    | none => pk os i

/-- The pack of objects. -/
def pack (os : List Ob) : List En := (pk os os.length).1

/-- Whether there is one. -/
def packOk (os : List Ob) : Bool := decide (os.length ≤ 16) && os.all obOk

theorem pk_succ {os : List Ob} {i : Nat} (h : i < os.length) : pk os (i + 1) = ((pk os i).1 ++ [⟨os[i].kind, os[i].links, (pickTo (os.map (·.text)) (pk os i).2 os[i].text i).1, delta (baseT (os.map (·.text)) (pickTo (os.map (·.text)) (pk os i).2 os[i].text i).1) os[i].text⟩],
        (pk os i).2 ++ [baseD (pk os i).2 (pickTo (os.map (·.text)) (pk os i).2 os[i].text i).1]) := by
  simp [pk, List.getElem?_eq_getElem h]

theorem pickTo_in (ts : List Tx) (ds : List Nat) (t : Tx) (k : Nat) : -1 ≤ (pickTo ts ds t k).1 ∧ (pickTo ts ds t k).1 < k ∧ (pickTo ts ds t k).2 = dsize (delta (baseT ts (pickTo ts ds t k).1) t) ∧ (0 ≤ (pickTo ts ds t k).1 → ds.getD (pickTo ts ds t k).1.toNat 2 < 2) := by
  induction k with
  | zero => exact ⟨Int.le_refl _, by simp [pickTo], by simp [pickTo, baseT], fun h => by simp [pickTo] at h⟩
  | succ k ih =>
    obtain ⟨h1, h2, h3, h4⟩ := ih
    unfold pickTo
    split
    · rename_i hc
      refine ⟨by dsimp only; omega, by dsimp only; omega, ?_, fun _ => ?_⟩
      · have : ¬ (k : Int) < 0 := by omega
        simp [baseT, this]
      · simpa using hc.1
    · exact ⟨h1, by omega, h3, h4⟩

theorem pk_len {os : List Ob} : ∀ {i : Nat}, i ≤ os.length → (pk os i).1.length = i ∧ (pk os i).2.length = i := by
  intro i
  induction i with
  | zero => intro _; exact ⟨rfl, rfl⟩
  | succ i ih =>
    intro h
    obtain ⟨h1, h2⟩ := ih (by omega)
    rw [pk_succ (by omega)]
    simp [h1, h2]

/-- The depth of entry i by the bases. -/
def DepE (bs : List Int) : Nat → Nat → Prop
  | 0, i => ∃ b, bs[i]? = some b ∧ b < 0
  | d + 1, i => ∃ b, bs[i]? = some b ∧ 0 ≤ b ∧ DepE bs d b.toNat

theorem DepE.append {bs cs : List Int} : ∀ {d i : Nat}, DepE bs d i → DepE (bs ++ cs) d i := by
  intro d
  induction d with
  | zero =>
    rintro i ⟨b, h1, h2⟩
    exact ⟨b, by rw [List.getElem?_append_left (List.getElem?_eq_some_iff.1 h1).1]; exact h1, h2⟩
  | succ d ih =>
    rintro i ⟨b, h1, h2, h3⟩
    exact ⟨b, by rw [List.getElem?_append_left (List.getElem?_eq_some_iff.1 h1).1]; exact h1, h2, ih h3⟩

theorem pk_inv {os : List Ob} : ∀ {i : Nat}, i ≤ os.length → (∀ d ∈ (pk os i).2, d ≤ 2) ∧ ∀ j, j < i → DepE ((pk os i).1.map (·.base)) ((pk os i).2.getD j 2) j := by
  intro i
  induction i with
  | zero => intro _; exact ⟨fun d hd => (by cases hd), fun j hj => absurd hj (Nat.not_lt_zero _)⟩
  | succ i ih =>
    intro h
    have hi : i < os.length := by omega
    obtain ⟨h1, h2⟩ := ih (by omega)
    obtain ⟨l1, l2⟩ := pk_len (os := os) (i := i) (by omega)
    obtain ⟨p1, p2, p3, p4⟩ := pickTo_in (os.map (·.text)) (pk os i).2 os[i].text i
    rw [pk_succ hi]
    generalize hP : pickTo (os.map (·.text)) (pk os i).2 os[i].text i = P at *
    refine ⟨fun d hd => ?_, fun j hj => ?_⟩
    · rcases List.mem_append.1 hd with hd | hd
      · exact h1 d hd
      · simp at hd
        subst hd
        unfold baseD
        split
        · omega
        · have := p4 (by omega)
          have hlt : P.1.toNat < (pk os i).2.length := by omega
          rw [List.getD_eq_getElem?_getD, List.getElem?_eq_getElem hlt] at this ⊢
          simp at this ⊢
          omega
    · rw [List.map_append]
      by_cases e : j = i
      · subst e
        have hg : ((pk os j).2 ++ [baseD (pk os j).2 P.1]).getD j 2 = baseD (pk os j).2 P.1 := by
          rw [List.getD_eq_getElem?_getD, List.getElem?_append_right (by omega), l2]
          simp
        rw [hg]
        have hb : (List.map (fun x : En => x.base) (pk os j).1 ++ List.map (fun x : En => x.base) [⟨os[j].kind, os[j].links, P.1, delta (baseT (os.map (·.text)) P.1) os[j].text⟩])[j]? = some P.1 := by
          rw [List.getElem?_append_right (by simp [l1])]
          simp [l1]
        unfold baseD
        split
        · exact ⟨P.1, hb, by assumption⟩
        · have hlt : P.1.toNat < j := by omega
          have hd := h2 P.1.toNat hlt
          have e2 : (pk os j).2.getD P.1.toNat 0 = (pk os j).2.getD P.1.toNat 2 := by
            rw [List.getD_eq_getElem?_getD, List.getD_eq_getElem?_getD, List.getElem?_eq_getElem (by omega)]
            rfl
          rw [e2]
          exact ⟨P.1, hb, by omega, hd.append⟩
      · have hj' : j < i := by omega
        have hg : ((pk os i).2 ++ [baseD (pk os i).2 P.1]).getD j 2 = (pk os i).2.getD j 2 := by
          rw [List.getD_eq_getElem?_getD, List.getD_eq_getElem?_getD, List.getElem?_append_left (by omega)]
        rw [hg]
        exact (h2 j hj').append

end Go.Proofs.Ytjgbconlpolddaa
