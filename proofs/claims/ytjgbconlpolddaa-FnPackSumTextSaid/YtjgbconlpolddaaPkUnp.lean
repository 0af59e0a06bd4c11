/- A pack read back: plain laws. -/
import Derived.Test.YtjgbconlpolddaaPkUL
namespace Go.Proofs.Ytjgbconlpolddaa
open Go.RowKit
set_option linter.unusedVariables false

/-- The entry of object k. -/
def entryOf (os : List Ob) (k : Nat) (hk : k < os.length) : En := ⟨os[k].kind, os[k].links, (pickTo (os.map (·.text)) (pk os k).2 os[k].text k).1, delta (baseT (os.map (·.text)) (pickTo (os.map (·.text)) (pk os k).2 os[k].text k).1) os[k].text⟩

theorem pk_at {os : List Ob} : ∀ {i : Nat}, i ≤ os.length → ∀ k (hk : k < os.length), k < i → (pk os i).1[k]? = some (entryOf os k hk) := by
  intro i
  induction i with
  | zero => intro _ k _ h; omega
  | succ i ih =>
    intro hi k hk hki
    rw [pk_succ (by omega)]
    have hl := (pk_len (os := os) (i := i) (by omega)).1
    by_cases e : k = i
    · subst e
      rw [List.getElem?_append_right (by omega), hl]
      simp [entryOf]
    · rw [List.getElem?_append_left (by omega)]
      exact ih (by omega) k hk (by omega)

theorem pack_at {os : List Ob} {k : Nat} (hk : k < os.length) : ∃ h : k < (pack os).length, (pack os)[k] = entryOf os k hk := by
  have h := pk_at (Nat.le_refl _) k hk hk
  obtain ⟨h1, h2⟩ := List.getElem?_eq_some_iff.1 h
  exact ⟨h1, h2⟩

theorem pack_len' (os : List Ob) : (pack os).length = os.length := (pk_len (Nat.le_refl _)).1

theorem pack_link (os : List Ob) : linkOk (pack os) = true := by
  have : ∀ k, k ≤ os.length → linkTo (pack os) k = true := by
    intro k
    induction k with
    | zero => intro _; rfl
    | succ k ih =>
      intro hk
      obtain ⟨h1, h2⟩ := pack_at (os := os) (k := k) (by omega)
      have hp := pickTo_in (os.map (·.text)) (pk os k).2 (os[k]'(by omega)).text k
      show (linkTo (pack os) k && _) = true
      rw [ih (by omega), List.getElem?_eq_getElem h1, h2]
      exact inR_iff.2 ⟨hp.1, by have := hp.2.1; show (pickTo (os.map (·.text)) (pk os k).2 (os[k]'(by omega)).text k).1 ≤ (k : Int) - 1; omega⟩
  unfold linkOk
  rw [pack_len']
  exact this _ (Nat.le_refl _)

theorem baseT_take {ts : List Tx} {b : Int} {k : Nat} (h : b < k) : baseT (ts.take k) b = baseT ts b := by
  unfold baseT
  split
  · rfl
  · rw [List.getD_eq_getElem?_getD, List.getD_eq_getElem?_getD, List.getElem?_take_of_lt (by omega)]

theorem baseT_le {ts : List Tx} {b : Int} (h : ∀ t ∈ ts, t.length ≤ 8) : (baseT ts b).length ≤ 8 := by
  unfold baseT
  split
  · simp
  · rw [List.getD_eq_getElem?_getD]
    cases hx : ts[b.toNat]? with
    | none => simp
    | some t => simpa using h t (List.mem_of_getElem? hx)

theorem packOk_all {os : List Ob} (h : packOk os = true) : os.length ≤ 16 ∧ ∀ o ∈ os, obOk o = true := by
  unfold packOk at h
  simp at h
  exact h

theorem poTo_pack {os : List Ob} (h : packOk os = true) : ∀ k, k ≤ os.length → poTo (pack os) k = some (os.take k, (pk os k).2) := by
  obtain ⟨h1, h2⟩ := packOk_all h
  intro k
  induction k with
  | zero => intro _; rfl
  | succ k ih =>
    intro hk
    have hk' : k < os.length := by omega
    obtain ⟨g1, g2⟩ := pack_at hk'
    obtain ⟨p1, p2, p3, p4⟩ := pickTo_in (os.map (·.text)) (pk os k).2 os[k].text k
    have hinv := (pk_inv (os := os) (i := k + 1) hk).1
    rw [pk_succ hk'] at hinv ⊢
    rw [poTo_succ g1 (ih (by omega)), g2]
    have ht : ∀ t ∈ os.map (·.text), t.length ≤ 8 := fun t ht => by
      obtain ⟨o, ho, rfl⟩ := List.mem_map.1 ht
      exact (obOk_len (h2 o ho)).2
    have hd : dapp (baseT ((os.take k).map (·.text)) (entryOf os k hk').base) (entryOf os k hk').ops = some os[k].text := by
      rw [List.map_take, baseT_take (by exact p2)]
      exact dapp_delta (baseT_le ht) (ht _ (List.mem_map.2 ⟨_, List.getElem_mem hk', rfl⟩))
    rw [hd]
    have hb : baseD (pk os k).2 (entryOf os k hk').base ≤ 2 := hinv _ (by simp [entryOf])
    have ho : obOk ⟨(entryOf os k hk').kind, (entryOf os k hk').links, os[k].text⟩ = true := h2 os[k] (List.getElem_mem hk')
    dsimp only
    rw [if_pos ⟨hb, ho⟩, List.take_add_one, List.getElem?_eq_getElem hk']
    rfl

/-- A pack has its objects. -/
theorem unpack_pack {os : List Ob} (h : packOk os = true) : unpack (pack os) = some os := by
  unfold unpack
  rw [pack_len', if_pos ⟨(packOk_all h).1, pack_link os⟩, poTo_pack h _ (Nat.le_refl _), List.take_length]
  rfl

end Go.Proofs.Ytjgbconlpolddaa
