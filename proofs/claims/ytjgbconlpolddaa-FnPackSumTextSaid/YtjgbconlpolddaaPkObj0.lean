/- Towards PackObjects: small facts. -/
import Derived.Test.YtjgbconlpolddaaPkUnp
import Derived.Test.YtjgbconlpolddaaPkOwn
namespace Go.Proofs.Ytjgbconlpolddaa
open Go.RowKit
set_option linter.unusedVariables false

theorem ObsOwn.nil (lo : Nat) (w : World) : ObsOwn lo w (.slice none 0 0) [] := ⟨[], rfl, World.ownsRow_nil _ _ _ _, fun z hz => by cases hz⟩

theorem linked_of {K : Nat → Bool → Prop} {lo : Nat} {w : World} {es : List En} {e : Ending} (hl : linkOk es = true) (h : (linkOk es = false ∧ e = .returned (.tuple #[.slice none 0 0, .bool false])) ∨ (linkOk es = true ∧ ∃ v' bs, e = .returned (.tuple #[v', .bool true]) ∧ Linked K lo w v' bs es es.length)) : ∃ v' bs, e = .returned (.tuple #[v', .bool true]) ∧ Linked K lo w v' bs es es.length := by
  rcases h with ⟨h, _⟩ | ⟨_, h⟩
  · rw [hl] at h; cases h
  · exact h

theorem btext {w : World} {pp : Option Addr} {tb : Tx} (h : (pp = none ∧ tb = []) ∨ ∃ b2, pp = some ⟨b2, 0, none⟩ ∧ b2 < w.heap.size ∧ w.cell? ⟨b2, 5, none⟩ = some (.string (tx tb))) : (pp = none ∧ tb = []) ∨ ∃ b2, pp = some ⟨b2, 0, none⟩ ∧ w.drew.cell? ⟨b2, 5, none⟩ = some (.string (tx tb)) := by
  rcases h with h | ⟨b2, h1, _, h3⟩
  · exact .inl h
  · exact .inr ⟨b2, h1, h3⟩

theorem poTo_fail {es : List En} {k : Nat} {os : List Ob} {ds : List Nat} {tb : Tx} (hk : k < es.length) (h : poTo es k = some (os, ds)) (ht : baseT (os.map (·.text)) es[k].base = tb)
    (hn : dapp tb es[k].ops = none ∨ ¬ baseD ds es[k].base ≤ 2 ∨ ∃ t, dapp tb es[k].ops = some t ∧ obOk ⟨es[k].kind, es[k].links, t⟩ = false) : poTo es es.length = none := by
  subst ht
  refine poTo_none (k := k + 1) ?_ _ hk
  rw [poTo_succ hk h]
  rcases hn with hn | hn | ⟨t, hn, hb⟩
  · rw [hn]
  · split
    · rw [if_neg (fun h => hn h.1)]
    · rfl
  · rw [hn]
    dsimp only
    rw [if_neg (fun h => by rw [hb] at h; exact absurd h.2 (by decide))]

theorem poTo_go {es : List En} {k : Nat} {os : List Ob} {ds : List Nat} {tb t : Tx} (hk : k < es.length) (h : poTo es k = some (os, ds)) (ht : baseT (os.map (·.text)) es[k].base = tb)
    (hn : dapp tb es[k].ops = some t) (hd : baseD ds es[k].base ≤ 2) (ho : obOk ⟨es[k].kind, es[k].links, t⟩ = true) : poTo es (k + 1) = some (os ++ [⟨es[k].kind, es[k].links, t⟩], ds ++ [baseD ds es[k].base]) := by
  subst ht
  rw [poTo_succ hk h, hn]
  dsimp only
  rw [if_pos ⟨hd, ho⟩]

/-- Three cells of a block laid anew. -/
theorem fill3 {w : World} {E T : Nat} {z0 z1 z2 x0 x1 x2 : Value} (h : w.heap[E]? = some (.cells #[z0, z1, z2] T (0, 0))) :
    (((w.setCell ⟨E, 0, none⟩ x0).setCell ⟨E, 1, none⟩ x1).setCell ⟨E, 2, none⟩ x2).heap[E]? = some (.cells #[x0, x1, x2] T (0, 0)) := by
  have := block_set (block_set (block_set h 0 x0) 1 x1) 2 x2
  simpa using this

theorem other3 {w : World} {E k : Nat} {o : Obj} {x0 x1 x2 : Value} (h : w.heap[k]? = some o) (hk : k ≠ E) :
    (((w.setCell ⟨E, 0, none⟩ x0).setCell ⟨E, 1, none⟩ x1).setCell ⟨E, 2, none⟩ x2).heap[k]? = some o :=
  block_setne (block_setne (block_setne h hk) hk) hk

theorem Fr.fill3 {B E T : Nat} {a w : World} {z0 z1 z2 x0 x1 x2 : Value} (hf : Fr B [T] a w) (h : w.heap[E]? = some (.cells #[z0, z1, z2] T (0, 0))) (hB : B ≤ E) :
    Fr B [T] a (((w.setCell ⟨E, 0, none⟩ x0).setCell ⟨E, 1, none⟩ x1).setCell ⟨E, 2, none⟩ x2) := by
  have b1 := block_set h 0 x0
  have b2 := block_set b1 1 x1
  exact ((hf.setOld (p := ⟨E, 0, none⟩) h hB (by simp [otag]) x0).setOld (p := ⟨E, 1, none⟩) b1 hB (by simp [otag]) x1).setOld (p := ⟨E, 2, none⟩) b2 hB (by simp [otag]) x2

theorem Fr.new3 {B E : Nat} {T : List Nat} {a w : World} {x0 x1 x2 : Value} (hf : Fr B T a w) (hB : a.heap.size ≤ E) :
    Fr B T a (((w.setCell ⟨E, 0, none⟩ x0).setCell ⟨E, 1, none⟩ x1).setCell ⟨E, 2, none⟩ x2) :=
  ((hf.setNew (p := ⟨E, 0, none⟩) hB x0).setNew (p := ⟨E, 1, none⟩) hB x1).setNew (p := ⟨E, 2, none⟩) hB x2

end Go.Proofs.Ytjgbconlpolddaa
