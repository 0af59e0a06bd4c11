/- slices.Reverse at a row of structs of one's own. -/
import Derived.Test.YtjgbconlpolddaaQPkDeltaS
import Derived.Test.YtjgbconlpolddaaQShelfR
set_option linter.unusedVariables false
set_option linter.unusedSimpArgs false
namespace Go.Proofs.Ytjgbconlpolddaa
open Go.RowKit Go.Sort
set_option linter.unusedVariables false

theorem flatK_list {α : Type} [Inhabited α] (enc : α → List Value) (k : Nat) (hk0 : 0 < k) (hk : ∀ x, (enc x).length = k) (l : List α) : flatK enc k l.toArray = (l.flatMap enc).toArray := by
  have hs : (flatK enc k l.toArray).size = ((l.flatMap enc).toArray).size := by simp [size_flatK, fm_length enc k hk]
  refine ext_get! hs fun t ht => ?_
  have ht' : t < l.toArray.size * k := by simpa using ht
  rw [get_flatK enc k _ t ht']
  have hl : t < l.length * k := by simpa using ht'
  have hd : t / k < l.length := Nat.div_lt_of_lt_mul (by rw [Nat.mul_comm]; exact hl)
  have hm : t % k < k := Nat.mod_lt _ hk0
  have h1 := fm_get enc k hk l (t / k) (t % k) hm hd
  have h2 : t / k * k + t % k = t := by rw [Nat.mul_comm]; exact Nat.div_add_mod t k
  rw [h2] at h1
  have h3 : t < (l.flatMap enc).length := by rw [fm_length enc k hk]; exact hl
  have h4 : t % k < (enc l[t / k]).length := by rw [hk]; exact hm
  rw [List.getElem?_eq_getElem h3, List.getElem?_eq_getElem h4] at h1
  rw [getElem!_pos l.toArray (t / k) (by simpa using hd)]
  rw [getElem!_pos (l.flatMap enc).toArray t (by rw [List.size_toArray]; exact h3), getElem!_pos (enc l.toArray[t / k]) (t % k) (by rw [List.getElem_toArray]; exact h4)]
  simp only [List.getElem_toArray]
  exact (Option.some.inj h1).symm

theorem putCells_take (F cur : Array Value) (h : F.size ≤ cur.size) : (putCells id 0 F cur).toList.take F.size = F.toList := by
  apply List.ext_getElem
  · simp [putCells]; omega
  · intro i h1 h2
    have hi : i < F.size := by simpa using h2
    rw [List.getElem_take]
    simp [putCells, hi, getElem!_pos F i hi]

/-- A row of one's own, its cells laid anew. -/
theorem own_putRow {α : Type} [Inhabited α] (enc : α → List Value) (k : Nat) (hk0 : 0 < k) (hk : ∀ x, (enc x).length = k) {lo E g n cap m : Nat} {w : World} {l l' : List α}
    (h : w.ownsRow lo E k (.slice (some ⟨g, 0, none⟩) n cap) n (l.flatMap enc)) (hn : n = l.length) (hl : l'.length = l.length) :
    (putRowK enc k (Sort.ahead w m) g 0 l'.toArray).ownsRow lo E k (.slice (some ⟨g, 0, none⟩) n cap) n (l'.flatMap enc) ∧ Fr lo [E] w (putRowK enc k (Sort.ahead w m) g 0 l'.toArray) := by
  subst hn
  have hx := h.1
  rcases h.2 with ⟨hh, _⟩ | ⟨g', cap', cur, hh, h1, h2, h3, h4, h5, h6⟩
  · cases hh
  · cases hh
    have hF : (flatK enc k l'.toArray).size = l.length * k := by simp [hl]
    have hle : (flatK enc k l'.toArray).size ≤ cur.size := by rw [hF, h5]; exact Nat.mul_le_mul_right _ h3
    have hheap : ∀ j, (putRowK enc k (Sort.ahead w m) g 0 l'.toArray).heap[j]? = if g = j then (w.heap[j]?).map (onCells (putCells id 0 (flatK enc k l'.toArray))) else w.heap[j]? := fun j => by
      show (w.heap.modify g _)[j]? = _
      rw [Array.getElem?_modify]
    refine ⟨⟨by rw [fm_length enc k hk, hl], .inr ⟨g, cap, putCells id 0 (flatK enc k l'.toArray) cur, rfl, h1, ?_, h3, h4, by simp [putCells, h5], ?_⟩⟩, rfl, rfl, rfl, ?_, fun j o hj hB => ?_⟩
    · rw [hheap, if_pos rfl, h2]; rfl
    · rw [← hF, putCells_take _ _ hle, flatK_list enc k hk0 hk]
    · show w.heap.size ≤ (w.heap.modify g _).size
      simp
    · rw [hheap]
      by_cases e : g = j
      · subst e
        rw [h2] at hj
        cases hj
        rcases hB with hB | hB
        · omega
        · simp [otag] at hB
      · rw [if_neg e]; exact hj

instance : Inhabited Opn := ⟨⟨0, 0, []⟩⟩
instance : Inhabited Ob := ⟨⟨0, [], []⟩⟩

theorem own_holds {α : Type} [Inhabited α] (enc : α → List Value) (k : Nat) (hk0 : 0 < k) (hk : ∀ x, (enc x).length = k) {lo E g n cap : Nat} {w : World} {l : List α}
    (h : w.ownsRow lo E k (.slice (some ⟨g, 0, none⟩) n cap) n (l.flatMap enc)) : HoldsK enc k w g 0 l.toArray := by
  intro j hj
  rw [flatK_list enc k hk0 hk] at hj ⊢
  have hj' : j < (l.flatMap enc).length := by simpa using hj
  rw [Nat.zero_add, h.cellAt j (by rw [← h.1]; exact hj'), h.frozenAt, List.getElem?_eq_getElem hj', getElem!_pos _ _ (by simpa using hj')]
  exact ⟨rfl, rfl⟩

theorem revOp_any {lo : Nat} {w : World} {v : Value} {ops : List Opn} (h : OpsOwn lo w v ops) (hb : ops.length ≤ 1000000000) :
    Calls Try.prog 103 #[v] w fun e w' => e = .returned (.tuple #[]) ∧ OpsOwn lo w' v ops.reverse ∧ Fr lo [109] w w' := by
  by_cases hn : ops = []
  · subst hn
    obtain ⟨a, cap, rfl⟩ := own_any h
    refine (AnyQ.slices_Reverse_empty Try.reverseOp a cap w).mono ?_
    rintro e w' ⟨rfl, rfl⟩
    exact ⟨rfl, h, Fr.refl _ _ _⟩
  · have hp : 0 < ops.length := List.length_pos_iff.2 hn
    obtain ⟨g, cap, rfl, _⟩ := own_shape h hp
    have hH := own_holds encOp 3 (by decide) (fun _ => rfl) h
    have := AnyQ.slices_Reverse Try.reverseOp 3 Try.isAgg109 Try.sizeOf109 encOp (fun _ => rfl) (fun x => by
      intro u hu
      simp [encOp] at hu
      rcases hu with rfl | rfl | rfl <;> rfl) g 0 cap ops.toArray w hH (by simp; omega)
    refine Calls.mono this ?_
    rintro e w' ⟨rfl, m, rfl⟩
    rw [List.reverse_toArray]
    have ⟨r1, r2⟩ := own_putRow (m := m) encOp 3 (by decide) (fun _ => rfl) h rfl (l' := ops.reverse) (by simp)
    refine ⟨rfl, ?_, r2⟩
    unfold OpsOwn
    rw [List.length_reverse]
    exact r1

end Go.Proofs.Ytjgbconlpolddaa
