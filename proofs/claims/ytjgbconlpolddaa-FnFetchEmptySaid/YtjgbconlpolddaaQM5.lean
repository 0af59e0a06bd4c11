/- DrawPackMake. -/
import Derived.Test.YtjgbconlpolddaaQPkDraw3
import Derived.Test.YtjgbconlpolddaaQM3
import Derived.Test.YtjgbconlpolddaaQPkSame
import Derived.Test.YtjgbconlpolddaaQPkSpecD
import Derived.Test.YtjgbconlpolddaaQPkUL
import Derived.Test.YtjgbconlpolddaaQM4
set_option linter.unusedVariables false
set_option linter.unusedSimpArgs false
namespace Go.Proofs.Ytjgbconlpolddaa
open Go.RowKit
set_option linter.unusedVariables false

set_option maxRecDepth 20000 in
set_option maxHeartbeats 1000000 in
theorem drawPackMake_any {w : World} {a : Option Addr} {n cap : Nat} (hb : Bytes w.heap.size w a n cap) (hm : cap ≤ maxLen) :
    Calls Try.prog 9 #[.slice a n cap] w fun e w' => ∃ v os, e = .returned v ∧ ObsOwn w.heap.size w' v os ∧ os.length ≤ 17 ∧ Few os ∧ Fr w.heap.size [] w w' := by
  have HB := hid hb
  clear hb
  go_enter Try.func9, Try.ntmps9
  go_wp2_with (first
    | (go_at_call 34; go_must (refine (l6Open_any HB.out hm).mono ?_; rintro e w1 ⟨rfl, hR1, fr1⟩))
    | (go_at_call 33; go_must (refine (l91List_any hR1 (by omega)).mono ?_; rintro e w2 ⟨v2, os, rfl, own2, hl2, hf2, fr2⟩)))
  go_ret
  exact ⟨v2, os, rfl, own2.lower fr1.size, hl2, hf2, fr1.after fr2⟩

end Go.Proofs.Ytjgbconlpolddaa

/- FnPackBase: plain facts and the walk. -/
namespace Go.Proofs.Ytjgbconlpolddaa
open Go.RowKit
set_option linter.unusedVariables false

theorem Few.b {os : List Ob} (h : Few os) (hl : os.length ≤ 17) : ObsB os := ⟨by omega, fun o ho => by have := (h o ho).1; omega⟩

theorem pk_few {os : List Ob} (h : Few os) : ∀ {i : Nat}, i ≤ os.length → ∀ e ∈ (pk os i).1, e.links.length ≤ 1000 ∧ e.ops.length ≤ 8 := by
  intro i
  induction i with
  | zero => intro _ e he; cases he
  | succ i ih =>
    intro hi e he
    rw [pk_succ (by omega)] at he
    rcases List.mem_append.1 he with he | he
    · exact ih (by omega) e he
    · simp at he
      subst he
      exact ⟨(h _ (List.getElem_mem (by omega))).1, (delta_le _ _).1⟩

theorem pack_len (os : List Ob) : (pack os).length = os.length := (pk_len (Nat.le_refl _)).1

theorem packEn_b {os : List Ob} (h : Few os) (hl : os.length ≤ 17) (ok : Bool) : EnsB (if ok then pack os else []) := by
  cases ok
  · exact ⟨Nat.zero_le _, fun e he => by cases he⟩
  · refine ⟨by rw [if_pos rfl, pack_len]; omega, fun e he => ?_⟩
    rw [if_pos rfl] at he
    have := pk_few h (Nat.le_refl _) e he
    exact ⟨by omega, by omega⟩

theorem fmEn_set2 (zs : List (En × (Value × Value))) {k : Nat} (hk : k < zs.length) (x : Int) : (zs.flatMap encEn).set (k * 4 + 2) (.int .i64 x) = (zs.set k ({ zs[k].1 with base := x }, zs[k].2)).flatMap encEn := by
  induction zs generalizing k with
  | nil => simp at hk
  | cons z zs ih =>
    cases k with
    | zero => simp [encEn]
    | succ k =>
      have hk' : k < zs.length := by simpa using hk
      have e1 : (k + 1) * 4 + 2 = (encEn z).length + (k * 4 + 2) := by simp [encEn]; omega
      simp only [List.flatMap_cons, List.set_cons_succ, List.getElem_cons_succ]
      rw [e1, List.set_append_right _ _ (by omega), Nat.add_sub_cancel_left, ih hk']

/-- An entry's base laid anew. -/
theorem EnsOwn.setBase {lo : Nat} {w : World} {g n cap : Nat} {es : List En} (h : EnsOwn lo w (.slice (some ⟨g, 0, none⟩) n cap) es) {k : Nat} (hk : k < es.length) (x : Int) :
    EnsOwn lo (w.setCell ⟨g, k * 4 + 2, none⟩ (.int .i64 x)) (.slice (some ⟨g, 0, none⟩) n cap) (es.set k { es[k] with base := x }) ∧ Fr lo [32] w (w.setCell ⟨g, k * 4 + 2, none⟩ (.int .i64 x)) := by
  obtain ⟨zs, g1, g2, g3⟩ := h
  have hn : n = es.length := by
    obtain ⟨_, _, he⟩ := own_any g2
    cases he; rfl
  subst hn
  have hz : k < zs.length := by have := congrArg List.length g1; simp at this; omega
  obtain ⟨s1, s2⟩ := g2.stored (k * 4 + 2) (.int .i64 x)
  have F := Fr.ofOwnGrown (T := [32]) (B := lo) g2 s2 (Nat.le_refl _) (by simp)
  refine ⟨⟨zs.set k ({ zs[k].1 with base := x }, zs[k].2), ?_, ?_, fun z hz' => ?_⟩, F⟩
  · subst g1
    rw [List.map_set]
    simp
  · rw [List.length_set, ← fmEn_set2 zs hz x]
    exact s1
  · rcases List.mem_or_eq_of_mem_set hz' with hm | hm
    · exact ⟨(g3 z hm).1.keep F (Safe.new (by simp)), (g3 z hm).2.keep F (Safe.new (by simp))⟩
    · subst hm
      have := g3 _ (List.getElem_mem hz)
      exact ⟨this.1.keep F (Safe.new (by simp)), this.2.keep F (Safe.new (by simp))⟩

theorem link_bad {es : List En} {k : Nat} (hk : k < es.length) : linkOk (es.set k { es[k] with base := (k : Int) }) = false := by
  have hk' : k < (es.set k { es[k] with base := (k : Int) }).length := by simpa using hk
  refine linkTo_false hk' ?_ _ (by simpa using hk)
  simp [inR]
  omega

theorem oneEn {K : Nat → Bool → Prop} {w : World} {zs : List (En × (Value × Value))} (h : ∀ z ∈ zs, IntsR K w z.2.1 z.1.links ∧ OpsR K w z.2.2 z.1.ops) : ∀ u ∈ zs.flatMap encEn, u.oneCell' = true := by
  intro u hu
  obtain ⟨z, hz, hu⟩ := List.mem_flatMap.1 hu
  simp [encEn] at hu
  rcases hu with rfl | rfl | rfl | rfl
  · rfl
  · exact SlR.one (h z hz).1
  · rfl
  · exact SlR.one (h z hz).2

/-- 'append([]PackEntry{}, src...)'. -/
theorem EnsOwn.cloned {lo : Nat} {K : Nat → Bool → Prop} {w : World} {v : Value} {zs : List (En × (Value × Value))} {n : Nat} (h : w.ownsRow lo 32 4 v n (zs.flatMap encEn)) (hn : n = zs.length) (hz : ∀ z ∈ zs, IntsR (new lo) w z.2.1 z.1.links ∧ OpsR (new lo) w z.2.2 z.1.ops) : EnsOwn lo w v (zs.map (·.1)) := by
  subst hn
  exact ⟨zs, rfl, by rw [List.length_map]; exact h, hz⟩

/-- The clone, and a base of it laid anew. -/
theorem EnsOwn.clonedSet {lo l4 : Nat} {w : World} {g cap : Nat} {es : List En} {zs : List (En × (Value × Value))} (h : w.ownsRow l4 32 4 (.slice (some ⟨g, 0, none⟩) es.length cap) es.length (zs.flatMap encEn)) (hl : lo ≤ l4) (hm : zs.map (·.1) = es) (hz : ∀ z ∈ zs, IntsR (new lo) w z.2.1 z.1.links ∧ OpsR (new lo) w z.2.2 z.1.ops) {k : Nat} (hk : k < es.length) (x : Int) :
    (∃ u, w.cell? ⟨g, k * 4 + 2, none⟩ = some u) ∧ w.frozen? ⟨g, k * 4 + 2, none⟩ = false ∧ EnsR (new lo) (w.setCell ⟨g, k * 4 + 2, none⟩ (.int .i64 x)) (.slice (some ⟨g, 0, none⟩) es.length cap) (es.set k { es[k] with base := x }) := by
  subst hm
  rw [List.length_map] at h
  have h1 := EnsOwn.cloned (K := new lo) (ownsRow_lo h hl) rfl hz
  have hk' : k < zs.length := by simpa using hk
  have hlen : (zs.flatMap encEn).length = zs.length * 4 := by
    clear h1 h hz hk hk'
    induction zs with
    | nil => rfl
    | cons z zs ih => rw [List.flatMap_cons, List.length_append, ih]; simp [encEn]; omega
  refine ⟨⟨(zs.flatMap encEn)[k * 4 + 2]'(by omega), ?_⟩, h.frozenAt _, ?_⟩
  · rw [h.cellAt (k * 4 + 2) (by omega), List.getElem?_eq_getElem (by omega)]
  · rw [List.length_map]
    exact (h1.setBase hk x).1.reads

end Go.Proofs.Ytjgbconlpolddaa

/- The reference's DeltaApply: the walk. -/
namespace Go.Proofs.Ytjgbconlpolddaa
open Go.RowKit
set_option linter.unusedVariables false

set_option maxRecDepth 20000 in
set_option maxHeartbeats 4000000 in
theorem specDeltaApply_any (K : Nat → Bool → Prop) (b : Tx) (v : Value) (ops : List Opn) (w : World) (hv : OpsR K w v ops) :
    Calls Try.prog 108 #[.string (tx b), v] w fun e w' => e = .returned (.tuple #[.string (tx ((dapp b ops).getD [])), .bool (dapp b ops).isSome]) ∧ Fr w.heap.size [] w w' := by
  obtain ⟨a, cap, rfl, hcap, hcell⟩ := hv.shape
  have hsb := tx_size b
  have BAD := hid (fun k (hk : k < ops.length) h => dapp_bad (b := b) hk h)
  have LONG := hid (fun h => dapp_long (b := b) (ops := ops) h)
  have ALL := hid (fun h1 h2 h3 h4 => dapp_all (b := b) (ops := ops) h1 h2 h3 h4)
  have BIG := hid (show ¬ (b.length ≤ 8 ∧ ops.length ≤ 8) → dapp b ops = none by intro h; unfold dapp; rw [if_neg h])
  generalize dapp b ops = D at *
  clear hv
  by_cases hb : b.length ≤ 8
  · by_cases ho : ops.length ≤ 8
    · have ib : ¬ (8 : Int) < (b.length : Int) := by omega
      have io : ¬ (8 : Int) < (ops.length : Int) := by omega
      go_enter Try.func108, Try.ntmps108
      go_wp2
      go_loopw [6, 7] (fun vt vi wx => ∃ (k : Nat) (t : Tx), k ≤ ops.length ∧ vi = .int .i64 k ∧ vt = .string (tx t) ∧ t = (ops.take k).flatMap (opPart b) ∧ (∀ j (hj : j < ops.length), j < k → opOk b ops[j] = true) ∧ t.length ≤ 8 * k ∧ Fr w.heap.size [] w wx) (fun _ vi _ => ops.length - (intOf vi).toNat)
      case atStart => exact ⟨0, [], Nat.zero_le _, rfl, rfl, by simp, fun j hj h => absurd h (Nat.not_lt_zero _), by decide, Fr.refl _ _ _⟩
      case round =>
        obtain ⟨k, t, hk, rfl, rfl, ht, hok, htl, hfr⟩ := hrel
        have HT := hid ht
        have HOK := hid hok
        have hst := tx_size t
        clear ht hok
        by_cases hlt : k < ops.length
        · rcases hcell with hh | ⟨bb, off, rfl, hbs, hcell⟩
          · rw [hh] at hlt; cases hlt
          · obtain ⟨h0, h1, h2⟩ := hcell k hlt
            have c0 := hfr.cell hbs h0
            have c1 := hfr.cell hbs h1
            have c2 := hfr.cell hbs h2
            have hki : (k : Int) < (ops.length : Int) := by omega
            have TK := hid (show ops.take (k + 1) = ops.take k ++ [ops[k]] by rw [List.take_add_one, List.getElem?_eq_getElem hlt]; rfl)
            have GK := hid (show opOk b ops[k] = false → D = none from fun h => BAD.out k hlt h)
            have HK := hid (show opOk b ops[k] = true → ∀ j (hj : j < ops.length), j < k + 1 → opOk b ops[j] = true from fun h j hj hjk => by
              by_cases e : j = k
              · subst e; exact h
              · exact HOK.out j hj (by omega))
            clear h0 h1 h2 hcell
            generalize ops[k] = o at *
            cases gk : opOk b o
            · have NO := hid (GK.out gk)
              have GG := hid gk
              clear gk
              go_wp2_with (go_at_call 119; go_must (refine (l2Op_any o b _ hb).mono ?_; rintro e w1 ⟨rfl, fr1⟩; rw [GG.out]; have F1 := hid (hfr.trans fr1.nil); clear fr1))
              go_ret2
              rw [NO.out]
              exact ⟨rfl, F1.out⟩
            · obtain ⟨hcat, hp0, hs0, hps⟩ := opPart_cat gk
              have hpl := opPart_le hb gk
              have HK2 := hid (HK.out gk)
              have GG := hid gk
              have ST := hid (show (tx t ++ tx o.text) ++ (tx b).extract o.pos.toNat (o.pos + o.size).toNat = tx (t ++ opPart b o) by
                rw [tx_extract, hcat, tx_append, tx_append, show (o.pos + o.size).toNat - o.pos.toNat = o.size.toNat by omega, List.append_assoc])
              have N1 := hid (show t ++ opPart b o = (ops.take (k + 1)).flatMap (opPart b) by rw [TK.out, List.flatMap_append, List.flatMap_singleton, ← HT.out])
              have hsp : (t ++ opPart b o).length ≤ 8 * (k + 1) := by rw [List.length_append]; omega
              have hot : o.text.length ≤ 8 := by
                have := hpl; rw [hcat, List.length_append] at this; omega
              have hso := tx_size o.text
              clear gk hcat
              generalize opPart b o = p at *
              go_wp2_with (go_at_call 119; go_must (refine (l2Op_any o b _ hb).mono ?_; rintro e w1 ⟨rfl, fr1⟩; rw [GG.out]; have F1 := hid (hfr.trans fr1.nil); have d0 := fr1.cell (Nat.lt_of_lt_of_le hbs hfr.size) c0; have d1 := fr1.cell (Nat.lt_of_lt_of_le hbs hfr.size) c1; have d2 := fr1.cell (Nat.lt_of_lt_of_le hbs hfr.size) c2; clear fr1 c0 c1 c2))
              go_quiet (fail)
              go_wp2
              go_roundw
              case rel => exact ⟨k + 1, _, by omega, by go_num, by rw [← ST.out], N1.out, HK2.out, hsp, F1.out.drewN _⟩
              case measure => simp [intOf]; omega
        · obtain rfl : k = ops.length := by omega
          have HT2 := hid (show t = ops.flatMap (opPart b) by rw [HT.out, List.take_length])
          by_cases h8 : t.length ≤ 8
          · have i8 : ¬ (8 : Int) < (t.length : Int) := by omega
            have YES := hid (ALL.out hb ho (fun j hj => HOK.out j hj hj) (by rw [← HT2.out]; exact h8))
            go_wp2
            go_ret2
            rw [YES.out, ← HT2.out]
            exact ⟨rfl, hfr⟩
          · have i8 : (8 : Int) < (t.length : Int) := by omega
            have NO := hid (LONG.out (by rw [← HT2.out]; omega))
            go_wp2
            go_ret2
            rw [NO.out]
            exact ⟨rfl, hfr⟩
    · have ib : ¬ (8 : Int) < (b.length : Int) := by omega
      have io : (8 : Int) < (ops.length : Int) := by omega
      have NO := hid (BIG.out (fun h => ho h.2))
      go_enter Try.func108, Try.ntmps108
      go_wp2
      go_ret2
      rw [NO.out]
      exact ⟨rfl, Fr.refl _ _ _⟩
  · have ib : (8 : Int) < (b.length : Int) := by omega
    have NO := hid (BIG.out (fun h => hb h.1))
    go_enter Try.func108, Try.ntmps108
    go_wp2
    go_ret2
    rw [NO.out]
    exact ⟨rfl, Fr.refl _ _ _⟩

end Go.Proofs.Ytjgbconlpolddaa

/- A pack read back: plain laws. -/
namespace Go.Proofs.Ytjgbconlpolddaa
open Go.RowKit
set_option linter.unusedVariables false

/-- The entry of object k. -/
def entryOf (os : List Ob) (k : Nat) (hk : k < os.length) : En := ⟨os[k].kind, os[k].links, (pickTo (os.map (·.text)) (pk os k).2 os[k].text k).1, delta (baseT (os.map (·.text)) (pickTo (os.map (·.text)) (pk os k).2 os[k].text k).1) os[k].text⟩

theorem pk_at {os : List Ob} : ∀ {i : Nat}, i ≤ os.length → ∀ k (hk : k < os.length), k < i → (pk os i).1[k]? = some (entryOf os k hk) := by
  intro i
  induction i with
  | zero => intro _ k _ h; omega
  | succ i ih =>
    intro hi k hk hki
    rw [pk_succ (by omega)]
    have hl := (pk_len (os := os) (i := i) (by omega)).1
    by_cases e : k = i
    · subst e
      rw [List.getElem?_append_right (by omega), hl]
      simp [entryOf]
    · rw [List.getElem?_append_left (by omega)]
      exact ih (by omega) k hk (by omega)

theorem pack_at {os : List Ob} {k : Nat} (hk : k < os.length) : ∃ h : k < (pack os).length, (pack os)[k] = entryOf os k hk := by
  have h := pk_at (Nat.le_refl _) k hk hk
  obtain ⟨h1, h2⟩ := List.getElem?_eq_some_iff.1 h
  exact ⟨h1, h2⟩

theorem pack_len' (os : List Ob) : (pack os).length = os.length := (pk_len (Nat.le_refl _)).1

theorem pack_link (os : List Ob) : linkOk (pack os) = true := by
  have : ∀ k, k ≤ os.length → linkTo (pack os) k = true := by
    intro k
    induction k with
    | zero => intro _; rfl
    | succ k ih =>
      intro hk
      obtain ⟨h1, h2⟩ := pack_at (os := os) (k := k) (by omega)
      have hp := pickTo_in (os.map (·.text)) (pk os k).2 (os[k]'(by omega)).text k
      show (linkTo (pack os) k && _) = true
      rw [ih (by omega), List.getElem?_eq_getElem h1, h2]
      exact inR_iff.2 ⟨hp.1, by have := hp.2.1; show (pickTo (os.map (·.text)) (pk os k).2 (os[k]'(by omega)).text k).1 ≤ (k : Int) - 1; omega⟩
  unfold linkOk
  rw [pack_len']
  exact this _ (Nat.le_refl _)

theorem baseT_take {ts : List Tx} {b : Int} {k : Nat} (h : b < k) : baseT (ts.take k) b = baseT ts b := by
  unfold baseT
  split
  · rfl
  · rw [List.getD_eq_getElem?_getD, List.getD_eq_getElem?_getD, List.getElem?_take_of_lt (by omega)]

theorem baseT_le {ts : List Tx} {b : Int} (h : ∀ t ∈ ts, t.length ≤ 8) : (baseT ts b).length ≤ 8 := by
  unfold baseT
  split
  · simp
  · rw [List.getD_eq_getElem?_getD]
    cases hx : ts[b.toNat]? with
    | none => simp
    | some t => simpa using h t (List.mem_of_getElem? hx)

theorem packOk_all {os : List Ob} (h : packOk os = true) : os.length ≤ 16 ∧ ∀ o ∈ os, obOk o = true := by
  unfold packOk at h
  simp at h
  exact h

theorem poTo_pack {os : List Ob} (h : packOk os = true) : ∀ k, k ≤ os.length → poTo (pack os) k = some (os.take k, (pk os k).2) := by
  obtain ⟨h1, h2⟩ := packOk_all h
  intro k
  induction k with
  | zero => intro _; rfl
  | succ k ih =>
    intro hk
    have hk' : k < os.length := by omega
    obtain ⟨g1, g2⟩ := pack_at hk'
    obtain ⟨p1, p2, p3, p4⟩ := pickTo_in (os.map (·.text)) (pk os k).2 os[k].text k
    have hinv := (pk_inv (os := os) (i := k + 1) hk).1
    rw [pk_succ hk'] at hinv ⊢
    rw [poTo_succ g1 (ih (by omega)), g2]
    have ht : ∀ t ∈ os.map (·.text), t.length ≤ 8 := fun t ht => by
      obtain ⟨o, ho, rfl⟩ := List.mem_map.1 ht
      exact (obOk_len (h2 o ho)).2
    have hd : dapp (baseT ((os.take k).map (·.text)) (entryOf os k hk').base) (entryOf os k hk').ops = some os[k].text := by
      rw [List.map_take, baseT_take (by exact p2)]
      exact dapp_delta (baseT_le ht) (ht _ (List.mem_map.2 ⟨_, List.getElem_mem hk', rfl⟩))
    rw [hd]
    have hb : baseD (pk os k).2 (entryOf os k hk').base ≤ 2 := hinv _ (by simp [entryOf])
    have ho : obOk ⟨(entryOf os k hk').kind, (entryOf os k hk').links, os[k].text⟩ = true := h2 os[k] (List.getElem_mem hk')
    dsimp only
    rw [if_pos ⟨hb, ho⟩, List.take_add_one, List.getElem?_eq_getElem hk']
    rfl

/-- A pack has its objects. -/
theorem unpack_pack {os : List Ob} (h : packOk os = true) : unpack (pack os) = some os := by
  unfold unpack
  rw [pack_len', if_pos ⟨(packOk_all h).1, pack_link os⟩, poTo_pack h _ (Nat.le_refl _), List.take_length]
  rfl

end Go.Proofs.Ytjgbconlpolddaa

/- Towards PackObjects: small facts. -/
namespace Go.Proofs.Ytjgbconlpolddaa
open Go.RowKit
set_option linter.unusedVariables false

theorem ObsOwn.nil (lo : Nat) (w : World) : ObsOwn lo w (.slice none 0 0) [] := ⟨[], rfl, World.ownsRow_nil _ _ _ _, fun z hz => by cases hz⟩

theorem linked_of {K : Nat → Bool → Prop} {lo : Nat} {w : World} {es : List En} {e : Ending} (hl : linkOk es = true) (h : (linkOk es = false ∧ e = .returned (.tuple #[.slice none 0 0, .bool false])) ∨ (linkOk es = true ∧ ∃ v' bs, e = .returned (.tuple #[v', .bool true]) ∧ Linked K lo w v' bs es es.length)) : ∃ v' bs, e = .returned (.tuple #[v', .bool true]) ∧ Linked K lo w v' bs es es.length := by
  rcases h with ⟨h, _⟩ | ⟨_, h⟩
  · rw [hl] at h; cases h
  · exact h

theorem btext {w : World} {pp : Option Addr} {tb : Tx} (h : (pp = none ∧ tb = []) ∨ ∃ b2, pp = some ⟨b2, 0, none⟩ ∧ b2 < w.heap.size ∧ w.cell? ⟨b2, 5, none⟩ = some (.string (tx tb))) : (pp = none ∧ tb = []) ∨ ∃ b2, pp = some ⟨b2, 0, none⟩ ∧ w.drew.cell? ⟨b2, 5, none⟩ = some (.string (tx tb)) := by
  rcases h with h | ⟨b2, h1, _, h3⟩
  · exact .inl h
  · exact .inr ⟨b2, h1, h3⟩

theorem poTo_fail {es : List En} {k : Nat} {os : List Ob} {ds : List Nat} {tb : Tx} (hk : k < es.length) (h : poTo es k = some (os, ds)) (ht : baseT (os.map (·.text)) es[k].base = tb)
    (hn : dapp tb es[k].ops = none ∨ ¬ baseD ds es[k].base ≤ 2 ∨ ∃ t, dapp tb es[k].ops = some t ∧ obOk ⟨es[k].kind, es[k].links, t⟩ = false) : poTo es es.length = none := by
  subst ht
  refine poTo_none (k := k + 1) ?_ _ hk
  rw [poTo_succ hk h]
  rcases hn with hn | hn | ⟨t, hn, hb⟩
  · rw [hn]
  · split
    · rw [if_neg (fun h => hn h.1)]
    · rfl
  · rw [hn]
    dsimp only
    rw [if_neg (fun h => by rw [hb] at h; exact absurd h.2 (by decide))]

theorem poTo_go {es : List En} {k : Nat} {os : List Ob} {ds : List Nat} {tb t : Tx} (hk : k < es.length) (h : poTo es k = some (os, ds)) (ht : baseT (os.map (·.text)) es[k].base = tb)
    (hn : dapp tb es[k].ops = some t) (hd : baseD ds es[k].base ≤ 2) (ho : obOk ⟨es[k].kind, es[k].links, t⟩ = true) : poTo es (k + 1) = some (os ++ [⟨es[k].kind, es[k].links, t⟩], ds ++ [baseD ds es[k].base]) := by
  subst ht
  rw [poTo_succ hk h, hn]
  dsimp only
  rw [if_pos ⟨hd, ho⟩]

/-- Three cells of a block laid anew. -/
theorem fill3 {w : World} {E T : Nat} {z0 z1 z2 x0 x1 x2 : Value} (h : w.heap[E]? = some (.cells #[z0, z1, z2] T (0, 0))) :
    (((w.setCell ⟨E, 0, none⟩ x0).setCell ⟨E, 1, none⟩ x1).setCell ⟨E, 2, none⟩ x2).heap[E]? = some (.cells #[x0, x1, x2] T (0, 0)) := by
  have := block_set (block_set (block_set h 0 x0) 1 x1) 2 x2
  simpa using this

theorem other3 {w : World} {E k : Nat} {o : Obj} {x0 x1 x2 : Value} (h : w.heap[k]? = some o) (hk : k ≠ E) :
    (((w.setCell ⟨E, 0, none⟩ x0).setCell ⟨E, 1, none⟩ x1).setCell ⟨E, 2, none⟩ x2).heap[k]? = some o :=
  block_setne (block_setne (block_setne h hk) hk) hk

theorem Fr.fill3 {B E T : Nat} {a w : World} {z0 z1 z2 x0 x1 x2 : Value} (hf : Fr B [T] a w) (h : w.heap[E]? = some (.cells #[z0, z1, z2] T (0, 0))) (hB : B ≤ E) :
    Fr B [T] a (((w.setCell ⟨E, 0, none⟩ x0).setCell ⟨E, 1, none⟩ x1).setCell ⟨E, 2, none⟩ x2) := by
  have b1 := block_set h 0 x0
  have b2 := block_set b1 1 x1
  exact ((hf.setOld (p := ⟨E, 0, none⟩) h hB (by simp [otag]) x0).setOld (p := ⟨E, 1, none⟩) b1 hB (by simp [otag]) x1).setOld (p := ⟨E, 2, none⟩) b2 hB (by simp [otag]) x2

theorem Fr.new3 {B E : Nat} {T : List Nat} {a w : World} {x0 x1 x2 : Value} (hf : Fr B T a w) (hB : a.heap.size ≤ E) :
    Fr B T a (((w.setCell ⟨E, 0, none⟩ x0).setCell ⟨E, 1, none⟩ x1).setCell ⟨E, 2, none⟩ x2) :=
  ((hf.setNew (p := ⟨E, 0, none⟩) hB x0).setNew (p := ⟨E, 1, none⟩) hB x1).setNew (p := ⟨E, 2, none⟩) hB x2

end Go.Proofs.Ytjgbconlpolddaa
