/- Rows of rows of the call's own: one row replaced; one row more. -/
import Derived.Test.YtjpobhdgfdeenaaProg
import Derived.Below
import Derived.Deep.Draws
import Derived.Deep.AppendLies
import Derived.Maps.AppendAt
import Derived.Maps.OwnSet
import Derived.OwnWalk
import Derived.Laws.BytesArg
import Derived.Laws.MakeOwn
import Derived.Laws.OwnMore
import Derived.Deep.OwnRows
import Derived.Tactics
import Derived.Laws.Slices
import Derived.WalkKit
import Derived.KernelRfl
import Derived.RowKit3
import Derived.Deep.LoopGhost
import Derived.Deep.QuietTactic
import Derived.BigQuiet
import Derived.WideLaws
import Derived.Deep.DeepCutAuto
import Derived.Deep.CutBlock
import Derived.Deep.RegionHeld3
import Derived.Laws.Rows
import Derived.ArgAppend
import Derived.Laws.IdiomCopy
import Derived.OrdersHeld
import Derived.Laws.BitsLemmas
import Derived.Outline
import Derived.WalkSpells
import Derived.Lib.Hide
import Derived.RowKit
import Derived.Deep.DeepMust
import Derived.Test.YtjpobhdgfdeenaaA12
set_option linter.unusedVariables false
set_option linter.unusedSimpArgs false
namespace Go.Proofs.Ytjpobhdgfdeenaa.A
open Go.RowKit Go.Proofs.YtjpobhdgfdeenaaW.PrintWords Go.Maps

theorem F2_iff {α β : Type} {R : α → β → Prop} : ∀ {l : List α} {m : List β}, F2 R l m ↔ l.length = m.length ∧ ∀ (i : Nat) (a : α) (b : β), l[i]? = some a → m[i]? = some b → R a b
  | [], [] => by simp [F2]
  | [], _ :: _ => by simp [F2]
  | _ :: _, [] => by simp [F2]
  | a :: l, b :: m => by
    rw [F2, F2_iff]
    constructor
    · rintro ⟨h1, h2, h3⟩
      refine ⟨by simp [h2], fun i x y hx hy => ?_⟩
      cases i with
      | zero => simp at hx hy; subst hx hy; exact h1
      | succ i => exact h3 i x y (by simpa using hx) (by simpa using hy)
    · rintro ⟨h1, h2⟩
      exact ⟨h2 0 a b rfl rfl, by simpa using h1, fun i x y hx hy => h2 (i + 1) x y (by simpa using hx) (by simpa using hy)⟩
theorem own_addr {w : World} {base : Nat} {e : TypeId} {v : Value} {xs : List Value} (h : OwnS w base e v xs) : ∃ g c, v = .slice (some ⟨g, 0, none⟩) xs.length c ∧ v.ownBlock = some g ∧ base ≤ g ∧ g < w.heap.size ∧ ∃ cells, w.heap[g]? = some (.cells cells e (0, 0)) := by
  obtain ⟨g, c, cur, rfl, hb, hB, _⟩ := h
  exact ⟨g, c, rfl, rfl, hb, blk_lt hB, _, hB⟩
theorem own_ne {w : World} {base base' : Nat} {e e' : TypeId} {v v' : Value} {xs xs' : List Value} (h : OwnS w base e v xs) (h' : OwnS w base' e' v' xs') (hne : e ≠ e') : v.ownBlock ≠ v'.ownBlock := by
  obtain ⟨g, c, rfl, e1, _, _, cells, hc⟩ := own_addr h
  obtain ⟨g', c', rfl, e2, _, _, cells', hc'⟩ := own_addr h'
  rw [e1, e2]
  intro he
  injection he with he
  subst he
  rw [hc] at hc'
  injection hc' with hc'
  injection hc' with _ hc'
  exact hne hc'
/-- Behind whatever kept the call's own blocks. -/
theorem Own2.kept {w w' : World} {base : Nat} {v : Value} {vs : List Value} {xs : List (List Int)} (h : Own2 w base v vs xs) (hk : ∀ i t cells, base ≤ i → w.heap[i]? = some (.cells cells t (0, 0)) → (t = 22 ∨ t = 3) → (some i = v.ownBlock ∨ ∃ u ∈ vs, some i = u.ownBlock) → w'.heap[i]? = w.heap[i]?) : Own2 w' base v vs xs := by
  refine ⟨?_, h.rows.imp fun u x hu hr => ?_, h.apart⟩
  · obtain ⟨g, c, cur, rfl, hb, hB, r⟩ := h.outer
    exact ⟨g, c, cur, rfl, hb, (hk g 22 _ hb hB (.inl rfl) (.inl rfl)).trans hB, r⟩
  · obtain ⟨g, c, cur, rfl, hb, hB, r⟩ := hr
    exact ⟨g, c, cur, rfl, hb, (hk g 3 _ hb hB (.inr rfl) (.inr ⟨_, hu, rfl⟩)).trans hB, r⟩
theorem Own2.below {w w' : World} {base : Nat} {v : Value} {vs : List Value} {xs : List (List Int)} (h : Own2 w base v vs xs) (hb : Below w.heap.size w w') : Own2 w' base v vs xs :=
  h.kept fun i t cells _ hi _ _ => hb.block i (Array.getElem?_eq_some_iff.1 hi).1
theorem Own2.lt {w : World} {base : Nat} {v : Value} {vs : List Value} {xs : List (List Int)} (h : Own2 w base v vs xs) : ∀ u ∈ vs, ∀ k, u.ownBlock = some k → k < w.heap.size ∧ base ≤ k := by
  intro u hu k hk
  obtain ⟨i, hi, rfl⟩ := List.getElem_of_mem hu
  have hl := h.rows.len
  have hr := (F2_iff.1 h.rows).2 i _ _ (List.getElem?_eq_getElem hi) (List.getElem?_eq_getElem (by omega))
  obtain ⟨g, c, _, e, hb, hlt, _⟩ := own_addr hr
  rw [e] at hk
  injection hk with hk
  subst hk
  exact ⟨hlt, hb⟩
/-- Row j is now u', with row'. -/
theorem Own2.setRow {w w' : World} {base g c : Nat} {vs : List Value} {l : List (List Int)} (h : Own2 w base (.slice (some ⟨g, 0, none⟩) l.length c) vs l) {j : Nat} {u u' : Value} {row' : List Int} (hu : vs[j]? = some u) (hg : w.grownBy w' u.ownBlock) (ho : OwnS w' base 3 u' (ints row')) (hb : u'.ownBlock = u.ownBlock ∨ ∃ b, u'.ownBlock = some b ∧ w.heap.size ≤ b) :
    Own2 (w'.setCell ⟨g, j, none⟩ u') base (.slice (some ⟨g, 0, none⟩) l.length c) (vs.set j u') (l.set j row') := by
  have hl := h.rows.len
  have hj : j < vs.length := (List.getElem?_eq_some_iff.1 hu).1
  have hru := (F2_iff.1 h.rows).2 j u _ hu (List.getElem?_eq_getElem (show j < l.length by omega))
  have hou := own_ne h.outer hru (by decide)
  have hout := h.outer.kept hg hou
  have houter := h.outer
  obtain ⟨g1, c1, cur, he, hb1, hB, hc1, hc2, hc3, htk, hc0, h1⟩ := hout
  injection he with he he2 he3
  injection he with he
  injection he with he
  subst he he3
  have hne : u'.ownBlock ≠ some g := by
    have := own_ne ho (show OwnS w' base 22 (.slice (some ⟨g, 0, none⟩) vs.length c) vs from ⟨g, c, cur, rfl, hb1, hB, hc1, hc2, hc3, htk, hc0, h1⟩) (by decide)
    exact this
  have hu1 : u'.oneCell' = true := by
    obtain ⟨_, _, rfl, _⟩ := own_addr ho
    rfl
  have hset : (w'.setCell ⟨g, j, none⟩ u').heap[g]? = some (.cells (cur.set j u').toArray 22 (0, 0)) := by
    rw [setCell_eq_setRow w' g j cur.toArray 22 (0, 0) u' hB]
    have := setRow_heap w' g cur.toArray (cur.toArray.setIfInBounds j u') 22 (0, 0) hB
    rw [this]
    congr 2
    simp
  have hoth : ∀ k, k ≠ g → (w'.setCell ⟨g, j, none⟩ u').heap[k]? = w'.heap[k]? := fun k hk => Below.heap_setCell w' ⟨g, j, none⟩ u' k hk
  refine ⟨⟨g, c, cur.set j u', by rw [List.length_set, hl], hb1, hset, by simpa using hc1, by simpa using hc2, by simpa using hc3, ?_, hc0, fun x hx => ?_⟩, ?_, ?_⟩
  · rw [List.length_set, List.take_set, htk]
  · rcases List.mem_or_eq_of_mem_set hx with hx | rfl
    · exact h1 x hx
    · exact hu1
  · refine F2_iff.2 ⟨by simp [hl], fun i a b ha hb' => ?_⟩
    by_cases hij : i = j
    · subst hij
      rw [List.getElem?_set_self (by omega)] at ha hb'
      injection ha with ha
      injection hb' with hb'
      subst ha hb'
      obtain ⟨g2, c2, cur2, e2, hb2, hB2, r⟩ := ho
      refine ⟨g2, c2, cur2, e2, hb2, (hoth g2 (fun e => hne (by rw [e2, ← e]; rfl))).trans hB2, r⟩
    · rw [List.getElem?_set_ne (Ne.symm hij)] at ha hb'
      have hri := (F2_iff.1 h.rows).2 i a b ha hb'
      have hne2 : a.ownBlock ≠ u.ownBlock := by
        have hi : i < vs.length := (List.getElem?_eq_some_iff.1 ha).1
        have hp := List.pairwise_iff_getElem.1 h.apart
        have ea : vs[i] = a := (List.getElem?_eq_some_iff.1 ha).2
        have eu : vs[j] = u := (List.getElem?_eq_some_iff.1 hu).2
        rcases Nat.lt_or_gt_of_ne hij with hlt | hlt
        · have := hp i j hi hj hlt
          rwa [ea, eu] at this
        · have := hp j i hj hi hlt
          rw [ea, eu] at this
          exact Ne.symm this
      have hri' := hri.kept hg hne2
      have hne3 := own_ne hri' (show OwnS w' base 22 (.slice (some ⟨g, 0, none⟩) vs.length c) vs from ⟨g, c, cur, rfl, hb1, hB, hc1, hc2, hc3, htk, hc0, h1⟩) (by decide)
      obtain ⟨g2, c2, cur2, e2, hb2, hB2, r⟩ := hri'
      refine ⟨g2, c2, cur2, e2, hb2, (hoth g2 (fun e => hne3 (by rw [e2, ← e]; rfl))).trans hB2, r⟩
  · refine List.pairwise_iff_getElem.2 fun a b ha hb' hab => ?_
    simp only [List.length_set] at ha hb'
    have hp := List.pairwise_iff_getElem.1 h.apart
    have eu : vs[j] = u := (List.getElem?_eq_some_iff.1 hu).2
    have key : ∀ i, (hi : i < vs.length) → i ≠ j → vs[i].ownBlock ≠ u'.ownBlock := by
      intro i hi hij
      rcases hb with hb | ⟨q, hq, hle⟩
      · rw [hb]
        rcases Nat.lt_or_gt_of_ne hij with hlt | hlt
        · have := hp i j hi hj hlt
          rwa [eu] at this
        · have := hp j i hj hi hlt
          rw [eu] at this
          exact Ne.symm this
      · rw [hq]
        intro he
        have := (h.lt vs[i] (List.getElem_mem hi) q he).1
        omega
    rw [List.getElem_set, List.getElem_set]
    split
    · rename_i e1
      subst e1
      split
      · omega
      · exact Ne.symm (key b hb' (by omega))
    · split
      · exact key a ha (by omega)
      · exact hp a b ha hb' hab
/-- One row more, at place i. -/
theorem Own2.insertRow {w w' : World} {base : Nat} {v v' r : Value} {vs : List Value} {l : List (List Int)} {row : List Int} (h : Own2 w base v vs l) (i : Nat) (hg : w.grownBy w' v.ownBlock) (ho : OwnS w' base 22 v' (vs.take i ++ r :: vs.drop i)) (hr : OwnS w base 3 r (ints row)) (hne : ∀ u ∈ vs, u.ownBlock ≠ r.ownBlock) :
    Own2 w' base v' (vs.take i ++ r :: vs.drop i) (l.take i ++ row :: l.drop i) := by
  have hrows : F2 (fun u x => OwnS w' base 3 u (ints x)) vs l := F2_iff.2 ⟨h.rows.len, fun a x y hx hy => by
    have h1 := (F2_iff.1 h.rows).2 a x y hx hy
    exact h1.kept hg (own_ne h1 h.outer (by decide))⟩
  refine ⟨ho, (hrows.take i).append ⟨hr.kept hg (own_ne hr h.outer (by decide)), hrows.drop i⟩, ?_⟩
  have hp := h.apart
  rw [← List.take_append_drop i vs, List.pairwise_append] at hp
  rw [List.pairwise_append]
  refine ⟨hp.1, List.pairwise_cons.2 ⟨fun a ha => Ne.symm (hne a (List.mem_of_mem_drop ha)), hp.2.1⟩, fun a ha b hb => ?_⟩
  rcases List.mem_cons.1 hb with rfl | hb
  · exact hne a (List.mem_of_mem_take ha)
  · exact hp.2.2 a ha b hb
end Go.Proofs.Ytjpobhdgfdeenaa.A
