/- insert of package array: a key put at an index of blocks that the call owns. -/
import Derived.Below
import Derived.Deep.Draws
import Derived.Deep.AppendLies
import Derived.Maps.AppendAt
import Derived.Maps.OwnSet
import Derived.OwnWalk
import Derived.Laws.BytesArg
import Derived.Laws.MakeOwn
import Derived.Laws.OwnMore
import Derived.Deep.OwnRows
import Derived.Tactics
import Derived.Laws.Slices
import Derived.WalkKit
import Derived.KernelRfl
import Derived.RowKit3
import Derived.Deep.LoopGhost
import Derived.Deep.QuietTactic
import Derived.BigQuiet
import Derived.WideLaws
import Derived.Deep.DeepCutAuto
import Derived.Deep.CutBlock
import Derived.Deep.RegionHeld3
import Derived.Laws.Rows
import Derived.ArgAppend
import Derived.Laws.IdiomCopy
import Derived.OrdersHeld
import Derived.Laws.BitsLemmas
import Derived.Outline
import Derived.WalkSpells
import Derived.Lib.Hide
import Derived.RowKit
import Derived.Deep.DeepMust
import Derived.RangeFuncNested
import Derived.RangeFuncBound
import Derived.RangeFuncCalls
import Derived.RangeFuncLeaves
import Derived.Shelf.Abstract
import Derived.Shelf.RegionOpen
import Derived.OwnWalkIn
import Derived.TacticsInMore
import Derived.LoopNIn
import Derived.LoopIn
import Derived.RangeFuncBox
import Derived.StillTailTactics
import Derived.StillTail
import Derived.RangeFuncOwn
import Derived.RangeFuncKeeps
import Derived.Test.YtjpobhdgfdeenaaProg
import Derived.Test.YtjpobhdgfdeenaaM2
import Derived.Test.YtjpobhdgfdeenaaM3
set_option linter.unusedVariables false
set_option linter.unusedSimpArgs false
namespace Go.Proofs.Ytjpobhdgfdeenaa.A
open Go.RowKit Go.Shelf Go.Proofs.YtjpobhdgfdeenaaW.PrintWords Go.Maps
attribute [local go_sem] Oper.semAt_some

/-- Two lists, place by place. -/
def F2 {α β : Type} (R : α → β → Prop) : List α → List β → Prop
  | [], [] => True
  | a :: l, b :: m => R a b ∧ F2 R l m
  | _, _ => False
theorem F2.len {α β : Type} {R : α → β → Prop} : ∀ {l : List α} {m : List β}, F2 R l m → l.length = m.length
  | [], [], _ => rfl
  | _ :: _, _ :: _, h => by simp [F2.len h.2]
theorem F2.imp {α β : Type} {R S : α → β → Prop} : ∀ {l : List α} {m : List β}, F2 R l m → (∀ a b, a ∈ l → R a b → S a b) → F2 S l m
  | [], [], _, _ => trivial
  | a :: l, b :: m, h, k => ⟨k a b (by simp) h.1, F2.imp h.2 (fun x y hx hr => k x y (by simp [hx]) hr)⟩
theorem F2.get {α β : Type} {R : α → β → Prop} : ∀ {l : List α} {m : List β}, F2 R l m → ∀ (i : Nat) (y : β), m[i]? = some y → ∃ x, l[i]? = some x ∧ R x y
  | [], [], _, i, y, hy => by simp at hy
  | a :: l, b :: m, h, 0, y, hy => by simp at hy; subst hy; exact ⟨a, rfl, h.1⟩
  | a :: l, b :: m, h, i + 1, y, hy => by simpa using F2.get h.2 i y (by simpa using hy)
theorem F2.set {α β : Type} {R : α → β → Prop} : ∀ {l : List α} {m : List β}, F2 R l m → ∀ (i : Nat) (x : α) (y : β), R x y → F2 R (l.set i x) (m.set i y)
  | [], [], _, i, x, y, _ => by simp [F2]
  | a :: l, b :: m, h, 0, x, y, hr => by simpa using ⟨hr, h.2⟩
  | a :: l, b :: m, h, i + 1, x, y, hr => by simpa using ⟨h.1, F2.set h.2 i x y hr⟩
theorem F2.append {α β : Type} {R : α → β → Prop} : ∀ {l : List α} {m : List β} {l' : List α} {m' : List β}, F2 R l m → F2 R l' m' → F2 R (l ++ l') (m ++ m')
  | [], [], _, _, _, h' => h'
  | a :: l, b :: m, _, _, h, h' => ⟨h.1, F2.append h.2 h'⟩
theorem F2.take {α β : Type} {R : α → β → Prop} : ∀ {l : List α} {m : List β}, F2 R l m → ∀ (i : Nat), F2 R (l.take i) (m.take i)
  | [], [], _, i => by simp [F2]
  | a :: l, b :: m, _, 0 => by simp [F2]
  | a :: l, b :: m, h, i + 1 => by simpa using ⟨h.1, F2.take h.2 i⟩
theorem F2.drop {α β : Type} {R : α → β → Prop} : ∀ {l : List α} {m : List β}, F2 R l m → ∀ (i : Nat), F2 R (l.drop i) (m.drop i)
  | [], [], _, i => by simp [F2]
  | a :: l, b :: m, h, 0 => by simpa using h
  | a :: l, b :: m, h, i + 1 => by simpa using F2.drop h.2 i
def ints (xs : List Int) : List Value := xs.map (Value.int .i64)
theorem ints_len (xs : List Int) : (ints xs).length = xs.length := by simp [ints]
/-- A list of rows in memory of the call's own: the outer slice and each inner one, in blocks of their own. -/
structure Own2 (w : World) (base : Nat) (v : Value) (vs : List Value) (xs : List (List Int)) : Prop where
  outer : OwnS w base 22 v vs
  rows : F2 (fun u x => OwnS w base 3 u (ints x)) vs xs
  apart : vs.Pairwise (fun a b => a.ownBlock ≠ b.ownBlock)
theorem OwnS.kept {w w' : World} {base : Nat} {e : TypeId} {v : Value} {xs : List Value} (h : OwnS w base e v xs) {row : Option Nat} (hg : w.grownBy w' row) (hn : v.ownBlock ≠ row) : OwnS w' base e v xs := by
  obtain ⟨g, c, cur, rfl, hb, hB, r⟩ := h
  exact ⟨g, c, cur, rfl, hb, (hg.block g (blk_lt hB) hn).trans hB, r⟩
theorem OwnS.cell {w : World} {base : Nat} {e : TypeId} {v : Value} {xs : List Value} (h : OwnS w base e v xs) : ∃ g c, v = .slice (some ⟨g, 0, none⟩) xs.length c ∧ base ≤ g ∧ g < w.heap.size ∧ xs.length ≤ c ∧ 0 < c ∧ c ≤ 9223372036854775807 ∧ ∀ j u, xs[j]? = some u → w.cell? ⟨g, j, none⟩ = some u := by
  obtain ⟨g, c, cur, rfl, hb, hB, h1, h2, h3, h4, h5, _⟩ := h
  refine ⟨g, c, rfl, hb, blk_lt hB, h1, h5, by omega, fun j u hj => ?_⟩
  rw [blk_cell hB]
  rw [← h4, List.getElem?_take] at hj
  split at hj
  · exact hj
  · cases hj
theorem OwnS.ints_read {w : World} {base : Nat} {v : Value} {xs : List Int} (h : OwnS w base 3 v (ints xs)) : ∃ g c, v = .slice (some ⟨g, 0, none⟩) xs.length c ∧ xs.length ≤ c ∧ Kd.C (Kd.int .i64) w (some ⟨g, 0, none⟩) xs.length xs := by
  obtain ⟨g, c, hv, _, _, h1, _, h2, hc⟩ := h.cell
  rw [ints_len] at hv h1
  refine ⟨g, c, hv, h1, rfl, by omega, fun _ => ⟨_, rfl, fun j p hj => ⟨[.int .i64 p], rfl, rfl, fun i u hu => ?_⟩⟩⟩
  have hi : i = 0 := by
    have := (List.getElem?_eq_some_iff.1 hu).1
    simpa using this
  subst hi
  simp at hu
  subst hu
  rw [Addr.add_lit]
  have := hc j (.int .i64 p) (by simp [ints, hj])
  rwa [show 0 + (j * (Kd.int .i64).sz + 0) = j from by rw [Nat.zero_add]; exact Nat.mul_one j]
/-- The whole reads as its rows. -/
theorem Own2.reads {w : World} {base : Nat} {v : Value} {vs : List Value} {xs : List (List Int)} (h : Own2 w base v vs xs) : ∃ g c, v = .slice (some ⟨g, 0, none⟩) xs.length c ∧ vs.length = xs.length ∧ xs.length ≤ c ∧ Kd.C (Kd.slice 3 (Kd.int .i64)) w (some ⟨g, 0, none⟩) xs.length xs := by
  obtain ⟨g, c, hv, _, _, h1, _, h2, hc⟩ := h.outer.cell
  have hl : vs.length = xs.length := h.rows.len
  rw [hl] at hv h1
  refine ⟨g, c, hv, hl, h1, rfl, by omega, fun _ => ⟨_, rfl, fun j p hj => ?_⟩⟩
  obtain ⟨u, hu, hr⟩ := h.rows.get j p hj
  obtain ⟨g', c', rfl, h3, h4⟩ := hr.ints_read
  refine ⟨[_], rfl, ⟨_, c', rfl, h3, h4⟩, fun i q hq => ?_⟩
  have hi : i = 0 := by
    have := (List.getElem?_eq_some_iff.1 hq).1
    simpa using this
  subst hi
  simp at hq
  subst hq
  rw [Addr.add_lit]
  have := hc j _ hu
  rwa [show 0 + (j * (Kd.slice 3 (Kd.int .i64)).sz + 0) = j from by rw [Nat.zero_add]; exact Nat.mul_one j]
end Go.Proofs.Ytjpobhdgfdeenaa.A

/- slices.Clone and slices.Equal at rows of whole numbers. -/
set_option linter.unusedVariables false
set_option linter.unusedSimpArgs false
namespace Go.Proofs.Ytjpobhdgfdeenaa.A
open Go.RowKit Go.Proofs.YtjpobhdgfdeenaaW.PrintWords Go.Maps

theorem Clone_calls (A : Option Addr) (c : Nat) (xs : List Int) (w : World) (hx : Kd.C (Kd.int .i64) w A xs.length xs) (hne : xs ≠ []) (hs : xs.length ≤ 1000000) :
    Calls Try.prog 52 #[.slice A xs.length c] w fun e w' => ∃ v, e = .returned v ∧ OI w' w.heap.size v xs ∧ Below w.heap.size w w' := by
  have HX := Aside0.mk hx
  obtain ⟨ad, x, rfl, _, _⟩ := C_int hx 0 (List.length_pos_iff.2 hne)
  clear hx
  have hnil := fun (W : World) => Lib.run_eql_slice_nil (P := Try.prog) W 22 3 (some ad) xs.length c 0 0 Try.underlying22
  go_enter Try.func52, Try.ntmps52
  go_wp2_with (first | ((with_reducible refine at_b (b := .append) (xs := #[.tmp 5, .tmp 6]) rfl ?_); go_must (refine Kd.R_append_rows (Kd.int .i64) (w0 := w) w.heap.size rfl (.tmp 5) (.tmp 6) 22 3 (.int .i64 0) 8 rfl Try.underlying22 infoA3 rfl (by decide) (by omega) _ [] xs _ _ _ Tr (fun _ => False) rfl rfl (OI_empty (Nat.le_refl _)) (Kd.C_below HX.out (below_alloc (Below.refl _ _) _)) (fun _ _ h => h) (fun _ h => h.elim) (fun _ _ => trivial) (below_alloc (Below.refl _ _) _) (by simp) (by simp; omega) ?_; intro v1 w1 ho hb1 hg1 hat1; have HI := Aside0.mk ho; clear ho hg1 hat1)))
  go_ret
  exact ⟨v1, rfl, HI.out, hb1⟩
theorem OwnS_of_OI {w : World} {base : Nat} {v : Value} {xs : List Int} (h : OI w base v xs) (hne : xs ≠ []) : OwnS w base 3 v (ints xs) := by
  obtain ⟨_, inner, ho, hr⟩ := h
  have hl : 0 < xs.length := List.length_pos_iff.2 hne
  have hin : inner = ints xs := by
    have h1 : inner.length = xs.length := hr.1.trans (Nat.mul_one _)
    apply List.ext_getElem?
    intro j
    by_cases hj : j < xs.length
    · have hc := hr.2 j _ (List.getElem?_eq_getElem hj)
      have hc' : List.take 1 (List.drop (j * 1) inner) = [.int .i64 (xs[j]'hj)] := hc
      rw [Nat.mul_one] at hc'
      have e1 : inner[j]? = (List.take 1 (List.drop j inner))[0]? := by simp
      rw [e1, hc']
      simp [ints, hj]
    · rw [List.getElem?_eq_none (by omega), List.getElem?_eq_none (by rw [ints_len]; omega)]
  rcases ho.2 with ⟨_, h0⟩ | ⟨g, cap, cur, hv, hg, hh, h1, h2, h3, h4⟩
  · omega
  · refine ⟨g, cap, cur.toList, by rw [ints_len]; exact hv, hg, by simpa using hh, by rw [ints_len]; exact h1, by simp [h3]; show cap ≤ cap * 1; omega, ?_, ?_, by omega, fun x hx => ?_⟩
    · have h5 : cur.size = cap * 1 := h3
      unfold maxLen at h2
      simp
      omega
    · rw [ints_len, ← hin, ← h4]
      show _ = List.take (xs.length * 1) _
      rw [Nat.mul_one]
    · obtain ⟨y, _, rfl⟩ := List.mem_map.1 hx
      rfl
end Go.Proofs.Ytjpobhdgfdeenaa.A

/- Rows of rows of the call's own: one row replaced; one row more. -/
set_option linter.unusedVariables false
set_option linter.unusedSimpArgs false
namespace Go.Proofs.Ytjpobhdgfdeenaa.A
open Go.RowKit Go.Proofs.YtjpobhdgfdeenaaW.PrintWords Go.Maps

theorem F2_iff {α β : Type} {R : α → β → Prop} : ∀ {l : List α} {m : List β}, F2 R l m ↔ l.length = m.length ∧ ∀ (i : Nat) (a : α) (b : β), l[i]? = some a → m[i]? = some b → R a b
  | [], [] => by simp [F2]
  | [], _ :: _ => by simp [F2]
  | _ :: _, [] => by simp [F2]
  | a :: l, b :: m => by
    rw [F2, F2_iff]
    constructor
    · rintro ⟨h1, h2, h3⟩
      refine ⟨by simp [h2], fun i x y hx hy => ?_⟩
      cases i with
      | zero => simp at hx hy; subst hx hy; exact h1
      | succ i => exact h3 i x y (by simpa using hx) (by simpa using hy)
    · rintro ⟨h1, h2⟩
      exact ⟨h2 0 a b rfl rfl, by simpa using h1, fun i x y hx hy => h2 (i + 1) x y (by simpa using hx) (by simpa using hy)⟩
theorem own_addr {w : World} {base : Nat} {e : TypeId} {v : Value} {xs : List Value} (h : OwnS w base e v xs) : ∃ g c, v = .slice (some ⟨g, 0, none⟩) xs.length c ∧ v.ownBlock = some g ∧ base ≤ g ∧ g < w.heap.size ∧ ∃ cells, w.heap[g]? = some (.cells cells e (0, 0)) := by
  obtain ⟨g, c, cur, rfl, hb, hB, _⟩ := h
  exact ⟨g, c, rfl, rfl, hb, blk_lt hB, _, hB⟩
theorem own_ne {w : World} {base base' : Nat} {e e' : TypeId} {v v' : Value} {xs xs' : List Value} (h : OwnS w base e v xs) (h' : OwnS w base' e' v' xs') (hne : e ≠ e') : v.ownBlock ≠ v'.ownBlock := by
  obtain ⟨g, c, rfl, e1, _, _, cells, hc⟩ := own_addr h
  obtain ⟨g', c', rfl, e2, _, _, cells', hc'⟩ := own_addr h'
  rw [e1, e2]
  intro he
  injection he with he
  subst he
  rw [hc] at hc'
  injection hc' with hc'
  injection hc' with _ hc'
  exact hne hc'
/-- Behind whatever kept the call's own blocks. -/
theorem Own2.kept {w w' : World} {base : Nat} {v : Value} {vs : List Value} {xs : List (List Int)} (h : Own2 w base v vs xs) (hk : ∀ i t cells, base ≤ i → w.heap[i]? = some (.cells cells t (0, 0)) → (t = 22 ∨ t = 3) → (some i = v.ownBlock ∨ ∃ u ∈ vs, some i = u.ownBlock) → w'.heap[i]? = w.heap[i]?) : Own2 w' base v vs xs := by
  refine ⟨?_, h.rows.imp fun u x hu hr => ?_, h.apart⟩
  · obtain ⟨g, c, cur, rfl, hb, hB, r⟩ := h.outer
    exact ⟨g, c, cur, rfl, hb, (hk g 22 _ hb hB (.inl rfl) (.inl rfl)).trans hB, r⟩
  · obtain ⟨g, c, cur, rfl, hb, hB, r⟩ := hr
    exact ⟨g, c, cur, rfl, hb, (hk g 3 _ hb hB (.inr rfl) (.inr ⟨_, hu, rfl⟩)).trans hB, r⟩
theorem Own2.below {w w' : World} {base : Nat} {v : Value} {vs : List Value} {xs : List (List Int)} (h : Own2 w base v vs xs) (hb : Below w.heap.size w w') : Own2 w' base v vs xs :=
  h.kept fun i t cells _ hi _ _ => hb.block i (Array.getElem?_eq_some_iff.1 hi).1
theorem Own2.lt {w : World} {base : Nat} {v : Value} {vs : List Value} {xs : List (List Int)} (h : Own2 w base v vs xs) : ∀ u ∈ vs, ∀ k, u.ownBlock = some k → k < w.heap.size ∧ base ≤ k := by
  intro u hu k hk
  obtain ⟨i, hi, rfl⟩ := List.getElem_of_mem hu
  have hl := h.rows.len
  have hr := (F2_iff.1 h.rows).2 i _ _ (List.getElem?_eq_getElem hi) (List.getElem?_eq_getElem (by omega))
  obtain ⟨g, c, _, e, hb, hlt, _⟩ := own_addr hr
  rw [e] at hk
  injection hk with hk
  subst hk
  exact ⟨hlt, hb⟩
/-- Row j is now u', with row'. -/
theorem Own2.setRow {w w' : World} {base g c : Nat} {vs : List Value} {l : List (List Int)} (h : Own2 w base (.slice (some ⟨g, 0, none⟩) l.length c) vs l) {j : Nat} {u u' : Value} {row' : List Int} (hu : vs[j]? = some u) (hg : w.grownBy w' u.ownBlock) (ho : OwnS w' base 3 u' (ints row')) (hb : u'.ownBlock = u.ownBlock ∨ ∃ b, u'.ownBlock = some b ∧ w.heap.size ≤ b) :
    Own2 (w'.setCell ⟨g, j, none⟩ u') base (.slice (some ⟨g, 0, none⟩) l.length c) (vs.set j u') (l.set j row') := by
  have hl := h.rows.len
  have hj : j < vs.length := (List.getElem?_eq_some_iff.1 hu).1
  have hru := (F2_iff.1 h.rows).2 j u _ hu (List.getElem?_eq_getElem (show j < l.length by omega))
  have hou := own_ne h.outer hru (by decide)
  have hout := h.outer.kept hg hou
  have houter := h.outer
  obtain ⟨g1, c1, cur, he, hb1, hB, hc1, hc2, hc3, htk, hc0, h1⟩ := hout
  injection he with he he2 he3
  injection he with he
  injection he with he
  subst he he3
  have hne : u'.ownBlock ≠ some g := by
    have := own_ne ho (show OwnS w' base 22 (.slice (some ⟨g, 0, none⟩) vs.length c) vs from ⟨g, c, cur, rfl, hb1, hB, hc1, hc2, hc3, htk, hc0, h1⟩) (by decide)
    exact this
  have hu1 : u'.oneCell' = true := by
    obtain ⟨_, _, rfl, _⟩ := own_addr ho
    rfl
  have hset : (w'.setCell ⟨g, j, none⟩ u').heap[g]? = some (.cells (cur.set j u').toArray 22 (0, 0)) := by
    rw [setCell_eq_setRow w' g j cur.toArray 22 (0, 0) u' hB]
    have := setRow_heap w' g cur.toArray (cur.toArray.setIfInBounds j u') 22 (0, 0) hB
    rw [this]
    congr 2
    simp
  have hoth : ∀ k, k ≠ g → (w'.setCell ⟨g, j, none⟩ u').heap[k]? = w'.heap[k]? := fun k hk => Below.heap_setCell w' ⟨g, j, none⟩ u' k hk
  refine ⟨⟨g, c, cur.set j u', by rw [List.length_set, hl], hb1, hset, by simpa using hc1, by simpa using hc2, by simpa using hc3, ?_, hc0, fun x hx => ?_⟩, ?_, ?_⟩
  · rw [List.length_set, List.take_set, htk]
  · rcases List.mem_or_eq_of_mem_set hx with hx | rfl
    · exact h1 x hx
    · exact hu1
  · refine F2_iff.2 ⟨by simp [hl], fun i a b ha hb' => ?_⟩
    by_cases hij : i = j
    · subst hij
      rw [List.getElem?_set_self (by omega)] at ha hb'
      injection ha with ha
      injection hb' with hb'
      subst ha hb'
      obtain ⟨g2, c2, cur2, e2, hb2, hB2, r⟩ := ho
      refine ⟨g2, c2, cur2, e2, hb2, (hoth g2 (fun e => hne (by rw [e2, ← e]; rfl))).trans hB2, r⟩
    · rw [List.getElem?_set_ne (Ne.symm hij)] at ha hb'
      have hri := (F2_iff.1 h.rows).2 i a b ha hb'
      have hne2 : a.ownBlock ≠ u.ownBlock := by
        have hi : i < vs.length := (List.getElem?_eq_some_iff.1 ha).1
        have hp := List.pairwise_iff_getElem.1 h.apart
        have ea : vs[i] = a := (List.getElem?_eq_some_iff.1 ha).2
        have eu : vs[j] = u := (List.getElem?_eq_some_iff.1 hu).2
        rcases Nat.lt_or_gt_of_ne hij with hlt | hlt
        · have := hp i j hi hj hlt
          rwa [ea, eu] at this
        · have := hp j i hj hi hlt
          rw [ea, eu] at this
          exact Ne.symm this
      have hri' := hri.kept hg hne2
      have hne3 := own_ne hri' (show OwnS w' base 22 (.slice (some ⟨g, 0, none⟩) vs.length c) vs from ⟨g, c, cur, rfl, hb1, hB, hc1, hc2, hc3, htk, hc0, h1⟩) (by decide)
      obtain ⟨g2, c2, cur2, e2, hb2, hB2, r⟩ := hri'
      refine ⟨g2, c2, cur2, e2, hb2, (hoth g2 (fun e => hne3 (by rw [e2, ← e]; rfl))).trans hB2, r⟩
  · refine List.pairwise_iff_getElem.2 fun a b ha hb' hab => ?_
    simp only [List.length_set] at ha hb'
    have hp := List.pairwise_iff_getElem.1 h.apart
    have eu : vs[j] = u := (List.getElem?_eq_some_iff.1 hu).2
    have key : ∀ i, (hi : i < vs.length) → i ≠ j → vs[i].ownBlock ≠ u'.ownBlock := by
      intro i hi hij
      rcases hb with hb | ⟨q, hq, hle⟩
      · rw [hb]
        rcases Nat.lt_or_gt_of_ne hij with hlt | hlt
        · have := hp i j hi hj hlt
          rwa [eu] at this
        · have := hp j i hj hi hlt
          rw [eu] at this
          exact Ne.symm this
      · rw [hq]
        intro he
        have := (h.lt vs[i] (List.getElem_mem hi) q he).1
        omega
    rw [List.getElem_set, List.getElem_set]
    split
    · rename_i e1
      subst e1
      split
      · omega
      · exact Ne.symm (key b hb' (by omega))
    · split
      · exact key a ha (by omega)
      · exact hp a b ha hb' hab
/-- One row more, at place i. -/
theorem Own2.insertRow {w w' : World} {base : Nat} {v v' r : Value} {vs : List Value} {l : List (List Int)} {row : List Int} (h : Own2 w base v vs l) (i : Nat) (hg : w.grownBy w' v.ownBlock) (ho : OwnS w' base 22 v' (vs.take i ++ r :: vs.drop i)) (hr : OwnS w base 3 r (ints row)) (hne : ∀ u ∈ vs, u.ownBlock ≠ r.ownBlock) :
    Own2 w' base v' (vs.take i ++ r :: vs.drop i) (l.take i ++ row :: l.drop i) := by
  have hrows : F2 (fun u x => OwnS w' base 3 u (ints x)) vs l := F2_iff.2 ⟨h.rows.len, fun a x y hx hy => by
    have h1 := (F2_iff.1 h.rows).2 a x y hx hy
    exact h1.kept hg (own_ne h1 h.outer (by decide))⟩
  refine ⟨ho, (hrows.take i).append ⟨hr.kept hg (own_ne hr h.outer (by decide)), hrows.drop i⟩, ?_⟩
  have hp := h.apart
  rw [← List.take_append_drop i vs, List.pairwise_append] at hp
  rw [List.pairwise_append]
  refine ⟨hp.1, List.pairwise_cons.2 ⟨fun a ha => Ne.symm (hne a (List.mem_of_mem_drop ha)), hp.2.1⟩, fun a ha b hb => ?_⟩
  rcases List.mem_cons.1 hb with rfl | hb
  · exact hne a (List.mem_of_mem_take ha)
  · exact hp.2.2 a ha b hb
end Go.Proofs.Ytjpobhdgfdeenaa.A

/- A region whose last operations may strike the cells that the others read. -/
set_option linter.unusedVariables false
set_option linter.unusedSimpArgs false
namespace Go.Proofs.Ytjpobhdgfdeenaa.A
open Go.RowKit Go.Proofs.YtjpobhdgfdeenaaW.PrintWords Go.Maps
section
variable {P : Program} {ops : Array Oper} {Q : Exit → Act → World → Prop} {md : Region.Mode} {S : World → Prop} {n : Nat}

/-- Whatever order is picked from here on; S holds behind every operation ahead of number n. -/
def wpAnyG (P : Program) (md : Region.Mode) (ops : Array Oper) (n : Nat) (Q : Exit → Act → World → Prop) (S : World → Prop) : Nat → Array Bool → Act → World → Prop
  | 0, listed, a, w => Region.ready md ops listed = [] ∧ Q .normal a w
  | fuel + 1, listed, a, w =>
    (Region.ready md ops listed = [] → Q .normal a w) ∧
    ∀ i ∈ Region.ready md ops listed, wpOp P ops Q i (fun a' w' => (S w' ∨ n ≤ i) ∧ wpAnyG P md ops n Q S fuel (listed.setIfInBounds i true) a' w') a w
theorem wpAny_of_heldG : ∀ (fuel : Nat) (listed : Array Bool) (a : Act) (w : World), wpAnyG P md ops n Q S fuel listed a w → wpAny P md ops Q fuel listed a w
  | 0, _, _, _, h => h
  | fuel + 1, _, _, _, h => ⟨h.1, fun i hi => wpOp_mono (fun a' w' h' => wpAny_of_heldG fuel _ a' w' h'.2) (h.2 i hi)⟩
theorem wpAnyG_first {i : Nat} {oi : Oper} {v : Value} (hi : ops[i]? = some oi) (hsel : ∀ (j : Nat) (o : Oper) cs b, ops[j]? = some o → o.op ≠ .select cs b)
    (hs : Region.sinkB md ops n = true) (hc : Region.chainB md ops n = true) (hn : n < ops.size) (hin : i < n)
    (hQ : ∀ c a w, Q (.panic c) (a.put oi.dst v) w → Q (.panic c) a w) :
    ∀ (fuel : Nat) (listed : Array Bool) (a : Act) (w : World), HeadInv md ops n listed →
      (∀ j oj, ops[j]? = some oj → j ≠ i → listed.getD j true = false → (∀ e ∈ oj.after, Region.binds md e = true → e.on ≠ i) → oi.apart ops oj = true) →
      i ∈ Region.ready md ops listed → YieldsIf P ops S oi v a → S w →
      wpAnyG P md ops n Q S fuel (listed.setIfInBounds i true) (a.put oi.dst v) w → wpAnyG P md ops n Q S (fuel + 1) listed a w := by
  intro fuel
  induction fuel with
  | zero =>
    intro listed a w inv _ hr hy hS H
    refine ⟨fun h => (by rw [h] at hr; cases hr), fun j hj => ?_⟩
    by_cases hji : j = i
    · subst hji; exact hy.wpOp hi hS ⟨.inl hS, H⟩
    · have := ready_mono hj hji
      rw [H.1] at this
      cases this
  | succ fuel ih =>
    intro listed a w inv hfree hr hy hS H
    have hun := (mem_ready.1 hr).1
    refine ⟨fun h => (by rw [h] at hr; cases hr), fun j hj => ?_⟩
    have hjn : j < n := by
      rcases Nat.lt_or_ge j n with h | h
      · exact h
      · exact absurd hj (tail_waits hs hc hn inv _ i rfl hin hun j h)
    by_cases hji : j = i
    · subst hji; exact hy.wpOp hi hS ⟨.inl hS, H⟩
    · have h1 := H.2 j (ready_mono hj hji)
      obtain ⟨hjun, oj, hoj, hall⟩ := mem_ready.1 hj
      have hnot : ∀ e ∈ oj.after, Region.binds md e = true → e.on ≠ i := fun e he hb heq => by
        have h1 := hall e he hb
        rw [heq, getD_both hun] at h1
        cases h1
      have h2 := wpOp_putIf hoj (hfree j oj hoj hji hjun hnot) (fun cs b => hsel i oi cs b hi) (fun cs b => hsel j oj cs b hoj) hQ hy h1
      have hfree' : ∀ k ok, ops[k]? = some ok → k ≠ i → (listed.setIfInBounds j true).getD k true = false →
          (∀ e ∈ ok.after, Region.binds md e = true → e.on ≠ i) → oi.apart ops ok = true := fun k ok hk hki hun hno => by
        refine hfree k ok hk hki ?_ hno
        by_cases hjk : j = k
        · subst hjk; exact hjun
        · rw [getD_set_ne true hjk] at hun; exact hun
      refine wpOp_mono (fun a' w' h3 => ?_) h2
      rcases h3.2.1 with hS' | h0
      · refine ⟨.inl hS', ih (listed.setIfInBounds j true) a' w' (inv.set hj hjn) hfree' (ready_mono hr (Ne.symm hji)) h3.1 hS' ?_⟩
        rw [Array.setIfInBounds_comm _ _ hji]
        exact h3.2.2
      · omega

/-- The walk's own form: S at the world at hand, and what was listed is listed rightly. -/
structure Held (P : Program) (ops : Array Oper) (n : Nat) (Q : Exit → Act → World → Prop) (S : World → Prop) (fuel : Nat) (listed : Array Bool) (a : Act) (w : World) : Prop where
  out : S w → HeadInv .any ops n listed → wpAnyG P .any ops n Q S fuel listed a w
def headB (ops : Array Oper) (n : Nat) : Bool := Region.noSelect ops && decide (n < ops.size) && Region.sinkB .any ops n && Region.chainB .any ops n
theorem Held.start {id : Nat} {a : Act} {w : World} (S : World → Prop) (n : Nat) (hm : P.follows .mixedOrders = true) (hn : n < ops.size) (hS : S w.drew) (h : Held P ops n Q S ops.size (Array.replicate ops.size false) a w.drew) : (Code.region id ops true).wp P Q a w := by
  have inv0 : HeadInv .any ops n (Array.replicate ops.size false) :=
    ⟨by simp, fun j oj _ hl => (by rw [getD_replicate_false] at hl; cases hl), fun t _ ht => getD_in (by simpa using ht) (getD_replicate_false _ _)⟩
  exact wp_region_any hm (wpAny_of_heldG _ _ _ _ (h.out hS inv0))
/-- Number i comes up now: whatever yields in every world of S. -/
theorem Held.take {fuel : Nat} {listed : Array Bool} {a : Act} {w : World} (i : Nat) {oi : Oper} {v : Value} (hi : ops[i]? = some oi)
    (hB : headB ops n = true) (hin : i < n) (hf : Region.free .any ops listed i = true) (hr : (Region.ready .any ops listed).contains i = true)
    (hQ : ∀ c a w, Q (.panic c) (a.put oi.dst v) w → Q (.panic c) a w) (hy : YieldsIf P ops S oi v a)
    (h : Held P ops n Q S fuel (listed.setIfInBounds i true) (a.put oi.dst v) w) : Held P ops n Q S (fuel + 1) listed a w := by
  simp only [headB, Bool.and_eq_true, decide_eq_true_eq] at hB
  obtain ⟨⟨⟨hsel, hn⟩, hs⟩, hc⟩ := hB
  have hr' : i ∈ Region.ready .any ops listed := by simpa using hr
  exact ⟨fun hS inv => wpAnyG_first hi (Region.noSelect_spec hsel) hs hc hn hin hQ fuel listed a w inv (Region.free_spec hi hf) hr' hy hS (h.out hS (inv.set hr' hin))⟩
/-- One alone may come up. -/
theorem Held.only {fuel : Nat} {listed : Array Bool} {a : Act} {w : World} (i : Nat) {oi : Oper} (hi : ops[i]? = some oi) (hin : i < n) (hr : Region.ready .any ops listed = [i])
    (h : ∀ K' : Act → World → Prop, Shut (∀ a w, S w → Held P ops n Q S fuel (listed.setIfInBounds i true) a w → K' a w) → if Region.wanted oi (yielded ops a.tmps) = true then Oper.wp P oi a w K' Q else K' (a.put oi.dst undef) w) : Held P ops n Q S (fuel + 1) listed a w := by
  refine ⟨fun hS inv => ⟨fun h0 => (by rw [hr] at h0; cases h0), fun j hj => ?_⟩⟩
  rw [hr] at hj
  have hji : j = i := by simpa using hj
  subst hji
  have hr' : j ∈ Region.ready .any ops listed := by rw [hr]; simp
  exact wpOp_step hi (fun K' hK => h K' (fun a w hS' hH => hK a w ⟨.inl hS', hH.out hS' (inv.set hr' hin)⟩))
/-- The last. -/
theorem Held.last {fuel : Nat} {listed : Array Bool} {a : Act} {w : World} (i : Nat) {oi : Oper} (hi : ops[i]? = some oi) (hin : n ≤ i) (hr : Region.ready .any ops listed = [i]) (hr2 : Region.ready .any ops (listed.setIfInBounds i true) = [])
    (h : ∀ K' : Act → World → Prop, Shut (∀ a w, Q .normal a w → K' a w) → if Region.wanted oi (yielded ops a.tmps) = true then Oper.wp P oi a w K' Q else K' (a.put oi.dst undef) w) : Held P ops n Q S (fuel + 1) listed a w := by
  refine ⟨fun hS inv => ⟨fun h0 => (by rw [hr] at h0; cases h0), fun j hj => ?_⟩⟩
  rw [hr] at hj
  have hji : j = i := by simpa using hj
  subst hji
  refine wpOp_step hi (fun K' hK => h K' (fun a w hq => hK a w ⟨.inr hin, ?_⟩))
  cases fuel with
  | zero => exact ⟨hr2, hq⟩
  | succ f => exact ⟨fun _ => hq, fun j hj => by rw [hr2] at hj; cases hj⟩
end
end Go.Proofs.Ytjpobhdgfdeenaa.A

/- Rows of rows of the call's own behind a run's end; a row's beginning and end. -/
set_option linter.unusedVariables false
set_option linter.unusedSimpArgs false
namespace Go.Proofs.Ytjpobhdgfdeenaa.A
open Go.RowKit Go.Proofs.YtjpobhdgfdeenaaW.PrintWords Go.Maps

theorem Own2.ended {w : World} {base D : Nat} {v : Value} {vs : List Value} {xs : List (List Int)} {o o' : Obj} (h : Own2 w base v vs xs) (hD : w.heap[D]? = some o) (ho : o.isCells = false) : Own2 (w.putObj D o') base v vs xs :=
  h.kept fun i t cells _ hi _ _ => World.putObj_heap_other (by rintro rfl; rw [hD] at hi; cases hi; cases ho)
theorem OwnS.pre {w : World} {base g len c : Nat} {row : List Int} (h : OwnS w base 3 (.slice (some ⟨g, 0, none⟩) len c) (ints row)) (n : Nat) (h0 : 0 < n) (hn : n ≤ row.length) : OwnS w base 3 (.slice (some ⟨g, 0, none⟩) n n) (ints (row.take n)) := by
  obtain ⟨g1, c1, cur, e, hb, hB, h1, h2, h3, h4, h5, h6⟩ := h
  injection e with e e2 e3
  injection e with e
  injection e with e
  subst e
  have hl : (ints (row.take n)).length = n := by rw [ints_len, List.length_take]; omega
  rw [ints_len] at h1 h4
  refine ⟨g, n, cur, by rw [hl], hb, hB, by omega, by omega, h3, ?_, h0, fun x hx => ?_⟩
  · rw [hl]
    have e1 : ints (row.take n) = (ints row).take n := by simp [ints, List.map_take]
    rw [e1, ← h4, List.take_take, Nat.min_eq_left hn]
  · exact h6 x (by simp only [ints, List.mem_map] at hx ⊢; obtain ⟨y, hy, rfl⟩ := hx; exact ⟨y, List.mem_of_mem_take hy, rfl⟩)
theorem OwnS.suf {w : World} {base g len c : Nat} {row : List Int} (h : OwnS w base 3 (.slice (some ⟨g, 0, none⟩) len c) (ints row)) (n : Nat) (hn : n ≤ row.length) (hc : n < c) : Kd.C (Kd.int .i64) w (some ⟨g, n, none⟩) (row.drop n).length (row.drop n) := by
  obtain ⟨g1, c1, e, h1, hC⟩ := h.ints_read
  injection e with e e2 e3
  injection e with e
  injection e with e
  subst e e3
  have := Kd.C_drop hC hn h1
  rw [if_neg (by omega), show n * (Kd.int .i64).sz = n from Nat.mul_one n] at this
  simpa [Addr.add_lit] using this
theorem OwnS.info {w : World} {base g len c : Nat} {row : List Int} (h : OwnS w base 3 (.slice (some ⟨g, 0, none⟩) len c) (ints row)) : len = row.length ∧ row.length ≤ c ∧ c ≤ 9223372036854775807 ∧ base ≤ g ∧ g < w.heap.size := by
  obtain ⟨g1, c1, e, h1, h2, h3, h4, h5, _⟩ := h.cell
  injection e with e e2 e3
  injection e with e
  injection e with e
  subst e e3
  rw [ints_len] at e2 h3
  exact ⟨e2, h3, h5, h1, h2⟩
theorem OwnS.not_deferred {w : World} {base D : Nat} {e : TypeId} {v : Value} {xs : List Value} {o : Obj} (h : OwnS w base e v xs) (hD : w.heap[D]? = some o) (ho : o.isCells = false) : v.ownBlock ≠ some D := by
  obtain ⟨g, c, rfl, e1, _, _, cells, hc⟩ := own_addr h
  rw [e1]
  intro he
  injection he with he
  subst he
  rw [hD] at hc
  cases hc
  cases ho
theorem OwnS.low {w : World} {base base' : Nat} {e : TypeId} {v : Value} {xs : List Value} (h : OwnS w base e v xs) (hb : base' ≤ base) : OwnS w base' e v xs := by
  obtain ⟨g, c, cur, e1, h1, r⟩ := h
  exact ⟨g, c, cur, e1, by omega, r⟩
theorem set_take {α : Type} (l : List α) (j : Nat) (x : α) (h : j < l.length) : (l.set j x).take (j + 1) = l.take j ++ [x] := by
  rw [List.take_add_one, List.getElem?_set_self h]
  simp [List.take_set_of_le]
theorem set_drop {α : Type} (l : List α) (j : Nat) (x : α) : (l.set j x).drop (j + 1) = l.drop (j + 1) := by
  rw [List.drop_set_of_lt (by omega)]
end Go.Proofs.Ytjpobhdgfdeenaa.A
