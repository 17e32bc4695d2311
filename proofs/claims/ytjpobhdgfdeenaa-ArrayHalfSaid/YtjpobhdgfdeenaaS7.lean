/- insert of package array: a key put at an index of blocks that the call owns. -/
import Derived.Test.YtjpobhdgfdeenaaProg
import Derived.Below
import Derived.Deep.Draws
import Derived.Deep.AppendLies
import Derived.Maps.AppendAt
import Derived.Maps.OwnSet
import Derived.OwnWalk
import Derived.Laws.BytesArg
import Derived.Laws.MakeOwn
import Derived.Laws.OwnMore
import Derived.Deep.OwnRows
import Derived.Tactics
import Derived.Laws.Slices
import Derived.WalkKit
import Derived.KernelRfl
import Derived.RowKit3
import Derived.Deep.LoopGhost
import Derived.Deep.QuietTactic
import Derived.BigQuiet
import Derived.WideLaws
import Derived.Deep.DeepCutAuto
import Derived.Deep.CutBlock
import Derived.Deep.RegionHeld3
import Derived.Laws.Rows
import Derived.ArgAppend
import Derived.Laws.IdiomCopy
import Derived.OrdersHeld
import Derived.Laws.BitsLemmas
import Derived.Outline
import Derived.WalkSpells
import Derived.Lib.Hide
import Derived.RowKit
import Derived.Deep.DeepMust
import Derived.RangeFuncNested
import Derived.RangeFuncBound
import Derived.RangeFuncCalls
import Derived.RangeFuncLeaves
import Derived.Shelf.Abstract
import Derived.Shelf.RegionOpen
import Derived.OwnWalkIn
import Derived.TacticsInMore
import Derived.LoopNIn
import Derived.LoopIn
import Derived.RangeFuncBox
import Derived.StillTailTactics
import Derived.Test.YtjpobhdgfdeenaaS5
import Derived.Test.YtjpobhdgfdeenaaA9
import Derived.Test.YtjpobhdgfdeenaaP2
set_option linter.unusedVariables false
set_option linter.unusedSimpArgs false
namespace Go.Proofs.Ytjpobhdgfdeenaa.A
open Go.RowKit Go.Shelf Go.Proofs.YtjpobhdgfdeenaaW.PrintWords Go.Maps
attribute [local go_sem] Oper.semAt_some

/-- Two lists, place by place. -/
def F2 {α β : Type} (R : α → β → Prop) : List α → List β → Prop
  | [], [] => True
  | a :: l, b :: m => R a b ∧ F2 R l m
  | _, _ => False
theorem F2.len {α β : Type} {R : α → β → Prop} : ∀ {l : List α} {m : List β}, F2 R l m → l.length = m.length
  | [], [], _ => rfl
  | _ :: _, _ :: _, h => by simp [F2.len h.2]
theorem F2.imp {α β : Type} {R S : α → β → Prop} : ∀ {l : List α} {m : List β}, F2 R l m → (∀ a b, a ∈ l → R a b → S a b) → F2 S l m
  | [], [], _, _ => trivial
  | a :: l, b :: m, h, k => ⟨k a b (by simp) h.1, F2.imp h.2 (fun x y hx hr => k x y (by simp [hx]) hr)⟩
theorem F2.get {α β : Type} {R : α → β → Prop} : ∀ {l : List α} {m : List β}, F2 R l m → ∀ (i : Nat) (y : β), m[i]? = some y → ∃ x, l[i]? = some x ∧ R x y
  | [], [], _, i, y, hy => by simp at hy
  | a :: l, b :: m, h, 0, y, hy => by simp at hy; subst hy; exact ⟨a, rfl, h.1⟩
  | a :: l, b :: m, h, i + 1, y, hy => by simpa using F2.get h.2 i y (by simpa using hy)
theorem F2.set {α β : Type} {R : α → β → Prop} : ∀ {l : List α} {m : List β}, F2 R l m → ∀ (i : Nat) (x : α) (y : β), R x y → F2 R (l.set i x) (m.set i y)
  | [], [], _, i, x, y, _ => by simp [F2]
  | a :: l, b :: m, h, 0, x, y, hr => by simpa using ⟨hr, h.2⟩
  | a :: l, b :: m, h, i + 1, x, y, hr => by simpa using ⟨h.1, F2.set h.2 i x y hr⟩
theorem F2.append {α β : Type} {R : α → β → Prop} : ∀ {l : List α} {m : List β} {l' : List α} {m' : List β}, F2 R l m → F2 R l' m' → F2 R (l ++ l') (m ++ m')
  | [], [], _, _, _, h' => h'
  | a :: l, b :: m, _, _, h, h' => ⟨h.1, F2.append h.2 h'⟩
theorem F2.take {α β : Type} {R : α → β → Prop} : ∀ {l : List α} {m : List β}, F2 R l m → ∀ (i : Nat), F2 R (l.take i) (m.take i)
  | [], [], _, i => by simp [F2]
  | a :: l, b :: m, _, 0 => by simp [F2]
  | a :: l, b :: m, h, i + 1 => by simpa using ⟨h.1, F2.take h.2 i⟩
theorem F2.drop {α β : Type} {R : α → β → Prop} : ∀ {l : List α} {m : List β}, F2 R l m → ∀ (i : Nat), F2 R (l.drop i) (m.drop i)
  | [], [], _, i => by simp [F2]
  | a :: l, b :: m, h, 0 => by simpa using h
  | a :: l, b :: m, h, i + 1 => by simpa using F2.drop h.2 i
def ints (xs : List Int) : List Value := xs.map (Value.int .i64)
theorem ints_len (xs : List Int) : (ints xs).length = xs.length := by simp [ints]
/-- A list of rows in memory of the call's own: the outer slice and each inner one, in blocks of their own. -/
structure Own2 (w : World) (base : Nat) (v : Value) (vs : List Value) (xs : List (List Int)) : Prop where
  outer : OwnS w base 22 v vs
  rows : F2 (fun u x => OwnS w base 3 u (ints x)) vs xs
  apart : vs.Pairwise (fun a b => a.ownBlock ≠ b.ownBlock)
theorem OwnS.kept {w w' : World} {base : Nat} {e : TypeId} {v : Value} {xs : List Value} (h : OwnS w base e v xs) {row : Option Nat} (hg : w.grownBy w' row) (hn : v.ownBlock ≠ row) : OwnS w' base e v xs := by
  obtain ⟨g, c, cur, rfl, hb, hB, r⟩ := h
  exact ⟨g, c, cur, rfl, hb, (hg.block g (blk_lt hB) hn).trans hB, r⟩
theorem OwnS.cell {w : World} {base : Nat} {e : TypeId} {v : Value} {xs : List Value} (h : OwnS w base e v xs) : ∃ g c, v = .slice (some ⟨g, 0, none⟩) xs.length c ∧ base ≤ g ∧ g < w.heap.size ∧ xs.length ≤ c ∧ 0 < c ∧ c ≤ 9223372036854775807 ∧ ∀ j u, xs[j]? = some u → w.cell? ⟨g, j, none⟩ = some u := by
  obtain ⟨g, c, cur, rfl, hb, hB, h1, h2, h3, h4, h5, _⟩ := h
  refine ⟨g, c, rfl, hb, blk_lt hB, h1, h5, by omega, fun j u hj => ?_⟩
  rw [blk_cell hB]
  rw [← h4, List.getElem?_take] at hj
  split at hj
  · exact hj
  · cases hj
theorem OwnS.ints_read {w : World} {base : Nat} {v : Value} {xs : List Int} (h : OwnS w base 3 v (ints xs)) : ∃ g c, v = .slice (some ⟨g, 0, none⟩) xs.length c ∧ xs.length ≤ c ∧ Kd.C (Kd.int .i64) w (some ⟨g, 0, none⟩) xs.length xs := by
  obtain ⟨g, c, hv, _, _, h1, _, h2, hc⟩ := h.cell
  rw [ints_len] at hv h1
  refine ⟨g, c, hv, h1, rfl, by omega, fun _ => ⟨_, rfl, fun j p hj => ⟨[.int .i64 p], rfl, rfl, fun i u hu => ?_⟩⟩⟩
  have hi : i = 0 := by
    have := (List.getElem?_eq_some_iff.1 hu).1
    simpa using this
  subst hi
  simp at hu
  subst hu
  rw [Addr.add_lit]
  have := hc j (.int .i64 p) (by simp [ints, hj])
  rwa [show 0 + (j * (Kd.int .i64).sz + 0) = j from by rw [Nat.zero_add]; exact Nat.mul_one j]
/-- The whole reads as its rows. -/
theorem Own2.reads {w : World} {base : Nat} {v : Value} {vs : List Value} {xs : List (List Int)} (h : Own2 w base v vs xs) : ∃ g c, v = .slice (some ⟨g, 0, none⟩) xs.length c ∧ vs.length = xs.length ∧ xs.length ≤ c ∧ Kd.C (Kd.slice 3 (Kd.int .i64)) w (some ⟨g, 0, none⟩) xs.length xs := by
  obtain ⟨g, c, hv, _, _, h1, _, h2, hc⟩ := h.outer.cell
  have hl : vs.length = xs.length := h.rows.len
  rw [hl] at hv h1
  refine ⟨g, c, hv, hl, h1, rfl, by omega, fun _ => ⟨_, rfl, fun j p hj => ?_⟩⟩
  obtain ⟨u, hu, hr⟩ := h.rows.get j p hj
  obtain ⟨g', c', rfl, h3, h4⟩ := hr.ints_read
  refine ⟨[_], rfl, ⟨_, c', rfl, h3, h4⟩, fun i q hq => ?_⟩
  have hi : i = 0 := by
    have := (List.getElem?_eq_some_iff.1 hq).1
    simpa using this
  subst hi
  simp at hq
  subst hq
  rw [Addr.add_lit]
  have := hc j _ hu
  rwa [show 0 + (j * (Kd.slice 3 (Kd.int .i64)).sz + 0) = j from by rw [Nat.zero_add]; exact Nat.mul_one j]
end Go.Proofs.Ytjpobhdgfdeenaa.A
