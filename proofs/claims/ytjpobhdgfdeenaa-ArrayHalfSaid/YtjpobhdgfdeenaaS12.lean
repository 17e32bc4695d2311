/- A row taken out of rows of rows of the call's own. -/
import Derived.Test.YtjpobhdgfdeenaaProg
import Derived.Below
import Derived.Deep.Draws
import Derived.Deep.AppendLies
import Derived.Maps.AppendAt
import Derived.Maps.OwnSet
import Derived.OwnWalk
import Derived.Laws.BytesArg
import Derived.Laws.MakeOwn
import Derived.Laws.OwnMore
import Derived.Deep.OwnRows
import Derived.Tactics
import Derived.Laws.Slices
import Derived.WalkKit
import Derived.KernelRfl
import Derived.RowKit3
import Derived.Deep.LoopGhost
import Derived.Deep.QuietTactic
import Derived.BigQuiet
import Derived.WideLaws
import Derived.Deep.DeepCutAuto
import Derived.Deep.CutBlock
import Derived.Deep.RegionHeld3
import Derived.Laws.Rows
import Derived.ArgAppend
import Derived.Laws.IdiomCopy
import Derived.OrdersHeld
import Derived.Laws.BitsLemmas
import Derived.Outline
import Derived.WalkSpells
import Derived.Lib.Hide
import Derived.RowKit
import Derived.Deep.DeepMust
import Derived.Test.YtjpobhdgfdeenaaA28
set_option linter.unusedVariables false
set_option linter.unusedSimpArgs false
namespace Go.Proofs.Ytjpobhdgfdeenaa.A
open Go.RowKit Go.Proofs.YtjpobhdgfdeenaaW.PrintWords Go.Maps

theorem ints_erase (r : List Int) (q : Nat) : ints (r.eraseIdx q) = (ints r).eraseIdx q := by
  simp only [ints, List.eraseIdx_eq_take_drop_succ, List.map_append, List.map_take, List.map_drop]
theorem F2.eraseIdx {α β : Type} {R : α → β → Prop} {l : List α} {m : List β} (h : F2 R l m) (i : Nat) : F2 R (l.eraseIdx i) (m.eraseIdx i) := by
  rw [List.eraseIdx_eq_take_drop_succ, List.eraseIdx_eq_take_drop_succ]
  exact (h.take i).append (h.drop (i + 1))
theorem Own2.eraseRow {w w' : World} {base : Nat} {v v' : Value} {vs : List Value} {l : List (List Int)} (h : Own2 w base v vs l) (i : Nat) (hg : w.grownBy w' v.ownBlock) (ho : OwnS w' base 22 v' (vs.eraseIdx i)) : Own2 w' base v' (vs.eraseIdx i) (l.eraseIdx i) := by
  have hrows : F2 (fun u x => OwnS w' base 3 u (ints x)) vs l := F2_iff.2 ⟨h.rows.len, fun a x y hx hy => by
    have h1 := (F2_iff.1 h.rows).2 a x y hx hy
    exact h1.kept hg (own_ne h1 h.outer (by decide))⟩
  exact ⟨ho, hrows.eraseIdx i, h.apart.sublist (List.eraseIdx_sublist vs i)⟩
theorem Own2.toA {w : World} {base : Nat} {v : Value} {vs : List Value} {l : List (List Int)} (h : Own2 w base v vs l) : OwnA w base v l := by
  by_cases hne : l = []
  · subst hne
    obtain ⟨g, c, e, hl, _⟩ := h.reads
    exact .inl ⟨rfl, _, c, e⟩
  · exact .inr ⟨hne, vs, h⟩
theorem OwnA.ended {w : World} {base D : Nat} {v : Value} {l : List (List Int)} {o o' : Obj} (h : OwnA w base v l) (hD : w.heap[D]? = some o) (ho : o.isCells = false) : OwnA (w.putObj D o') base v l := by
  rcases h with h | ⟨hne, vs, h⟩
  · exact .inl h
  · exact .inr ⟨hne, vs, h.ended hD ho⟩
/-- Two neighbours made one. -/
def mergeL (b : Int) (l : List (List Int)) (f : Nat) : Option (List (List Int)) :=
  if f + 1 < l.length ∧ (((l.getD f []).length + (l.getD (f + 1) []).length : Nat) : Int) ≤ b then some ((l.set f (l.getD f [] ++ l.getD (f + 1) [])).eraseIdx (f + 1)) else none
/-- Rows of which row j is now r: an empty one out, a small one joined with a neighbour. -/
def remL (b : Int) (l : List (List Int)) (j : Nat) (r : List Int) : List (List Int) :=
  if r = [] then l.eraseIdx j else if (b + 1) / 2 ≤ (r.length : Int) then l.set j r else
    match mergeL b (l.set j r) j with
    | some x => x
    | none => if j = 0 then l.set j r else match mergeL b (l.set j r) (j - 1) with
      | some x => x
      | none => l.set j r
/-- The key at an index taken out. -/
def remF (b : Int) (l : List (List Int)) (m : Int) : List (List Int) × Int :=
  (remL b l (spotF l m).1.toNat ((l.getD (spotF l m).1.toNat []).eraseIdx (m - (spotF l m).2).toNat), (l.getD (spotF l m).1.toNat []).getD (m - (spotF l m).2).toNat 0)
theorem remF_at {b m : Int} {l : List (List Int)} {j q : Nat} {rj : List Int} (h : At l m j q) (hj : l[j]? = some rj) : remF b l m = (remL b l j (rj.eraseIdx q), rj.getD q 0) := by
  have h1 := spotF_at h
  obtain ⟨row, h0, h2, _⟩ := h
  unfold remF
  rw [h1]
  have e1 : ((j : Int), (((l.take j).flatten.length : Nat) : Int)).1.toNat = j := by simp
  have e2 : (m - ((j : Int), (((l.take j).flatten.length : Nat) : Int)).2).toNat = q := by simp only [h2]; omega
  rw [e1, e2]
  have e3 : l.getD j [] = rj := by simp [List.getD_eq_getElem?_getD, hj]
  rw [e3]
end Go.Proofs.Ytjpobhdgfdeenaa.A
