/- Rows of rows of the call's own behind a run's end; a row's beginning and end. -/
import Derived.Test.YtjpobhdgfdeenaaProg
import Derived.Below
import Derived.Deep.Draws
import Derived.Deep.AppendLies
import Derived.Maps.AppendAt
import Derived.Maps.OwnSet
import Derived.OwnWalk
import Derived.Laws.BytesArg
import Derived.Laws.MakeOwn
import Derived.Laws.OwnMore
import Derived.Deep.OwnRows
import Derived.Tactics
import Derived.Laws.Slices
import Derived.WalkKit
import Derived.KernelRfl
import Derived.RowKit3
import Derived.Deep.LoopGhost
import Derived.Deep.QuietTactic
import Derived.BigQuiet
import Derived.WideLaws
import Derived.Deep.DeepCutAuto
import Derived.Deep.CutBlock
import Derived.Deep.RegionHeld3
import Derived.Laws.Rows
import Derived.ArgAppend
import Derived.Laws.IdiomCopy
import Derived.OrdersHeld
import Derived.Laws.BitsLemmas
import Derived.Outline
import Derived.WalkSpells
import Derived.Lib.Hide
import Derived.RowKit
import Derived.Deep.DeepMust
import Derived.RangeFuncOwn
import Derived.RangeFuncKeeps
import Derived.Test.YtjpobhdgfdeenaaS9
set_option linter.unusedVariables false
set_option linter.unusedSimpArgs false
namespace Go.Proofs.Ytjpobhdgfdeenaa.A
open Go.RowKit Go.Proofs.YtjpobhdgfdeenaaW.PrintWords Go.Maps

theorem Own2.ended {w : World} {base D : Nat} {v : Value} {vs : List Value} {xs : List (List Int)} {o o' : Obj} (h : Own2 w base v vs xs) (hD : w.heap[D]? = some o) (ho : o.isCells = false) : Own2 (w.putObj D o') base v vs xs :=
  h.kept fun i t cells _ hi _ _ => World.putObj_heap_other (by rintro rfl; rw [hD] at hi; cases hi; cases ho)
theorem OwnS.pre {w : World} {base g len c : Nat} {row : List Int} (h : OwnS w base 3 (.slice (some ⟨g, 0, none⟩) len c) (ints row)) (n : Nat) (h0 : 0 < n) (hn : n ≤ row.length) : OwnS w base 3 (.slice (some ⟨g, 0, none⟩) n n) (ints (row.take n)) := by
  obtain ⟨g1, c1, cur, e, hb, hB, h1, h2, h3, h4, h5, h6⟩ := h
  injection e with e e2 e3
  injection e with e
  injection e with e
  subst e
  have hl : (ints (row.take n)).length = n := by rw [ints_len, List.length_take]; omega
  rw [ints_len] at h1 h4
  refine ⟨g, n, cur, by rw [hl], hb, hB, by omega, by omega, h3, ?_, h0, fun x hx => ?_⟩
  · rw [hl]
    have e1 : ints (row.take n) = (ints row).take n := by simp [ints, List.map_take]
    rw [e1, ← h4, List.take_take, Nat.min_eq_left hn]
  · exact h6 x (by simp only [ints, List.mem_map] at hx ⊢; obtain ⟨y, hy, rfl⟩ := hx; exact ⟨y, List.mem_of_mem_take hy, rfl⟩)
theorem OwnS.suf {w : World} {base g len c : Nat} {row : List Int} (h : OwnS w base 3 (.slice (some ⟨g, 0, none⟩) len c) (ints row)) (n : Nat) (hn : n ≤ row.length) (hc : n < c) : Kd.C (Kd.int .i64) w (some ⟨g, n, none⟩) (row.drop n).length (row.drop n) := by
  obtain ⟨g1, c1, e, h1, hC⟩ := h.ints_read
  injection e with e e2 e3
  injection e with e
  injection e with e
  subst e e3
  have := Kd.C_drop hC hn h1
  rw [if_neg (by omega), show n * (Kd.int .i64).sz = n from Nat.mul_one n] at this
  simpa [Addr.add_lit] using this
theorem OwnS.info {w : World} {base g len c : Nat} {row : List Int} (h : OwnS w base 3 (.slice (some ⟨g, 0, none⟩) len c) (ints row)) : len = row.length ∧ row.length ≤ c ∧ c ≤ 9223372036854775807 ∧ base ≤ g ∧ g < w.heap.size := by
  obtain ⟨g1, c1, e, h1, h2, h3, h4, h5, _⟩ := h.cell
  injection e with e e2 e3
  injection e with e
  injection e with e
  subst e e3
  rw [ints_len] at e2 h3
  exact ⟨e2, h3, h5, h1, h2⟩
theorem OwnS.not_deferred {w : World} {base D : Nat} {e : TypeId} {v : Value} {xs : List Value} {o : Obj} (h : OwnS w base e v xs) (hD : w.heap[D]? = some o) (ho : o.isCells = false) : v.ownBlock ≠ some D := by
  obtain ⟨g, c, rfl, e1, _, _, cells, hc⟩ := own_addr h
  rw [e1]
  intro he
  injection he with he
  subst he
  rw [hD] at hc
  cases hc
  cases ho
theorem OwnS.low {w : World} {base base' : Nat} {e : TypeId} {v : Value} {xs : List Value} (h : OwnS w base e v xs) (hb : base' ≤ base) : OwnS w base' e v xs := by
  obtain ⟨g, c, cur, e1, h1, r⟩ := h
  exact ⟨g, c, cur, e1, by omega, r⟩
theorem set_take {α : Type} (l : List α) (j : Nat) (x : α) (h : j < l.length) : (l.set j x).take (j + 1) = l.take j ++ [x] := by
  rw [List.take_add_one, List.getElem?_set_self h]
  simp [List.take_set_of_le]
theorem set_drop {α : Type} (l : List α) (j : Nat) (x : α) : (l.set j x).drop (j + 1) = l.drop (j + 1) := by
  rw [List.drop_set_of_lt (by omega)]
end Go.Proofs.Ytjpobhdgfdeenaa.A
