/- What Find, Nth and At answer: plain lists. -/
import Derived.Test.YtjpobhdgfdeenaaProg
import Derived.Below
import Derived.Deep.Draws
import Derived.Deep.AppendLies
import Derived.Maps.AppendAt
import Derived.Maps.OwnSet
import Derived.OwnWalk
import Derived.Laws.BytesArg
import Derived.Laws.MakeOwn
import Derived.Laws.OwnMore
import Derived.Deep.OwnRows
import Derived.Tactics
import Derived.Laws.Slices
import Derived.WalkKit
import Derived.KernelRfl
import Derived.RowKit3
import Derived.Deep.LoopGhost
import Derived.Deep.QuietTactic
import Derived.BigQuiet
import Derived.WideLaws
import Derived.Deep.DeepCutAuto
import Derived.Deep.CutBlock
import Derived.Deep.RegionHeld3
import Derived.Laws.Rows
import Derived.ArgAppend
import Derived.Laws.IdiomCopy
import Derived.OrdersHeld
import Derived.Laws.BitsLemmas
import Derived.Outline
import Derived.WalkSpells
import Derived.Lib.Hide
import Derived.RowKit
import Derived.Deep.DeepMust
import Derived.Test.YtjpobhdgfdeenaaA24
import Derived.Test.YtjpobhdgfdeenaaA7
set_option linter.unusedVariables false
set_option linter.unusedSimpArgs false
namespace Go.Proofs.Ytjpobhdgfdeenaa.A
open Go.RowKit Go.Proofs.YtjpobhdgfdeenaaW.PrintWords Go.Maps

theorem posRow_keys : ∀ (r : List Int) (x i k : Int), (posRow x i k r).map (fun p => p.2.2.2) = r ∧ ∀ (j : Nat) (p : Pos), (posRow x i k r)[j]? = some p → p.1 = x + j
  | [], x, i, k => by simp [posRow]
  | y :: r, x, i, k => by
    obtain ⟨h1, h2⟩ := posRow_keys r (x + 1) i (k + 1)
    rw [posRow]
    refine ⟨by simp [h1], fun j p hj => ?_⟩
    cases j with
    | zero => simp at hj; subst hj; simp
    | succ j =>
      have := h2 j p (by simpa using hj)
      rw [this]
      push_cast
      omega
theorem posRow_len' (r : List Int) (x i k : Int) : (posRow x i k r).length = r.length := by
  have := congrArg List.length (posRow_keys r x i k).1
  simpa using this
theorem posAll_keys : ∀ (l : List (List Int)) (x i : Int), (posAll x i l).map (fun p => p.2.2.2) = l.flatten ∧ ∀ (j : Nat) (p : Pos), (posAll x i l)[j]? = some p → p.1 = x + j
  | [], x, i => by simp [posAll]
  | r :: t, x, i => by
    obtain ⟨h1, h2⟩ := posAll_keys t (x + r.length) (i + 1)
    obtain ⟨h3, h4⟩ := posRow_keys r x i 0
    rw [posAll]
    refine ⟨by rw [List.map_append, h1, h3]; rfl, fun j p hj => ?_⟩
    by_cases hjr : j < r.length
    · rw [List.getElem?_append_left (by rw [posRow_len']; exact hjr)] at hj
      exact h4 j p hj
    · rw [List.getElem?_append_right (by rw [posRow_len']; omega), posRow_len'] at hj
      rw [h2 _ p hj]
      omega
theorem idxFrom_split (k : Int) : ∀ (l1 l2 : List Int) (i : Nat), k ∉ l1 → idxFrom k i (l1 ++ k :: l2) = ((i + l1.length : Nat) : Int)
  | [], l2, i, _ => by simp [idxFrom]
  | y :: l1, l2, i, h => by
    simp at h
    rw [List.cons_append, idxFrom, if_neg (Ne.symm h.1), idxFrom_split k l1 l2 (i + 1) h.2]
    simp
    omega
def findF (b : Int) (l : List (List Int)) (k : Int) : Int × Int :=
  if validB b l = true ∧ keyB k = true then (if idxF l.flatten k < 0 then (0, 8) else (idxF l.flatten k, 0)) else (0, 1)
def atF (b : Int) (l : List (List Int)) (m : Int) : Int × Int × Int :=
  if validB b l = true then (if m < 0 ∨ (l.flatten.length : Int) ≤ m then (0, 0, 7) else ((spotF l m).1, m - (spotF l m).2, 0)) else (0, 0, 1)
theorem pos_prefix {l : List (List Int)} {pre : List Pos} {p : Pos} (h : pre ++ [p] <+: posAll 0 0 l) : p.1 = pre.length ∧ ∃ t, l.flatten = pre.map (fun q => q.2.2.2) ++ p.2.2.2 :: t := by
  obtain ⟨t, ht⟩ := h
  obtain ⟨h1, h2⟩ := posAll_keys l 0 0
  refine ⟨?_, t.map (fun q => q.2.2.2), by rw [← h1, ← ht]; simp⟩
  have := h2 pre.length p (by rw [← ht]; simp)
  omega
theorem findF_none {b k : Int} {l : List (List Int)} (hv : validB b l = true) (hk : keyB k = true) (h : ∀ p ∈ posAll 0 0 l, p.2.2.2 ≠ k) : findF b l k = (0, 8) := by
  have hn : k ∉ l.flatten := by
    rw [← (posAll_keys l 0 0).1]
    intro hm
    obtain ⟨p, hp, he⟩ := List.mem_map.1 hm
    exact h p hp he
  have : idxF l.flatten k < 0 := by
    have := (idxFrom_mem k l.flatten 0)
    have h2 : ¬ (0 ≤ idxFrom k 0 l.flatten) := fun hx => hn (this.1 hx)
    unfold idxF
    omega
  unfold findF
  rw [if_pos ⟨hv, hk⟩, if_pos this]
theorem findF_some {b k : Int} {l : List (List Int)} {pre : List Pos} {p : Pos} (hv : validB b l = true) (hk : keyB k = true) (h : pre ++ [p] <+: posAll 0 0 l) (h1 : ∀ q ∈ pre, q.2.2.2 ≠ k) (h2 : p.2.2.2 = k) : findF b l k = (p.1, 0) := by
  obtain ⟨h3, t, h4⟩ := pos_prefix h
  have : idxF l.flatten k = pre.length := by
    rw [h4, h2]
    unfold idxF
    rw [idxFrom_split k _ t 0 (fun hm => by obtain ⟨q, hq, he⟩ := List.mem_map.1 hm; exact h1 q hq he)]
    simp
  unfold findF
  rw [if_pos ⟨hv, hk⟩, if_neg (by rw [this]; omega), this, h3]
theorem atF_none {b m : Int} {l : List (List Int)} (hv : validB b l = true) (h : ∀ p ∈ posAll 0 0 l, p.1 ≠ m) : atF b l m = (0, 0, 7) := by
  unfold atF
  rw [if_pos hv, if_pos]
  by_cases h0 : m < 0
  · exact .inl h0
  · refine .inr ?_
    by_cases h1 : m < 0 + l.flatten.length
    · obtain ⟨p, hp, he⟩ := posAll_all l 0 0 m (by omega) h1
      exact absurd he (h p hp)
    · omega
theorem atF_some {b m : Int} {l : List (List Int)} {pre : List Pos} {p : Pos} (hv : validB b l = true) (h : pre ++ [p] <+: posAll 0 0 l) (h2 : p.1 = m) : atF b l m = (p.2.1, p.2.2.1, 0) := by
  obtain ⟨h3, t, h4⟩ := pos_prefix h
  obtain ⟨j, q, ha, hj, hq, _⟩ := At_of_pos (h.subset (List.mem_append.2 (.inr (List.mem_singleton.2 rfl))))
  have hs := spotF_at ha
  obtain ⟨row, _, hm, _⟩ := ha
  have hl : (l.flatten.length : Int) = pre.length + 1 + t.length := by rw [h4]; simp; omega
  unfold atF
  rw [if_pos hv, if_neg (by omega), ← h2, hs, hj, hq]
  simp only [Prod.mk.injEq, true_and, and_true]
  omega
theorem Find_calls (b k : Int) (A : Option Addr) (c : Nat) (l : List (List Int)) (w : World) (hr : Kd.C (Kd.slice 3 (Kd.int .i64)) w A l.length l) :
    Calls Try.prog 22 #[.int .i64 b, .slice A l.length c, .int .i64 k] w fun e w' => e = .returned (.tuple #[.int .i64 (findF b l k).1, .int .i64 (findF b l k).2]) ∧ Below w.heap.size w w' := by
  cases hv : validB b l with
  | false =>
    have : findF b l k = (0, 1) := by unfold findF; rw [if_neg (by rw [hv]; simp)]
    rw [this]
    exact find_no1 b k A c l w hr hv
  | true =>
    cases hk : keyB k with
    | false =>
      have : findF b l k = (0, 1) := by unfold findF; rw [if_neg (by rw [hk]; simp)]
      rw [this]
      exact find_no2 b k A c l w hr hv hk
    | true =>
      refine (find_in b k A c l w hr hv hk).mono ?_
      rintro e w' ⟨hb, ⟨rfl, h⟩ | ⟨pre, p, rfl, h1, h2, h3⟩⟩
      · rw [findF_none hv hk h]
        exact ⟨rfl, hb⟩
      · rw [findF_some hv hk h1 h2 h3]
        exact ⟨rfl, hb⟩
theorem At_calls (b m : Int) (A : Option Addr) (c : Nat) (l : List (List Int)) (w : World) (hr : Kd.C (Kd.slice 3 (Kd.int .i64)) w A l.length l) :
    Calls Try.prog 26 #[.int .i64 b, .slice A l.length c, .int .i64 m] w fun e w' => e = .returned (.tuple #[.int .i64 (atF b l m).1, .int .i64 (atF b l m).2.1, .int .i64 (atF b l m).2.2]) ∧ Below w.heap.size w w' := by
  cases hv : validB b l with
  | false =>
    have : atF b l m = (0, 0, 1) := by unfold atF; rw [if_neg (by rw [hv]; simp)]
    rw [this]
    exact at_no b m A c l w hr hv
  | true =>
    refine (at_in b m A c l w hr hv).mono ?_
    rintro e w' ⟨hb, ⟨rfl, h⟩ | ⟨pre, p, rfl, h1, h2⟩⟩
    · rw [atF_none hv h]
      exact ⟨rfl, hb⟩
    · rw [atF_some hv h1 h2]
      exact ⟨rfl, hb⟩
end Go.Proofs.Ytjpobhdgfdeenaa.A
