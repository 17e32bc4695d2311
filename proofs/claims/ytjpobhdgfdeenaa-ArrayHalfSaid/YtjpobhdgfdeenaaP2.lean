/- Where an index lies: plain lists. -/
import Derived.Test.YtjpobhdgfdeenaaProg
import Derived.Below
import Derived.Deep.Draws
import Derived.Deep.AppendLies
import Derived.Maps.AppendAt
import Derived.Maps.OwnSet
import Derived.OwnWalk
import Derived.Laws.BytesArg
import Derived.Laws.MakeOwn
import Derived.Laws.OwnMore
import Derived.Deep.OwnRows
import Derived.Tactics
import Derived.Laws.Slices
import Derived.WalkKit
import Derived.KernelRfl
import Derived.RowKit3
import Derived.Deep.LoopGhost
import Derived.Deep.QuietTactic
import Derived.BigQuiet
import Derived.WideLaws
import Derived.Deep.DeepCutAuto
import Derived.Deep.CutBlock
import Derived.Deep.RegionHeld3
import Derived.Laws.Rows
import Derived.ArgAppend
import Derived.Laws.IdiomCopy
import Derived.OrdersHeld
import Derived.Laws.BitsLemmas
import Derived.Outline
import Derived.WalkSpells
import Derived.Lib.Hide
import Derived.RowKit
import Derived.Deep.DeepMust
import Derived.Test.YtjpobhdgfdeenaaS6
import Derived.Test.YtjpobhdgfdeenaaP1
namespace Go.Proofs.Ytjpobhdgfdeenaa.A

/-- The place (j, q): block j, its place q; index m of all. -/
def At (l : List (List Int)) (m : Int) (j q : Nat) : Prop := ∃ row, l[j]? = some row ∧ m = ((l.take j).flatten.length + q : Nat) ∧ (q < row.length ∨ (j + 1 = l.length ∧ q = row.length))
theorem posRow_mem : ∀ (r : List Int) (x i : Int) (k : Nat) (p : Pos), p ∈ posRow x i k r → ∃ q : Nat, q < r.length ∧ p.1 = x + q ∧ p.2.1 = i ∧ p.2.2.1 = ((k + q : Nat) : Int) ∧ r[q]? = some p.2.2.2
  | [], _, _, _, p, h => by simp [posRow] at h
  | y :: r, x, i, k, p, h => by
    rw [posRow] at h
    rcases List.mem_cons.1 h with rfl | h
    · exact ⟨0, by simp, by simp, rfl, by simp, by simp⟩
    · obtain ⟨q, h1, h2, h3, h4, h5⟩ := posRow_mem r (x + 1) i (k + 1) p h
      exact ⟨q + 1, by simp; omega, by rw [h2]; push_cast; omega, h3, by rw [h4]; congr 1; omega, by simpa using h5⟩
theorem posAll_mem : ∀ (l : List (List Int)) (x i : Int) (p : Pos), p ∈ posAll x i l → ∃ j q : Nat, ∃ row, l[j]? = some row ∧ q < row.length ∧ p.1 = x + ((l.take j).flatten.length + q : Nat) ∧ p.2.1 = i + j ∧ p.2.2.1 = (q : Int) ∧ row[q]? = some p.2.2.2
  | [], _, _, p, h => by simp [posAll] at h
  | r :: t, x, i, p, h => by
    rw [posAll] at h
    rcases List.mem_append.1 h with h | h
    · obtain ⟨q, h1, h2, h3, h4, h5⟩ := posRow_mem r x i 0 p h
      exact ⟨0, q, r, rfl, h1, by rw [h2]; simp, by rw [h3]; simp, by rw [h4]; simp, h5⟩
    · obtain ⟨j, q, row, h0, h1, h2, h3, h4, h5⟩ := posAll_mem t (x + r.length) (i + 1) p h
      exact ⟨j + 1, q, row, by simpa using h0, h1, by rw [h2]; simp; omega, by rw [h3]; push_cast; omega, h4, h5⟩
/-- Every index below the number of keys comes up. -/
theorem posRow_all : ∀ (r : List Int) (x i k : Int) (m : Int), x ≤ m → m < x + r.length → ∃ p ∈ posRow x i k r, p.1 = m
  | [], x, _, _, m, h1, h2 => by simp at h2; omega
  | y :: r, x, i, k, m, h1, h2 => by
    by_cases e : m = x
    · exact ⟨(x, i, k, y), by simp [posRow], e.symm⟩
    · obtain ⟨p, hp, he⟩ := posRow_all r (x + 1) i (k + 1) m (by omega) (by simp at h2; omega)
      exact ⟨p, by rw [posRow]; exact List.mem_cons_of_mem _ hp, he⟩
theorem posAll_all : ∀ (l : List (List Int)) (x i : Int) (m : Int), x ≤ m → m < x + l.flatten.length → ∃ p ∈ posAll x i l, p.1 = m
  | [], x, _, m, h1, h2 => by simp at h2; omega
  | r :: t, x, i, m, h1, h2 => by
    by_cases e : m < x + r.length
    · obtain ⟨p, hp, he⟩ := posRow_all r x i 0 m h1 e
      exact ⟨p, by rw [posAll]; exact List.mem_append.2 (.inl hp), he⟩
    · obtain ⟨p, hp, he⟩ := posAll_all t (x + r.length) (i + 1) m (by omega) (by rw [List.flatten_cons, List.length_append] at h2; omega)
      exact ⟨p, by rw [posAll]; exact List.mem_append.2 (.inr hp), he⟩
theorem spotL_past (m : Int) : ∀ (l : List (List Int)) (n : Int) (i : Nat) (p : Int × Int), m < n → spotL m n i p l = p
  | [], n, i, p, _ => rfl
  | r :: t, n, i, p, h => by
    rw [spotL, if_neg (by omega)]
    exact spotL_past m t _ _ _ (by omega)
theorem spotL_at (m : Int) : ∀ (l : List (List Int)) (n : Int) (i : Nat) (p : Int × Int) (j q : Nat) (row : List Int), l[j]? = some row → m = n + ((l.take j).flatten.length + q : Nat) → (q < row.length ∨ (j + 1 = l.length ∧ q = row.length)) →
    spotL m n i p l = (((i + j : Nat) : Int), n + ((l.take j).flatten.length : Nat))
  | [], _, _, _, j, q, row, h0, _, _ => by simp at h0
  | r :: t, n, i, p, 0, q, row, h0, h1, h2 => by
    simp at h0
    subst h0
    simp at h1
    rw [spotL, if_pos (by omega)]
    rcases h2 with h2 | ⟨h2, h3⟩
    · rw [spotL_past m t _ _ _ (by omega)]
      simp
    · have : t = [] := List.eq_nil_of_length_eq_zero (by simpa using h2)
      subst this
      simp [spotL]
  | r :: t, n, i, p, j + 1, q, row, h0, h1, h2 => by
    rw [spotL, spotL_at m t (n + r.length) (i + 1) _ j q row (by simpa using h0) (by rw [h1]; simp; omega) (by simpa using h2)]
    simp
    omega
theorem spotF_at {l : List (List Int)} {m : Int} {j q : Nat} (h : At l m j q) : spotF l m = ((j : Int), (((l.take j).flatten.length : Nat) : Int)) := by
  obtain ⟨row, h0, h1, h2⟩ := h
  unfold spotF
  rw [spotL_at m l 0 0 (0, 0) j q row h0 (by rw [h1]; simp) h2]
  simp
theorem At_of_pos {l : List (List Int)} {p : Pos} (h : p ∈ posAll 0 0 l) : ∃ j q : Nat, At l p.1 j q ∧ p.2.1 = j ∧ p.2.2.1 = q ∧ l.flatten[(l.take j).flatten.length + q]? = some p.2.2.2 := by
  obtain ⟨j, q, row, h0, h1, h2, h3, h4, h5⟩ := posAll_mem l 0 0 p h
  refine ⟨j, q, ⟨row, h0, by rw [h2]; simp, .inl h1⟩, by rw [h3]; simp, h4, ?_⟩
  have hj : j < l.length := (List.getElem?_eq_some_iff.1 h0).1
  have e : l = l.take j ++ row :: l.drop (j + 1) := by
    have h6 : l[j] = row := by
      have := List.getElem?_eq_getElem hj
      rw [this] at h0
      injection h0
    rw [← h6, ← List.drop_eq_getElem_cons hj, List.take_append_drop]
  conv => lhs; arg 1; rw [e]
  rw [List.flatten_append, List.getElem?_append_right (by omega), Nat.add_sub_cancel_left, List.flatten_cons, List.getElem?_append_left h1, h5]
theorem At_end {l : List (List Int)} (h : l ≠ []) : ∃ row, l[l.length - 1]? = some row ∧ At l l.flatten.length (l.length - 1) row.length := by
  have hl : 0 < l.length := List.length_pos_iff.2 h
  refine ⟨l[l.length - 1], List.getElem?_eq_getElem (by omega), l[l.length - 1], List.getElem?_eq_getElem (by omega), ?_, .inr ⟨by omega, rfl⟩⟩
  have e : l.take (l.length - 1) ++ [l[l.length - 1]] = l := by
    have h1 := List.take_succ_eq_append_getElem (show l.length - 1 < l.length by omega)
    rw [← h1, List.take_of_length_le (by omega)]
  have e2 : l.flatten.length = (l.take (l.length - 1)).flatten.length + l[l.length - 1].length := by
    conv => lhs; rw [← e]
    rw [List.flatten_append, List.length_append]
    simp
  rw [e2]
end Go.Proofs.Ytjpobhdgfdeenaa.A
