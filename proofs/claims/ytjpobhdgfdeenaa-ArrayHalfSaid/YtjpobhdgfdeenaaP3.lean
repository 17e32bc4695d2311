/- A key put at an index of blocks: plain lists. -/
import Derived.Test.YtjpobhdgfdeenaaProg
import Derived.Below
import Derived.Deep.Draws
import Derived.Deep.AppendLies
import Derived.Maps.AppendAt
import Derived.Maps.OwnSet
import Derived.OwnWalk
import Derived.Laws.BytesArg
import Derived.Laws.MakeOwn
import Derived.Laws.OwnMore
import Derived.Deep.OwnRows
import Derived.Tactics
import Derived.Laws.Slices
import Derived.WalkKit
import Derived.KernelRfl
import Derived.RowKit3
import Derived.Deep.LoopGhost
import Derived.Deep.QuietTactic
import Derived.BigQuiet
import Derived.WideLaws
import Derived.Deep.DeepCutAuto
import Derived.Deep.CutBlock
import Derived.Deep.RegionHeld3
import Derived.Laws.Rows
import Derived.ArgAppend
import Derived.Laws.IdiomCopy
import Derived.OrdersHeld
import Derived.Laws.BitsLemmas
import Derived.Outline
import Derived.WalkSpells
import Derived.Lib.Hide
import Derived.RowKit
import Derived.Deep.DeepMust
import Derived.Test.YtjpobhdgfdeenaaA14
set_option linter.unusedVariables false
set_option linter.unusedSimpArgs false
namespace Go.Proofs.Ytjpobhdgfdeenaa.A

theorem split_at {l : List (List Int)} {j : Nat} {row : List Int} (h : l[j]? = some row) : l = l.take j ++ row :: l.drop (j + 1) := by
  have hj : j < l.length := (List.getElem?_eq_some_iff.1 h).1
  have h6 : l[j] = row := (List.getElem?_eq_some_iff.1 h).2
  rw [← h6, ← List.drop_eq_getElem_cons hj, List.take_append_drop]
theorem At_some {l : List (List Int)} {m : Int} (hne : l ≠ []) (h0 : 0 ≤ m) (h1 : m ≤ l.flatten.length) : ∃ j q, At l m j q := by
  by_cases e : m < 0 + l.flatten.length
  · obtain ⟨p, hp, he⟩ := posAll_all l 0 0 m h0 e
    obtain ⟨j, q, ha, _⟩ := At_of_pos hp
    exact ⟨j, q, he ▸ ha⟩
  · obtain ⟨row, _, ha⟩ := At_end hne
    have : m = l.flatten.length := by omega
    exact ⟨_, _, this ▸ ha⟩
theorem insF_flat (b : Int) (l : List (List Int)) (j : Nat) (row : List Int) (hj : j < l.length) : (insF b l j row).flatten = (l.take j).flatten ++ row ++ (l.drop (j + 1)).flatten := by
  unfold insF
  split
  · rw [List.set_eq_take_append_cons_drop, if_pos hj]
    simp
  · simp only [List.flatten_append, List.flatten_cons]
    rw [← List.append_assoc (row.take _), List.take_append_drop, List.append_assoc]
theorem putF_flat (b : Int) (l : List (List Int)) (m k : Int) (h0 : 0 ≤ m) (h1 : m ≤ l.flatten.length) : (putF b l m k).flatten = l.flatten.take m.toNat ++ k :: l.flatten.drop m.toNat := by
  by_cases hne : l = []
  · subst hne
    simp [putF]
  · obtain ⟨j, q, ha⟩ := At_some hne h0 h1
    obtain ⟨row, hr, hm, hq⟩ := ha
    have hj : j < l.length := (List.getElem?_eq_some_iff.1 hr).1
    rw [putF_at ⟨row, hr, hm, hq⟩ hr, insF_flat _ _ _ _ hj]
    have hs := split_at hr
    have hf : l.flatten = (l.take j).flatten ++ (row ++ (l.drop (j + 1)).flatten) := by
      conv => lhs; rw [hs]
      simp
    have hmn : m.toNat = (l.take j).flatten.length + q := by omega
    have hql : q ≤ row.length := by omega
    rw [hf, hmn, List.take_length_add_append, List.drop_length_add_append, List.take_append_of_le_length hql, List.drop_append_of_le_length hql]
    simp
/-- Rows as an array has them. -/
def Rows (b : Int) (l : List (List Int)) : Prop := ∀ r ∈ l, r ≠ [] ∧ (r.length : Int) ≤ b
theorem insF_rows {b : Int} {l : List (List Int)} {j : Nat} {row : List Int} (hb : 2 ≤ b) (h : Rows b l) (hr : row ≠ []) (hl : (row.length : Int) ≤ b + 1) : Rows b (insF b l j row) := by
  unfold insF
  intro r hm
  split at hm
  · rename_i hle
    rcases List.mem_or_eq_of_mem_set hm with hm | rfl
    · exact h r hm
    · exact ⟨hr, hle⟩
  · rename_i hle
    have hN : halfN b = ((b + 2) / 2).toNat := rfl
    rw [List.mem_append, List.mem_cons, List.mem_cons] at hm
    rcases hm with hm | rfl | rfl | hm
    · exact h r (List.mem_of_mem_take hm)
    · have : (row.take (halfN b)).length = halfN b := by rw [List.length_take]; omega
      refine ⟨fun e => ?_, by omega⟩
      rw [e] at this
      simp at this
      omega
    · have : (row.drop (halfN b)).length = row.length - halfN b := List.length_drop
      refine ⟨fun e => ?_, by omega⟩
      rw [e] at this
      simp at this
      omega
    · exact h r (List.mem_of_mem_drop hm)
theorem putF_rows {b : Int} {l : List (List Int)} {m k : Int} (hb : 2 ≤ b) (h : Rows b l) (h0 : 0 ≤ m) (h1 : m ≤ l.flatten.length) : Rows b (putF b l m k) := by
  by_cases hne : l = []
  · subst hne
    intro r hr
    simp [putF] at hr
    subst hr
    simp
    omega
  · obtain ⟨j, q, ha⟩ := At_some hne h0 h1
    obtain ⟨row, hr, hm, hq⟩ := ha
    rw [putF_at ⟨row, hr, hm, hq⟩ hr]
    have hrow := h row (List.mem_of_getElem? hr)
    exact insF_rows hb h (by simp) (by rw [ins_len row q (by omega) k]; omega)
theorem putF_ne {b : Int} {l : List (List Int)} {m k : Int} (h0 : 0 ≤ m) (h1 : m ≤ l.flatten.length) : putF b l m k ≠ [] := fun e => by
  have := putF_flat b l m k h0 h1
  rw [e] at this
  simp at this
theorem rows_len {b : Int} : ∀ {l : List (List Int)}, Rows b l → l.length ≤ l.flatten.length
  | [], _ => by simp
  | r :: t, h => by
    have h1 := (h r (by simp)).1
    have h2 : 0 < r.length := List.length_pos_iff.2 h1
    have h3 := rows_len (l := t) (fun x hx => h x (by simp [hx]))
    rw [List.flatten_cons, List.length_append, List.length_cons]
    omega
/-- The first i keys, one put behind the other. -/
def makeN (b : Int) (l : List Int) : Nat → List (List Int)
  | 0 => []
  | i + 1 => putF b (makeN b l i) i (l.getD i 0)
theorem makeN_inv {b : Int} (hb : 2 ≤ b) (l : List Int) : ∀ i, i ≤ l.length → (makeN b l i).flatten = l.take i ∧ Rows b (makeN b l i)
  | 0, _ => by simp [makeN, Rows]
  | i + 1, h => by
    obtain ⟨h1, h2⟩ := makeN_inv hb l i (by omega)
    have hl : (makeN b l i).flatten.length = i := by rw [h1, List.length_take]; omega
    rw [makeN]
    refine ⟨?_, putF_rows hb h2 (by omega) (by omega)⟩
    rw [putF_flat _ _ _ _ (by omega) (by omega), h1, List.take_succ_eq_append_getElem (by omega)]
    simp [List.getD_eq_getElem?_getD, List.getElem?_eq_getElem (show i < l.length by omega), List.take_take]
end Go.Proofs.Ytjpobhdgfdeenaa.A
