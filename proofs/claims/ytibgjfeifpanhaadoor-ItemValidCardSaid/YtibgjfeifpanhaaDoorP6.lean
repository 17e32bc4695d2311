/- Items: what the printed functions over items compute. -/
import Derived.Test.YtibgjfeifpanhaaDoorP5
set_option linter.unusedVariables false
set_option linter.unusedSimpArgs false
namespace Go.Proofs.YtibgjfeifpanhaaDoor.B
open Go.RowKit Go.Proofs.YtibgjfeifpanhaaDoorW.PrintWords PItemValid

def nmI (x : S32) : List UInt8 := x.f0.data.toList
def okI (x : S32) : Bool := nameF (nmI x) && (if x.f1 = 1 then (decide (x.f2 ≤ x.f3) && decide (-1000000000 ≤ x.f2) && decide (x.f3 ≤ 1000000000) && (x.f4 == 0)) else if x.f1 = 2 then (decide (1 ≤ x.f4) && decide (x.f4 ≤ 40) && (x.f2 == 0) && (x.f3 == 0)) else false)
theorem item_ValidItem_is (x : S32) : item_ValidItem.f 40 x.f0 x.f1 x.f2 x.f3 x.f4 = some (okI x) := by
  unfold item_ValidItem.f okI nmI
  rw [item_Name_is]
  simp only [Option.bind_some]
  cases nameF x.f0.data.toList with
  | false => rfl
  | true =>
    unfold item_within.f
    simp only [if_true, Bool.true_and]
    by_cases k1 : x.f1 = 1
    · rw [if_pos k1, if_pos k1]
      by_cases a : x.f2 ≤ x.f3 <;> by_cases b : x.f2 ≥ (-1000000000) <;> by_cases c : x.f3 ≤ 1000000000 <;> simp [a, b, c] <;> omega
    · rw [if_neg k1, if_neg k1]
      by_cases k2 : x.f1 = 2
      · rw [if_pos k2, if_pos k2]
        by_cases a : x.f4 ≥ 1 <;> by_cases b : x.f4 ≤ 40 <;> by_cases c : x.f2 = 0 <;> simp [a, b, c] <;> omega
      · rw [if_neg k2, if_neg k2]
theorem ref_ValidItem40 (x : S32) : ringworkref01_ValidItem.f 40 x.f0 x.f1 x.f2 x.f3 x.f4 = some (okI x) := by
  unfold ringworkref01_ValidItem.f okI nmI
  rw [ref_Name_is]
  simp only [Option.bind_some]
  cases nameF x.f0.data.toList with
  | false => rfl
  | true =>
    simp only [if_true, Bool.true_and]
    by_cases k1 : x.f1 = 1
    · rw [if_pos k1, if_pos k1]
      by_cases a : x.f2 ≤ x.f3 <;> by_cases b : (-1000000000) ≤ x.f2 <;> by_cases c : x.f4 = 0 <;> simp [a, b, c] <;> omega
    · rw [if_neg k1, if_neg k1]
      by_cases k2 : x.f1 = 2
      · rw [if_pos k2, if_pos k2]
        by_cases a : 1 ≤ x.f4 <;> by_cases b : x.f2 = 0 <;> by_cases c : x.f3 = 0 <;> simp [a, b, c] <;> omega
      · rw [if_neg k2, if_neg k2]
theorem ref_ValidItem_is (x : S32) (j : Nat) : ringworkref01_ValidItem.f (40 + j) x.f0 x.f1 x.f2 x.f3 x.f4 = some (okI x) := by
  induction j with
  | zero => exact ref_ValidItem40 x
  | succ j ih => exact ringworkref01_ValidItem.mono _ _ _ _ _ _ _ ih
theorem ref_ValidValue_is (x : S29) : ringworkref01_ValidValue.f x.f0 x.f1 x.f2 = some (okV x) := by
  unfold ringworkref01_ValidValue.f okV okV1 okV2
  by_cases k1 : x.f0 = 1
  · rw [if_pos k1, if_pos k1]
    by_cases a : x.f1 ≥ (-1000000000) <;> by_cases b : x.f1 ≤ 1000000000 <;> simp [a, b] <;> omega
  · rw [if_neg k1, if_neg k1]
    by_cases k2 : x.f0 = 2
    · rw [if_pos k2, if_pos k2]
      by_cases a : x.f1 = 0 <;> simp [a]
    · rw [if_neg k2, if_neg k2]
theorem ref_row (l : List S29) (hl : l.length ≤ 20) (n : Nat) : ∀ (i k : Nat), l.length - i ≤ n → i ≤ l.length → n + 1 ≤ k → ringworkref01_ValidRow.l0 k l (i : Int) = some ((l.drop i).all okV && decide ((l.length : Int) ≤ 8)) := by
  induction n with
  | zero =>
    intro i k hn hi hk
    obtain ⟨k', rfl⟩ : ∃ k', k = k' + 1 := ⟨k - 1, by omega⟩
    unfold ringworkref01_ValidRow.l0
    rw [if_neg (by omega), List.drop_eq_nil_of_le (by omega)]
    rfl
  | succ n IH =>
    intro i k hn hi hk
    obtain ⟨k', rfl⟩ : ∃ k', k = k' + 1 := ⟨k - 1, by omega⟩
    unfold ringworkref01_ValidRow.l0
    by_cases h1 : i < l.length
    · rw [if_pos (by omega), if_pos (by omega), rd_get l i h1, ref_ValidValue_is, List.drop_eq_getElem_cons h1, List.all_cons, w64 (by omega) (by omega)]
      simp only [Option.bind_some]
      cases okV l[i] with
      | true =>
        rw [if_pos rfl]
        have := IH (i + 1) k' (by omega) (by omega) (by omega)
        simpa using this
      | false => rw [if_neg (by simp)]; rfl
    · rw [if_neg (by omega), List.drop_eq_nil_of_le (by omega)]
      rfl
theorem ref_ValidRow_is (l : List S29) (hl : l.length ≤ 20) : ringworkref01_ValidRow.f 30 l = some (okRow l) := by
  unfold ringworkref01_ValidRow.f
  have := ref_row l hl 20 0 30 (by omega) (by omega) (by omega)
  unfold okRow
  rw [Bool.and_comm]
  simpa using this
theorem rd32_get (l : List S32) (i : Nat) (h : i < l.length) : rd_T32 l (i : Int) = l[i] := by
  simp [rd_T32, List.getD_eq_getElem?_getD, List.getElem?_eq_getElem h]
def idxN (nm : List UInt8) : Nat → List S32 → Int
  | _, [] => -1
  | i, x :: r => if nmI x = nm then i else idxN nm (i + 1) r
theorem ref_index_loop (l : List S32) (hl : l.length ≤ 20) (a : ByteArray) (n : Nat) : ∀ (i k : Nat), l.length - i ≤ n → i ≤ l.length → n + 1 ≤ k → ringworkref01_index.l0 k l a (i : Int) = some (idxN a.data.toList i (l.drop i)) := by
  induction n with
  | zero =>
    intro i k hn hi hk
    obtain ⟨k', rfl⟩ : ∃ k', k = k' + 1 := ⟨k - 1, by omega⟩
    unfold ringworkref01_index.l0
    rw [if_neg (by omega), List.drop_eq_nil_of_le (by omega)]
    rfl
  | succ n IH =>
    intro i k hn hi hk
    obtain ⟨k', rfl⟩ : ∃ k', k = k' + 1 := ⟨k - 1, by omega⟩
    unfold ringworkref01_index.l0
    by_cases h1 : i < l.length
    · rw [if_pos (by omega), if_pos (by omega), rd32_get l i h1, List.drop_eq_getElem_cons h1, idxN, ByteArray.toList_eq, ByteArray.toList_eq, w64 (by omega) (by omega)]
      rw [show l[i].f0.data.toList = nmI l[i] from rfl]
      by_cases e : nmI l[i] = a.data.toList
      · rw [if_pos e, if_pos e]
      · rw [if_neg e, if_neg e]
        have := IH (i + 1) k' (by omega) (by omega) (by omega)
        simpa using this
    · rw [if_neg (by omega), List.drop_eq_nil_of_le (by omega)]
      rfl
theorem ref_index_is (l : List S32) (hl : l.length ≤ 20) (a : ByteArray) (k : Nat) (hk : 21 ≤ k) : ringworkref01_index.f k l a = some (idxN a.data.toList 0 l) := by
  unfold ringworkref01_index.f
  have := ref_index_loop l hl a 20 0 k (by omega) (by omega) (by omega)
  simpa using this
/-- All are valid and none has the name of one before it. -/
def seenL : List (List UInt8) → List S32 → Bool
  | _, [] => true
  | S, x :: r => okI x && !decide (nmI x ∈ S) && seenL (S ++ [nmI x]) r
def validF (l : List S32) : Bool := decide (1 ≤ (l.length : Int)) && decide ((l.length : Int) ≤ 8) && seenL [] l
theorem idxN_here (x : S32) (r : List S32) : ∀ (pre : List S32) (i : Nat), (idxN (nmI x) i (pre ++ x :: r) = ((i + pre.length : Nat) : Int)) ↔ nmI x ∉ pre.map nmI
  | [], i => by simp [idxN]
  | y :: pre, i => by
    rw [List.cons_append, idxN]
    by_cases e : nmI y = nmI x
    · rw [if_pos e]
      simp [e]
      omega
    · rw [if_neg e]
      have := idxN_here x r pre (i + 1)
      rw [show (i + (y :: pre).length : Nat) = i + 1 + pre.length by simp; omega, this]
      simp [Ne.symm e]
theorem known_loop (l : List S32) (hl : l.length ≤ 20) (z : Nat) (hz : 40 ≤ z) (n : Nat) : ∀ (i k : Nat), l.length - i ≤ n → i ≤ l.length → n + 1 + z ≤ k → ringworkref01_Known.l0 k l (i : Int) = some (seenL ((l.take i).map nmI) (l.drop i) && decide ((l.length : Int) ≤ 8)) := by
  induction n with
  | zero =>
    intro i k hn hi hk
    obtain ⟨k', rfl⟩ : ∃ k', k = k' + 1 := ⟨k - 1, by omega⟩
    unfold ringworkref01_Known.l0
    rw [if_neg (by omega), List.drop_eq_nil_of_le (by omega)]
    rfl
  | succ n IH =>
    intro i k hn hi hk
    obtain ⟨k', rfl⟩ : ∃ k', k = k' + 1 := ⟨k - 1, by omega⟩
    unfold ringworkref01_Known.l0
    by_cases h1 : i < l.length
    · obtain ⟨j, rfl⟩ : ∃ j, k' = 40 + j := ⟨k' - 40, by omega⟩
      rw [if_pos (by omega), if_pos (by omega), rd32_get l i h1, ref_ValidItem_is, List.drop_eq_getElem_cons h1, seenL]
      simp only [Option.bind_some]
      cases okI l[i] with
      | false => rw [if_neg (by simp)]; rfl
      | true =>
        rw [if_pos rfl, ref_index_is l hl _ _ (by omega), w64 (by omega) (by omega), show l[i].f0.data.toList = nmI l[i] from rfl]
        simp only [Option.bind_some]
        have hh := idxN_here l[i] (l.drop (i + 1)) (l.take i) 0
        rw [← List.drop_eq_getElem_cons h1, List.take_append_drop, List.length_take, Nat.min_eq_left (by omega), Nat.zero_add] at hh
        have hT : (l.take (i + 1)).map nmI = (l.take i).map nmI ++ [nmI l[i]] := by rw [List.take_succ_eq_append_getElem h1, List.map_append]; rfl
        by_cases e : nmI l[i] ∈ (l.take i).map nmI
        · rw [if_neg (fun h => (hh.1 h) e), decide_eq_true e]
          rfl
        · rw [if_pos (hh.2 e), decide_eq_false e, ← hT]
          have := IH (i + 1) (40 + j) (by omega) (by omega) (by omega)
          simpa using this
    · rw [if_neg (by omega), List.drop_eq_nil_of_le (by omega)]
      rfl
theorem ref_ValidItems_is (l : List S32) (hl : l.length ≤ 20) (k : Nat) (hk : 61 ≤ k) : ringworkref01_ValidItems.f k l = some (validF l) := by
  unfold ringworkref01_ValidItems.f ringworkref01_Known.f validF
  have := known_loop l hl 40 (by omega) 20 0 k (by omega) (by omega) (by omega)
  have h2 : ringworkref01_Known.l0 k l 0 = some (seenL [] l && decide ((l.length : Int) ≤ 8)) := by simpa using this
  by_cases h : (l.length : Int) > 0
  · rw [if_pos h, h2, show decide (1 ≤ (l.length : Int)) = true from decide_eq_true (by omega)]
    simp only [Option.bind_some, Bool.true_and, Bool.and_comm]
  · rw [if_neg h, show decide (1 ≤ (l.length : Int)) = false from decide_eq_false (by omega)]
    rfl
end Go.Proofs.YtibgjfeifpanhaaDoor.B
