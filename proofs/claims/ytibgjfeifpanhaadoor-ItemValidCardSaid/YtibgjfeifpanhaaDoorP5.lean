/- Names and items: what the printed functions compute. -/
import Derived.Test.YtibgjfeifpanhaaDoorI5
import Derived.Test.YtibgjfeifpanhaaDoorP4
set_option linter.unusedVariables false
set_option linter.unusedSimpArgs false
namespace Go.Proofs.YtibgjfeifpanhaaDoor.B
open Go.RowKit Go.Proofs.YtibgjfeifpanhaaDoorW.PrintWords PItemValid

def smI (c : Int) : Bool := decide (97 ≤ c) && decide (c ≤ 122)
def inI (c : Int) : Bool := smI c || (decide (48 ≤ c) && decide (c ≤ 57)) || (c == 95)
def inB (c : UInt8) : Bool := inI (c.toNat : Int)
def smB (c : UInt8) : Bool := smI (c.toNat : Int)
def nameF : List UInt8 → Bool
  | [] => false
  | c :: r => decide ((c :: r).length ≤ 16) && smB c && (c :: r).all inB
theorem small_is (c : Int) : item_small.f c = some (smI c) := by
  unfold item_small.f smI
  by_cases h : c ≥ 97
  · rw [if_pos h, show decide (97 ≤ c) = true from decide_eq_true h]; simp
  · rw [if_neg h, show decide (97 ≤ c) = false from decide_eq_false h]; simp
theorem inner_is (c : Int) : item_inner.f c = some (inI c) := by
  unfold item_inner.f inI
  rw [small_is]
  simp only [Option.bind_some]
  cases smI c with
  | true => simp
  | false =>
    by_cases h : c ≥ 48
    · by_cases h2 : c ≤ 57
      · simp [h, h2]
      · simp [h, h2]
    · have : ¬ 48 ≤ c := h
      simp [h]
theorem sm_in (c : UInt8) (h : smB c = true) : inB c = true := by
  unfold inB inI
  unfold smB at h
  rw [h]; rfl
theorem name_loop (s : ByteArray) (hs : s.size ≤ 1000000) (n : Nat) : ∀ (i k : Nat), s.size - i ≤ n → i ≤ s.size → n + 1 ≤ k → item_Name.l0 k s (s.size : Int) (i : Int) = some ((s.data.toList.drop i).all inB) := by
  have ls : s.data.toList.length = s.size := rfl
  induction n with
  | zero =>
    intro i k hn hi hk
    obtain ⟨k', rfl⟩ : ∃ k', k = k' + 1 := ⟨k - 1, by omega⟩
    unfold item_Name.l0
    rw [if_neg (by omega), List.drop_eq_nil_of_le (by omega)]
    rfl
  | succ n IH =>
    intro i k hn hi hk
    obtain ⟨k', rfl⟩ : ∃ k', k = k' + 1 := ⟨k - 1, by omega⟩
    unfold item_Name.l0
    by_cases h1 : i < s.size
    · rw [if_pos (by omega), if_pos (by omega), if_pos (by omega), bt_get s i (by omega), inner_is, List.drop_eq_getElem_cons (show i < s.data.toList.length by omega), List.all_cons, w64 (by omega) (by omega)]
      simp only [Option.bind_some]
      have e : inI ((s.data.toList[i]).toNat : Int) = inB s.data.toList[i] := rfl
      rw [e]
      cases inB s.data.toList[i] with
      | true =>
        rw [if_pos rfl]
        have := IH (i + 1) k' (by omega) (by omega) (by omega)
        simpa using this
      | false => rw [if_neg (by simp)]; rfl
    · rw [if_neg (by omega), List.drop_eq_nil_of_le (by omega)]
      rfl
theorem nameF_list : ∀ (l : List UInt8) (h : 0 < l.length), nameF l = (decide (l.length ≤ 16) && smB (l[0]'h) && l.all inB)
  | [], h => absurd h (by simp)
  | _ :: _, _ => rfl
theorem nameF_of (s : ByteArray) (h : 0 < s.size) : nameF s.data.toList = (decide (s.size ≤ 16) && smB (s.data.toList[0]'h) && s.data.toList.all inB) := nameF_list s.data.toList h
theorem item_Name_is (s : ByteArray) : item_Name.f 40 s = some (nameF s.data.toList) := by
  have ls : s.data.toList.length = s.size := rfl
  unfold item_Name.f
  rw [ByteArray.toList_eq]
  by_cases h0 : s.data.toList = []
  · rw [if_pos h0, h0]
    rfl
  · have hp : 0 < s.size := by
      have := List.length_pos_iff.2 h0
      omega
    rw [if_neg h0, nameF_of s hp]
    by_cases h1 : (s.size : Int) > 16
    · rw [if_pos h1, show decide (s.size ≤ 16) = false from decide_eq_false (by omega)]
      rfl
    · have hb := bt_get s 0 (by omega)
      rw [if_neg h1, if_pos (by omega), small_is]
      simp only [Option.bind_some]
      rw [show bt s 0 = ((s.data.toList[0]'(by omega)).toNat : Int) from hb]
      rw [show decide (s.size ≤ 16) = true from decide_eq_true (by omega)]
      have e : smI ((s.data.toList[0]'(by omega)).toNat : Int) = smB (s.data.toList[0]'(by omega)) := rfl
      rw [e]
      cases smB (s.data.toList[0]'(by omega)) with
      | false => rfl
      | true =>
        have := name_loop s (by omega) 20 0 39 (by omega) (by omega) (by omega)
        simpa [item_Name.j0] using this
theorem refname_step (s : ByteArray) (hs : s.size ≤ 16) (k i : Nat) (h1 : i < s.size) : ringworkref01_Name.l0 (k + 1) s (i : Int) = if (smB (s.data.toList[i]'h1) = true ∨ (i ≠ 0 ∧ inB (s.data.toList[i]'h1) = true)) then ringworkref01_Name.l0 k s ((i + 1 : Nat) : Int) else some false := by
  conv => lhs; unfold ringworkref01_Name.l0
  rw [if_pos (by omega), if_pos (by omega), bt_get s i h1, w64 (by omega) (by omega)]
  unfold smB inB inI smI
  generalize ((s.data.toList[i]'h1).toNat : Int) = c
  rw [show ((i + 1 : Nat) : Int) = (i : Int) + 1 by omega]
  by_cases a1 : c ≥ 97
  · by_cases a2 : c ≤ 122
    · rw [if_pos a1, if_pos a2, if_pos (.inl (by simp; omega))]
    · rw [if_pos a1, if_neg a2]
      by_cases a3 : i = 0
      · rw [if_pos (by omega), if_neg (by simp; omega)]
      · rw [if_neg (by omega)]
        have hc : ¬ c = 95 := by omega
        rw [if_neg hc, if_neg (by omega), if_pos (by omega), if_neg (by simp; omega)]
  · rw [if_neg a1]
    by_cases a3 : i = 0
    · rw [if_pos (by omega), if_neg (by simp; omega)]
    · rw [if_neg (by omega)]
      by_cases hc : c = 95
      · rw [if_pos hc, if_pos (.inr ⟨a3, by simp [hc]⟩)]
      · rw [if_neg hc]
        by_cases a4 : c < 48
        · rw [if_pos a4, if_neg (by simp; omega)]
        · rw [if_neg a4]
          by_cases a5 : c > 57
          · rw [if_pos a5, if_neg (by simp; omega)]
          · rw [if_neg a5, if_pos (.inr ⟨a3, by simp; omega⟩)]
theorem refname_loop (s : ByteArray) (hs : s.size ≤ 16) (n : Nat) : ∀ (i k : Nat), s.size - i ≤ n → 1 ≤ i → i ≤ s.size → n + 1 ≤ k → ringworkref01_Name.l0 k s (i : Int) = some ((s.data.toList.drop i).all inB) := by
  have ls : s.data.toList.length = s.size := rfl
  induction n with
  | zero =>
    intro i k hn h1 hi hk
    obtain ⟨k', rfl⟩ : ∃ k', k = k' + 1 := ⟨k - 1, by omega⟩
    unfold ringworkref01_Name.l0
    rw [if_neg (by omega), List.drop_eq_nil_of_le (by omega)]
    rfl
  | succ n IH =>
    intro i k hn h1 hi hk
    obtain ⟨k', rfl⟩ : ∃ k', k = k' + 1 := ⟨k - 1, by omega⟩
    by_cases h2 : i < s.size
    · rw [refname_step s hs k' i h2, List.drop_eq_getElem_cons (show i < s.data.toList.length by omega), List.all_cons]
      cases hb : inB (s.data.toList[i]'h2) with
      | true => rw [if_pos (.inr ⟨by omega, rfl⟩), IH (i + 1) k' (by omega) (by omega) (by omega) (by omega)]; rfl
      | false =>
        rw [if_neg (by
          rintro (h | h)
          · rw [sm_in _ h] at hb; cases hb
          · exact absurd h.2 (by simp))]
        rfl
    · unfold ringworkref01_Name.l0
      rw [if_neg (by omega), List.drop_eq_nil_of_le (by omega)]
      rfl
theorem ref_Name_is (s : ByteArray) : ringworkref01_Name.f 40 s = some (nameF s.data.toList) := by
  have ls : s.data.toList.length = s.size := rfl
  unfold ringworkref01_Name.f
  by_cases h0 : s.size = 0
  · have e : s.data.toList = [] := List.eq_nil_of_length_eq_zero (by omega)
    rw [if_pos (by omega), e]
    rfl
  · have hp : 0 < s.size := by omega
    rw [if_neg (by omega), nameF_of s hp]
    by_cases h1 : (s.size : Int) > 16
    · rw [show decide ((s.size : Int) > 16) = true from decide_eq_true h1, show decide (s.size ≤ 16) = false from decide_eq_false (by omega)]
      rfl
    · rw [show decide ((s.size : Int) > 16) = false from decide_eq_false h1, show decide (s.size ≤ 16) = true from decide_eq_true (by omega)]
      show ringworkref01_Name.l0 (38 + 1) s ((0 : Nat) : Int) = _
      rw [refname_step s (by omega) 38 0 hp]
      cases hb : smB (s.data.toList[0]'hp) with
      | false => rw [if_neg (by simp)]; rfl
      | true =>
        rw [if_pos (.inl rfl), refname_loop s (by omega) 20 1 38 (by omega) (by omega) (by omega) (by omega)]
        have e := List.drop_eq_getElem_cons (show 0 < s.data.toList.length from hp)
        rw [List.drop_zero] at e
        have e2 : s.data.toList.all inB = (inB (s.data.toList[0]'hp) && (s.data.toList.drop 1).all inB) := by conv => lhs; rw [e]; rw [List.all_cons]
        rw [e2, sm_in _ hb]
        simp
end Go.Proofs.YtibgjfeifpanhaaDoor.B
