/- Rows' order: what the functions over rows compute; their contracts. -/
import Derived.Test.YtibgjfeifpanhaaDoorP2
set_option linter.unusedVariables false
set_option linter.unusedSimpArgs false
namespace Go.Proofs.YtibgjfeifpanhaaDoor.B
open Go.RowKit Go.Proofs.YtibgjfeifpanhaaDoorW.PrintWords PItemValid

theorem rd_get (l : List S29) (i : Nat) (h : i < l.length) : rd_T29 l (i : Int) = l[i] := by
  simp [rd_T29, List.getD_eq_getElem?_getD, List.getElem?_eq_getElem h]
theorem ref_Compare_is (k : Nat) (x y : S29) (hx : x.f2.size ≤ 200) (hy : y.f2.size ≤ 200) (hk : 402 ≤ k) : ringworkref01_Compare.f k x.f0 x.f1 x.f2 y.f0 y.f1 y.f2 = some (cmpV x y) := by
  unfold ringworkref01_Compare.f ringworkref01_texts.f
  rw [ref_less, ref_less]
  have h := ref_texts x.f2 y.f2 (by omega) (by omega) 200 0 k (by omega) (by omega) (by omega) (by omega)
  simp only [Int.ofNat_zero, List.drop_zero] at h
  have h' : ringworkref01_texts.l0 k x.f2 y.f2 0 = some (cmpS x.f2.data.toList y.f2.data.toList) := h
  rw [h']
  simp only [Option.bind_some]
  unfold cmpV pairC kV
  dsimp only
  split <;> (try split) <;> rfl
def okLen (l : List S29) : Prop := l.length ≤ 20 ∧ ∀ x ∈ l, x.f2.size ≤ 200
theorem ref_rows (a b : List S29) (ha : okLen a) (hb : okLen b) (z : Nat) (hz : 402 ≤ z) (n : Nat) : ∀ (i k : Nat), a.length - i ≤ n → i ≤ a.length → i ≤ b.length → 2 * n + 2 + z ≤ k →
    ringworkref01_CompareRows.l0 k a b (i : Int) = some (cmpR (a.drop i) (b.drop i)) := by
  induction n with
  | zero =>
    intro i k hn hi hib hk
    obtain ⟨k', rfl⟩ : ∃ k', k = k' + 2 := ⟨k - 2, by omega⟩
    have la := ha.1
    have lb := hb.1
    have hend : (¬ i < a.length ∨ ¬ i < b.length) → ringworkref01_CompareRows.j1 (k' + 1) a b (i : Int) false = some (cmpR (a.drop i) (b.drop i)) := fun h => by
      unfold ringworkref01_CompareRows.j1
      rw [if_neg (by simp), ref_less]
      simp only [Option.bind_some]
      unfold cmpR
      rw [lexC_len]
      · simp only [List.length_drop]
        unfold cmpI
        split <;> split <;> (try split) <;> (try split) <;> first | rfl | omega
      · intro j x y hx hy
        have h1 := (List.getElem?_eq_some_iff.1 hx).1
        have h2 := (List.getElem?_eq_some_iff.1 hy).1
        simp only [List.length_drop] at h1 h2
        omega
    unfold ringworkref01_CompareRows.l0
    by_cases h1 : i < a.length
    · rw [if_pos (by omega)]
      by_cases h2 : i < b.length
      · rw [show decide ((i : Int) < (b.length : Int)) = true from decide_eq_true (by omega)]
        unfold ringworkref01_CompareRows.j1
        rw [if_pos rfl, if_pos (by omega), if_pos (by omega), if_pos (by omega), rd_get a i h1, rd_get b i h2, ref_Compare_is k' _ _ (ha.2 _ (List.getElem_mem h1)) (hb.2 _ (List.getElem_mem h2)) (by omega)]
        rw [List.drop_eq_getElem_cons h1, List.drop_eq_getElem_cons h2]
        simp only [Option.bind_some]
        unfold cmpR lexC
        by_cases e : cmpV a[i] b[i] = 0
        · rw [if_pos e, if_pos e, w64 (by omega) (by omega)]
          omega
        · rw [if_neg e, if_neg e]
      · rw [show decide ((i : Int) < (b.length : Int)) = false from decide_eq_false (by omega)]
        exact hend (.inr h2)
    · rw [if_neg (by omega)]
      exact hend (.inl h1)
  | succ n IH =>
    intro i k hn hi hib hk
    obtain ⟨k', rfl⟩ : ∃ k', k = k' + 2 := ⟨k - 2, by omega⟩
    have la := ha.1
    have lb := hb.1
    have hend : (¬ i < a.length ∨ ¬ i < b.length) → ringworkref01_CompareRows.j1 (k' + 1) a b (i : Int) false = some (cmpR (a.drop i) (b.drop i)) := fun h => by
      unfold ringworkref01_CompareRows.j1
      rw [if_neg (by simp), ref_less]
      simp only [Option.bind_some]
      unfold cmpR
      rw [lexC_len]
      · simp only [List.length_drop]
        unfold cmpI
        split <;> split <;> (try split) <;> (try split) <;> first | rfl | omega
      · intro j x y hx hy
        have h1 := (List.getElem?_eq_some_iff.1 hx).1
        have h2 := (List.getElem?_eq_some_iff.1 hy).1
        simp only [List.length_drop] at h1 h2
        omega
    unfold ringworkref01_CompareRows.l0
    by_cases h1 : i < a.length
    · rw [if_pos (by omega)]
      by_cases h2 : i < b.length
      · rw [show decide ((i : Int) < (b.length : Int)) = true from decide_eq_true (by omega)]
        unfold ringworkref01_CompareRows.j1
        rw [if_pos rfl, if_pos (by omega), if_pos (by omega), if_pos (by omega), rd_get a i h1, rd_get b i h2, ref_Compare_is k' _ _ (ha.2 _ (List.getElem_mem h1)) (hb.2 _ (List.getElem_mem h2)) (by omega)]
        rw [List.drop_eq_getElem_cons h1, List.drop_eq_getElem_cons h2]
        simp only [Option.bind_some]
        unfold cmpR lexC
        by_cases e : cmpV a[i] b[i] = 0
        · rw [if_pos e, if_pos e, w64 (by omega) (by omega)]
          exact IH (i + 1) k' (by omega) (by omega) (by omega) (by omega)
        · rw [if_neg e, if_neg e]
      · rw [show decide ((i : Int) < (b.length : Int)) = false from decide_eq_false (by omega)]
        exact hend (.inr h2)
    · rw [if_neg (by omega)]
      exact hend (.inl h1)
theorem ref_CompareRows_is (a b : List S29) (ha : okLen a) (hb : okLen b) : ringworkref01_CompareRows.f 600 a b = some (cmpR a b) := by
  unfold ringworkref01_CompareRows.f
  have h := ref_rows a b ha hb 402 (by omega) 20 0 600 (by have := ha.1; omega) (by omega) (by omega) (by omega)
  simpa using h
def sameV (x y : S29) : Bool := decide (cmpV x y = 0)
theorem ne_iff (x y : S29) : ((!(x.f0 == y.f0) || (!(x.f1 == y.f1) || (!(x.f2.toList == y.f2.toList)))) = true) ↔ ¬ cmpV x y = 0 := by
  have h : x = y ↔ (x.f0 = y.f0 ∧ x.f1 = y.f1 ∧ x.f2.toList = y.f2.toList) := by
    constructor
    · rintro rfl; exact ⟨rfl, rfl, rfl⟩
    · rintro ⟨h1, h2, h3⟩
      rw [ByteArray.toList_eq, ByteArray.toList_eq] at h3
      exact kV_inj (by unfold kV; rw [h1, h2, h3])
  have h2 : cmpV x y = 0 ↔ x = y := ⟨cmpV_is.eq _ _, fun h => h ▸ cmpV_is.refl _⟩
  rw [h2, h]
  simp only [Bool.or_eq_true, Bool.not_eq_true', beq_eq_false_iff_ne, ne_eq]
  constructor
  · rintro (h | h | h) ⟨a, b, c⟩
    · exact h a
    · exact h b
    · exact h c
  · intro h
    by_cases h1 : x.f0 = y.f0
    · by_cases h2 : x.f1 = y.f1
      · exact .inr (.inr fun h3 => h ⟨h1, h2, h3⟩)
      · exact .inr (.inl h2)
    · exact .inl h1
theorem same_rows (a b : List S29) (ha : a.length ≤ 20) (hl : a.length = b.length) : ∀ (n i k : Nat), a.length - i ≤ n → i ≤ a.length → n + 1 ≤ k →
    api_Value_70.l0 k a b (a.length : Int) (i : Int) = some (decide (cmpR (a.drop i) (b.drop i) = 0))
  | n, i, k, hn, hi, hk => by
    obtain ⟨k', rfl⟩ : ∃ k', k = k' + 1 := ⟨k - 1, by omega⟩
    unfold api_Value_70.l0
    by_cases h1 : i < a.length
    · have h2 : i < b.length := by omega
      rw [if_pos (by omega), if_pos (by omega), if_pos (by omega), if_pos (by omega), rd_get a i h1, rd_get b i h2]
      rw [List.drop_eq_getElem_cons h1, List.drop_eq_getElem_cons h2]
      by_cases e : cmpV a[i] b[i] = 0
      · rw [if_neg (fun h => (ne_iff _ _).1 h e), w64 (by omega) (by omega), show cmpR (a[i] :: a.drop (i + 1)) (b[i] :: b.drop (i + 1)) = if cmpV a[i] b[i] = 0 then cmpR (a.drop (i + 1)) (b.drop (i + 1)) else cmpV a[i] b[i] from rfl, if_pos e]
        cases n with
        | zero => omega
        | succ n => exact same_rows a b ha hl n (i + 1) k' (by omega) (by omega) (by omega)
      · rw [if_pos ((ne_iff _ _).2 e), show cmpR (a[i] :: a.drop (i + 1)) (b[i] :: b.drop (i + 1)) = if cmpV a[i] b[i] = 0 then cmpR (a.drop (i + 1)) (b.drop (i + 1)) else cmpV a[i] b[i] from rfl, if_neg e]
        simp [e]
    · rw [if_neg (by omega), List.drop_eq_nil_of_le (by omega), List.drop_eq_nil_of_le (by omega)]
      rfl
theorem Equal_is (a b : List S29) (ha : a.length ≤ 20) : api_Value_70.f 30 a b = some (decide (cmpR a b = 0)) := by
  unfold api_Value_70.f
  by_cases hl : a.length = b.length
  · rw [if_pos (by omega)]
    have h := same_rows a b ha hl 20 0 30 (by omega) (by omega) (by omega)
    simpa using h
  · rw [if_neg (by omega)]
    have : ¬ cmpR a b = 0 := fun h => hl (by rw [cmpR_is.eq _ _ h])
    simp [this]
theorem Same_is (a b : List S29) (ha : a.length ≤ 20) : item_Same.f 30 a b = some (decide (cmpR a b = 0)) := by
  unfold item_Same.f
  rw [Equal_is a b ha]
  rfl
theorem ref_Same_is (a b : List S29) (ha : okLen a) (hb : okLen b) : ringworkref01_Same.f 600 a b = some (decide (cmpR a b = 0)) := by
  unfold ringworkref01_Same.f
  rw [ref_CompareRows_is a b ha hb]
  simp only [Option.bind_some]
  by_cases h : cmpR a b = 0 <;> simp [h]
end Go.Proofs.YtibgjfeifpanhaaDoor.B
