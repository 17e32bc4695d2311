/- What the compared functions compute is the plain order. -/
import Derived.Test.YtibgjfeifpanhaaDoorB2
import Derived.Test.YtibgjfeifpanhaaDoorO4
import Derived.Test.YtibgjfeifpanhaaDoorP1
set_option linter.unusedVariables false
set_option linter.unusedSimpArgs false
namespace Go.Proofs.YtibgjfeifpanhaaDoor.B
open Go.RowKit Go.Proofs.YtibgjfeifpanhaaDoorW.PrintWords PItemValid

def kV (x : S29) : Int × (Int × List UInt8) := (x.f0, x.f1, x.f2.data.toList)
theorem kV_inj {x y : S29} (h : kV x = kV y) : x = y := by
  cases x; cases y
  simp only [kV, Prod.mk.injEq] at h
  obtain ⟨rfl, rfl, h⟩ := h
  congr
  exact ByteArray.ext (Array.toList_inj.1 h)
def cmpV (x y : S29) : Int := pairC cmpI (pairC cmpI cmpS) (kV x) (kV y)
theorem cmpV0_is : IsCmp (pairC cmpI (pairC cmpI cmpS)) := pairC_is cmpI_is (pairC_is cmpI_is cmpS_is)
theorem cmpV_is : IsCmp cmpV where
  lo x y := cmpV0_is.lo _ _
  hi x y := cmpV0_is.hi _ _
  refl x := cmpV0_is.refl _
  eq x y h := kV_inj (cmpV0_is.eq _ _ h)
  anti x y := cmpV0_is.anti _ _
  trans x y z := cmpV0_is.trans _ _ _
def cmpR : List S29 → List S29 → Int := lexC cmpV
theorem cmpR_is : IsCmp cmpR := lexC_is cmpV_is
theorem w64 {x : Int} (h0 : -9223372036854775808 ≤ x) (h1 : x ≤ 9223372036854775807) : wrap64 x = x := by unfold wrap64; omega
theorem less_int (a b : Int) : cmp_Compare_int.f a b = some (cmpI a b) := by
  unfold cmp_Compare_int.f cmp_isNaN_int.f cmpI
  simp
  split <;> (try split) <;> rfl
theorem bytesLess_cmp : ∀ x y : List UInt8, Op.bytesLess x y = decide (cmpS x y < 0)
  | [], [] => by simp [Op.bytesLess, cmpS, lexC]
  | [], _ :: _ => by simp [Op.bytesLess, cmpS, lexC]
  | _ :: _, [] => by simp [Op.bytesLess, cmpS, lexC]
  | a :: x, b :: y => by
    unfold Op.bytesLess
    rw [bytesLess_cmp x y, show cmpS (a :: x) (b :: y) = if cmpB a b = 0 then cmpS x y else cmpB a b from rfl]
    by_cases e : a = b
    · subst e
      rw [if_pos (cmpB_is.refl a)]
      simp
    · have h0 : ¬ cmpB a b = 0 := fun h => e (cmpB_is.eq _ _ h)
      rw [if_neg h0]
      have h1 : (a == b) = false := by simpa using e
      have h2 : a < b ↔ cmpB a b < 0 := by
        unfold cmpB cmpI
        rw [UInt8.lt_iff_toNat_lt]
        have : a.toNat ≠ b.toNat := fun h => e (UInt8.toNat_inj.1 h)
        constructor
        · intro h; rw [if_pos (by omega)]; omega
        · intro h
          split at h
          · omega
          · split at h <;> omega
      rw [h1]
      simp [h2]
theorem less_string (a b : ByteArray) : cmp_Compare_string.f a b = some (cmpS a.data.toList b.data.toList) := by
  unfold cmp_Compare_string.f cmp_isNaN_string.f
  rw [ByteArray.toList_eq, ByteArray.toList_eq, bytesLess_cmp]
  have h1 := cmpS_is.lo a.data.toList b.data.toList
  have h2 := cmpS_is.hi a.data.toList b.data.toList
  have h3 := cmpS_is.eq a.data.toList b.data.toList
  have h4 := cmpS_is.refl a.data.toList
  by_cases h : cmpS a.data.toList b.data.toList < 0
  · simp [h]; omega
  · by_cases e : a.data.toList = b.data.toList
    · rw [← e]
      simp [h4]
    · have : cmpS a.data.toList b.data.toList ≠ 0 := fun h => e (h3 h)
      have e2 : (a.data.toList == b.data.toList) = false := by simpa using e
      rw [e2]
      simp [h]; omega
theorem or_step (k : Nat) (xs : List Int) (hx : xs.length = 3) (i : Int) (h0 : 0 ≤ i) (h1 : i < 3) : cmp_Or_int.l0 (k + 1) 0 xs 3 i = if rd xs i = 0 then cmp_Or_int.l0 k 0 xs 3 (i + 1) else some (rd xs i) := by
  conv => lhs; unfold cmp_Or_int.l0
  rw [if_pos h1, if_pos h0, if_pos (by omega), w64 (by omega) (by omega)]
theorem or_three (k : Nat) (a b c : Int) : cmp_Or_int.f (k + 4) [a, b, c] = some (if a = 0 then (if b = 0 then c else b) else a) := by
  show cmp_Or_int.l0 (k + 3 + 1) 0 [a, b, c] 3 0 = _
  rw [or_step (k + 3) _ rfl 0 (by omega) (by omega), show rd [a, b, c] 0 = a from rfl]
  by_cases ha : a = 0
  · rw [if_pos ha, if_pos ha]
    show cmp_Or_int.l0 (k + 2 + 1) 0 [a, b, c] 3 1 = _
    rw [or_step (k + 2) _ rfl 1 (by omega) (by omega), show rd [a, b, c] 1 = b from rfl]
    by_cases hb : b = 0
    · rw [if_pos hb, if_pos hb]
      show cmp_Or_int.l0 (k + 1 + 1) 0 [a, b, c] 3 2 = _
      rw [or_step (k + 1) _ rfl 2 (by omega) (by omega), show rd [a, b, c] 2 = c from rfl]
      by_cases hc : c = 0
      · rw [if_pos hc]
        show cmp_Or_int.l0 (k + 1) 0 [a, b, c] 3 3 = _
        unfold cmp_Or_int.l0
        rw [if_neg (by omega), hc]
      · rw [if_neg hc]
    · rw [if_neg hb, if_neg hb]
  · rw [if_neg ha, if_neg ha]
theorem item_Compare_is (k : Nat) (x y : S29) : item_Compare.f (k + 4) x.f0 x.f1 x.f2 y.f0 y.f1 y.f2 = some (cmpV x y) := by
  unfold item_Compare.f
  rw [less_int, less_int, less_string]
  simp only [Option.bind_some]
  rw [or_three]
  unfold cmpV pairC kV
  simp only [Option.bind_some]
theorem ref_less (a b : Int) : ringworkref01_less.f a b = some (cmpI a b) := by
  unfold ringworkref01_less.f cmpI
  split <;> (try split) <;> rfl
theorem ref_sign (a b : Int) : ringworkref01_Sign.f (a - b) = some (cmpI a b) := by
  unfold ringworkref01_Sign.f cmpI
  by_cases h1 : a < b
  · rw [if_pos h1, if_pos (by omega)]
  · by_cases h2 : a > b
    · rw [if_neg h1, if_neg (by omega), if_pos h2, if_pos (by omega)]
    · rw [if_neg h1, if_neg (by omega), if_neg h2, if_neg (by omega)]
theorem bt_get (s : ByteArray) (i : Nat) (h : i < s.data.toList.length) : bt s (i : Int) = (s.data.toList[i].toNat : Int) := by
  have h2 : i < s.size := h
  unfold bt
  rw [dif_pos (by simpa using h2)]
  rfl
theorem ref_texts (a b : ByteArray) (ha : a.size ≤ 1000000) (hb : b.size ≤ 1000000) : ∀ (n i k : Nat), a.size - i ≤ n → i ≤ a.size → i ≤ b.size → 2 * n + 2 ≤ k →
    ringworkref01_texts.l0 k a b (i : Int) = some (cmpS (a.data.toList.drop i) (b.data.toList.drop i))
  | n, i, k, hn, hi, hib, hk => by
    obtain ⟨k', rfl⟩ : ∃ k', k = k' + 2 := ⟨k - 2, by omega⟩
    have la : a.data.toList.length = a.size := rfl
    have lb : b.data.toList.length = b.size := rfl
    have hend : (¬ i < a.size ∨ ¬ i < b.size) → ringworkref01_texts.j1 (k' + 1) a b (i : Int) false = some (cmpS (a.data.toList.drop i) (b.data.toList.drop i)) := fun h => by
      unfold ringworkref01_texts.j1
      rw [if_neg (by simp), w64 (by omega) (by omega), ref_sign]
      simp only [Option.bind_some]
      unfold cmpS
      rw [lexC_len]
      · simp only [List.length_drop, la, lb]
        unfold cmpI
        split <;> split <;> (try split) <;> (try split) <;> first | rfl | omega
      · intro j x y hx hy
        have h1 := (List.getElem?_eq_some_iff.1 hx).1
        have h2 := (List.getElem?_eq_some_iff.1 hy).1
        simp only [List.length_drop] at h1 h2
        omega
    unfold ringworkref01_texts.l0
    by_cases h1 : i < a.size
    · rw [if_pos (by omega)]
      by_cases h2 : i < b.size
      · rw [show decide ((i : Int) < (b.size : Int)) = true from decide_eq_true (by omega)]
        unfold ringworkref01_texts.j1
        rw [if_pos rfl, if_pos (by omega), if_pos (by omega), if_pos (by omega), bt_get a i (by omega), bt_get b i (by omega)]
        rw [List.drop_eq_getElem_cons (show i < a.data.toList.length by omega), List.drop_eq_getElem_cons (show i < b.data.toList.length by omega)]
        unfold cmpS lexC
        by_cases e : (a.data.toList[i].toNat : Int) = (b.data.toList[i].toNat : Int)
        · have e2 : a.data.toList[i] = b.data.toList[i] := UInt8.toNat_inj.1 (by omega)
          rw [if_pos e, e2, if_pos (cmpB_is.refl _), w64 (by omega) (by omega)]
          cases n with
          | zero => omega
          | succ n => exact ref_texts a b ha hb n (i + 1) k' (by omega) (by omega) (by omega) (by omega)
        · have h3 := (a.data.toList[i]).toNat_lt
          have h4 := (b.data.toList[i]).toNat_lt
          rw [if_neg e, if_neg (fun h => e (by have := cmpB_is.eq _ _ h; rw [this])), w64 (x := ((a.data.toList[i]).toNat : Int)) (by omega) (by omega), w64 (x := ((b.data.toList[i]).toNat : Int)) (by omega) (by omega), w64 (by omega) (by omega), ref_sign]
          rfl
      · rw [show decide ((i : Int) < (b.size : Int)) = false from decide_eq_false (by omega)]
        exact hend (.inr h2)
    · rw [if_neg (by omega)]
      exact hend (.inl h1)
end Go.Proofs.YtibgjfeifpanhaaDoor.B
