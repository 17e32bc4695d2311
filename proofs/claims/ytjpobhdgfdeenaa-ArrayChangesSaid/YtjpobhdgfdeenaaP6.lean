/- What becomes of rows when one of them has lost a key, told by what stands before and behind it. -/
import Derived.Test.YtjpobhdgfdeenaaM11
set_option linter.unusedVariables false
namespace Go.Proofs.Ytjpobhdgfdeenaa.A
open Go.RowKit Go.Proofs.YtjpobhdgfdeenaaW.PrintWords Go.Maps

def remQ (b : Int) (pre : List (List Int)) (r : List Int) (post : List (List Int)) : List (List Int) :=
  match pre.getLast? with
  | some s => if ((s.length + r.length : Nat) : Int) ≤ b then pre.dropLast ++ (s ++ r) :: post else pre ++ r :: post
  | none => pre ++ r :: post
def remP (b : Int) (pre : List (List Int)) (r : List Int) (post : List (List Int)) : List (List Int) :=
  if r = [] then pre ++ post else if (b + 1) / 2 ≤ (r.length : Int) then pre ++ r :: post else
    match post with
    | s :: t => if ((r.length + s.length : Nat) : Int) ≤ b then pre ++ (r ++ s) :: t else remQ b pre r post
    | [] => remQ b pre r post
theorem remQ_none (b : Int) (r : List Int) (post : List (List Int)) : remQ b [] r post = r :: post := rfl
theorem remQ_snoc (b : Int) (t : List (List Int)) (s r : List Int) (post : List (List Int)) : remQ b (t ++ [s]) r post = if ((s.length + r.length : Nat) : Int) ≤ b then t ++ (s ++ r) :: post else t ++ [s] ++ r :: post := by
  unfold remQ
  simp
theorem remL_remP (b : Int) (pre post : List (List Int)) (rj r : List Int) : remL b (pre ++ rj :: post) pre.length r = remP b pre r post := by
  unfold remL remP
  rw [set_mid, erase_mid]
  split
  · rfl
  · split
    · rfl
    · have hprev : (if pre.length = 0 then pre ++ r :: post else match mergeL b (pre ++ r :: post) (pre.length - 1) with
          | some x => x
          | none => pre ++ r :: post) = remQ b pre r post := by
        by_cases hp : pre = []
        · subst hp
          rfl
        · obtain ⟨t, s, rfl⟩ : ∃ t s, pre = t ++ [s] := ⟨pre.dropLast, pre.getLast hp, (List.dropLast_concat_getLast hp).symm⟩
          rw [if_neg (by simp), remQ_snoc]
          have e1 : (t ++ [s] ++ r :: post) = t ++ s :: r :: post := by simp
          have e2 : (t ++ [s]).length - 1 = t.length := by simp
          rw [e1, e2, merge_mid]
          by_cases hs : ((s.length + r.length : Nat) : Int) ≤ b
          · rw [if_pos hs, if_pos hs]
          · rw [if_neg hs, if_neg hs]
      match post with
      | [] =>
        rw [merge_end]
        exact hprev
      | s :: t =>
        rw [merge_mid]
        by_cases hs : ((r.length + s.length : Nat) : Int) ≤ b
        · rw [if_pos hs]
          simp only [if_pos hs]
        · rw [if_neg hs]
          simp only [if_neg hs]
          exact hprev
theorem remP_gone {b : Int} {pre post : List (List Int)} : remP b pre [] post = pre ++ post := by unfold remP; rw [if_pos rfl]
theorem remP_large {b : Int} {pre post : List (List Int)} {r : List Int} (h0 : r ≠ []) (h1 : (b + 1) / 2 ≤ (r.length : Int)) : remP b pre r post = pre ++ r :: post := by unfold remP; rw [if_neg h0, if_pos h1]
theorem remP_next {b : Int} {pre t : List (List Int)} {r s : List Int} (h0 : r ≠ []) (h1 : ¬ (b + 1) / 2 ≤ (r.length : Int)) (h2 : ((r.length + s.length : Nat) : Int) ≤ b) : remP b pre r (s :: t) = pre ++ (r ++ s) :: t := by unfold remP; rw [if_neg h0, if_neg h1]; simp only [if_pos h2]
theorem remP_last {b : Int} {pre post : List (List Int)} {r : List Int} (h0 : r ≠ []) (h1 : ¬ (b + 1) / 2 ≤ (r.length : Int)) (h2 : ∀ s t, post = s :: t → ¬ ((r.length + s.length : Nat) : Int) ≤ b) : remP b pre r post = remQ b pre r post := by
  unfold remP
  rw [if_neg h0, if_neg h1]
  match post, h2 with
  | [], _ => rfl
  | s :: t, h2 => simp only [if_neg (h2 s t rfl)]
theorem remP_prev {b : Int} {t post : List (List Int)} {s r : List Int} (h0 : r ≠ []) (h1 : ¬ (b + 1) / 2 ≤ (r.length : Int)) (h2 : ∀ s t, post = s :: t → ¬ ((r.length + s.length : Nat) : Int) ≤ b) (h3 : ((s.length + r.length : Nat) : Int) ≤ b) : remP b (t ++ [s]) r post = t ++ (s ++ r) :: post := by
  rw [remP_last h0 h1 h2, remQ_snoc, if_pos h3]
theorem remP_alone {b : Int} {pre post : List (List Int)} {r : List Int} (h0 : r ≠ []) (h1 : ¬ (b + 1) / 2 ≤ (r.length : Int)) (h2 : ∀ s t, post = s :: t → ¬ ((r.length + s.length : Nat) : Int) ≤ b) (h3 : ∀ t s, pre = t ++ [s] → ¬ ((s.length + r.length : Nat) : Int) ≤ b) : remP b pre r post = pre ++ r :: post := by
  rw [remP_last h0 h1 h2]
  by_cases hp : pre = []
  · subst hp; rfl
  · obtain ⟨t, s, rfl⟩ : ∃ t s, pre = t ++ [s] := ⟨pre.dropLast, pre.getLast hp, (List.dropLast_concat_getLast hp).symm⟩
    rw [remQ_snoc, if_neg (h3 t s rfl)]
end Go.Proofs.Ytjpobhdgfdeenaa.A
