/- What blocks that Wrong finds right are. -/
import Derived.Test.YtjpobhdgfdeenaaProg
import Derived.Below
import Derived.Deep.Draws
import Derived.Deep.AppendLies
import Derived.Maps.AppendAt
import Derived.Maps.OwnSet
import Derived.OwnWalk
import Derived.Laws.BytesArg
import Derived.Laws.MakeOwn
import Derived.Laws.OwnMore
import Derived.Deep.OwnRows
import Derived.Tactics
import Derived.Laws.Slices
import Derived.WalkKit
import Derived.KernelRfl
import Derived.RowKit3
import Derived.Deep.LoopGhost
import Derived.Deep.QuietTactic
import Derived.BigQuiet
import Derived.WideLaws
import Derived.Deep.DeepCutAuto
import Derived.Deep.CutBlock
import Derived.Deep.RegionHeld3
import Derived.Laws.Rows
import Derived.ArgAppend
import Derived.Laws.IdiomCopy
import Derived.OrdersHeld
import Derived.Laws.BitsLemmas
import Derived.Outline
import Derived.WalkSpells
import Derived.Lib.Hide
import Derived.RowKit
import Derived.Deep.DeepMust
import Derived.Test.YtjpobhdgfdeenaaA8
namespace Go.Proofs.Ytjpobhdgfdeenaa.A

structure Arr (b : Int) (l : List (List Int)) : Prop where
  room : 2 ≤ b ∧ b ≤ 50
  rows : ∀ r ∈ l, r ≠ [] ∧ (r.length : Int) ≤ b
  nodup : l.flatten.Nodup
  keys : ∀ x ∈ l.flatten, keyB x = true
  few : l.flatten.length ≤ 500

theorem scanRow_inr : ∀ (row S : List Int) (k : Nat) (T : List Int), scanRow S k row = .inr T → S.length ≤ 500 → S.Nodup →
    T = S ++ row ∧ (S ++ row).length ≤ 500 ∧ (S ++ row).Nodup ∧ ∀ x ∈ row, keyB x = true
  | [], S, k, T, h, hl, hn => by
    rw [scanRow] at h
    injection h with h
    subst h
    simp [hl, hn]
  | x :: r, S, k, T, h, hl, hn => by
    rw [scanRow] at h
    split at h
    · cases h
    · rename_i h1
      split at h
      · cases h
      · rename_i h2
        have h3 : keyB x = true := by
          cases hk : keyB x
          · exact absurd (.inl hk) h1
          · rfl
        have h4 : x ∉ S := fun hx => h1 (.inr hx)
        have hn' : (S ++ [x]).Nodup := by
          rw [List.nodup_append]
          refine ⟨hn, by simp, fun a ha b hb => ?_⟩
          rw [List.mem_singleton] at hb
          subst hb
          exact fun he => h4 (he ▸ ha)
        obtain ⟨e, g1, g2, g3⟩ := scanRow_inr r (S ++ [x]) (k + 1) T h (by simp; omega) hn'
        rw [List.append_assoc, List.singleton_append] at e g1 g2
        exact ⟨e, g1, g2, fun y hy => by
          rcases List.mem_cons.1 hy with rfl | hy
          · exact h3
          · exact g3 y hy⟩
theorem scanRow_ok : ∀ (row S : List Int) (k : Nat), (S ++ row).length ≤ 500 → (S ++ row).Nodup → (∀ x ∈ row, keyB x = true) → scanRow S k row = .inr (S ++ row)
  | [], S, k, _, _, _ => by simp [scanRow]
  | x :: r, S, k, hl, hn, hk => by
    have h1 : keyB x = true := hk x (by simp)
    have h2 : x ∉ S := fun hx => by
      rw [List.nodup_append] at hn
      exact hn.2.2 x hx x (by simp) rfl
    have h3 : S.length ≠ 500 := by
      simp at hl
      omega
    have e : S ++ x :: r = (S ++ [x]) ++ r := by simp
    rw [scanRow, if_neg (by rintro (h | h); rw [h1] at h; cases h; exact h2 h), if_neg h3, scanRow_ok r (S ++ [x]) (k + 1) (by rw [← e]; exact hl) (by rw [← e]; exact hn) (fun y hy => hk y (by simp [hy])), e]
theorem scanRow_inl_ne : ∀ (row S : List Int) (k : Nat) (p : Nat × Int), scanRow S k row = .inl p → p.2 ≠ 0
  | [], S, k, p, h => by rw [scanRow] at h; cases h
  | x :: r, S, k, p, h => by
    rw [scanRow] at h
    split at h
    · injection h with h; rw [← h]; simp
    · split at h
      · injection h with h; rw [← h]; simp
      · exact scanRow_inl_ne r _ _ p h
theorem scan_iff (b : Int) : ∀ (l : List (List Int)) (S : List Int) (i : Nat), S.length ≤ 500 → S.Nodup →
    ((scan b S i l).2.2 = 0 ↔ (∀ r ∈ l, r ≠ [] ∧ (r.length : Int) ≤ b) ∧ (S ++ l.flatten).Nodup ∧ (∀ x ∈ l.flatten, keyB x = true) ∧ (S ++ l.flatten).length ≤ 500)
  | [], S, i, hl, hn => by simp [scan, hl, hn]
  | r :: t, S, i, hl, hn => by
    by_cases h0 : r = []
    · rw [scan, if_pos h0]
      refine ⟨fun h => absurd h (by simp), fun h => absurd h0 (h.1 r (by simp)).1⟩
    · by_cases h1 : b < (r.length : Int)
      · rw [scan, if_neg h0, if_pos h1]
        refine ⟨fun h => absurd h (by simp), fun h => absurd h1 (by have := (h.1 r (by simp)).2; omega)⟩
      · rw [scan_row _ _ _ _ _ h0 h1]
        cases hs : scanRow S 0 r with
        | inl p =>
          have hp := scanRow_inl_ne r S 0 p hs
          refine ⟨fun h => absurd h hp, fun h => ?_⟩
          exfalso
          rw [List.flatten_cons, ← List.append_assoc] at h
          have h2 := scanRow_ok r S 0 (by have := h.2.2.2; rw [List.length_append] at this; omega) (List.nodup_append.1 h.2.1).1 (fun x hx => h.2.2.1 x (by simp [hx]))
          rw [h2] at hs
          cases hs
        | inr T =>
          obtain ⟨rfl, g1, g2, g3⟩ := scanRow_inr r S 0 T hs hl hn
          show (scan b (S ++ r) (i + 1) t).2.2 = 0 ↔ _
          rw [scan_iff b t (S ++ r) (i + 1) g1 g2, List.flatten_cons, List.append_assoc]
          constructor
          · rintro ⟨a1, a2, a3, a4⟩
            refine ⟨fun q hq => ?_, a2, fun x hx => ?_, a4⟩
            · rcases List.mem_cons.1 hq with rfl | hq
              · exact ⟨h0, by omega⟩
              · exact a1 q hq
            · rcases List.mem_append.1 hx with hx | hx
              · exact g3 x hx
              · exact a3 x hx
          · rintro ⟨a1, a2, a3, a4⟩
            exact ⟨fun q hq => a1 q (by simp [hq]), a2, fun x hx => a3 x (by simp [List.mem_append] at hx ⊢; exact .inr hx), a4⟩
theorem valid_iff (b : Int) (l : List (List Int)) : (wrongF b l).2.2 = 0 ↔ Arr b l := by
  unfold wrongF
  cases hb : roomB b with
  | false =>
    refine ⟨fun h => absurd h (by simp), fun h => ?_⟩
    have : roomB b = true := decide_eq_true h.room
    rw [hb] at this
    cases this
  | true =>
    rw [if_pos rfl, scan_iff b l [] 0 (by simp) (by simp)]
    exact ⟨fun h => ⟨of_decide_eq_true hb, h.1, by simpa using h.2.1, h.2.2.1, by simpa using h.2.2.2⟩, fun h => ⟨h.rows, by simpa using h.nodup, h.keys, by simpa using h.few⟩⟩
def validB (b : Int) (l : List (List Int)) : Bool := (wrongF b l).2.2 == 0
theorem validB_iff (b : Int) (l : List (List Int)) : validB b l = true ↔ Arr b l := by
  rw [← valid_iff]
  simp [validB]
end Go.Proofs.Ytjpobhdgfdeenaa.A
