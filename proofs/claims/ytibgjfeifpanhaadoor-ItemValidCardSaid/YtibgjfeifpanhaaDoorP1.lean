/- Comparisons: what an order by kind, number and text is. No program in sight. -/
import Init
namespace Go.Proofs.YtibgjfeifpanhaaDoor.B

structure IsCmp {α : Type} (c : α → α → Int) : Prop where
  lo : ∀ x y, -1 ≤ c x y
  hi : ∀ x y, c x y ≤ 1
  refl : ∀ x, c x x = 0
  eq : ∀ x y, c x y = 0 → x = y
  anti : ∀ x y, c x y = - c y x
  trans : ∀ x y z, c x y ≤ 0 → c y z ≤ 0 → c x z ≤ 0
def cmpI (a b : Int) : Int := if a < b then -1 else if a > b then 1 else 0
theorem cmpI_is : IsCmp cmpI where
  lo x y := by unfold cmpI; split <;> (try split) <;> omega
  hi x y := by unfold cmpI; split <;> (try split) <;> omega
  refl x := by unfold cmpI; rw [if_neg (by omega), if_neg (by omega)]
  eq x y h := by unfold cmpI at h; split at h <;> (try split at h) <;> omega
  anti x y := by unfold cmpI; split <;> (try split) <;> (try split) <;> (try split) <;> omega
  trans x y z := by
    unfold cmpI
    intro h1 h2
    repeat' split at h1
    all_goals (repeat' split at h2)
    all_goals (repeat' split)
    all_goals omega
def pairC {α β : Type} (c : α → α → Int) (d : β → β → Int) (x y : α × β) : Int := if c x.1 y.1 = 0 then d x.2 y.2 else c x.1 y.1
theorem pairC_is {α β : Type} {c : α → α → Int} {d : β → β → Int} (hc : IsCmp c) (hd : IsCmp d) : IsCmp (pairC c d) where
  lo x y := by unfold pairC; split; exact hd.lo _ _; exact hc.lo _ _
  hi x y := by unfold pairC; split; exact hd.hi _ _; exact hc.hi _ _
  refl x := by unfold pairC; rw [if_pos (hc.refl _)]; exact hd.refl _
  eq x y h := by
    unfold pairC at h
    split at h
    · rename_i e
      exact Prod.ext (hc.eq _ _ e) (hd.eq _ _ h)
    · rename_i e; exact absurd h e
  anti x y := by
    unfold pairC
    have h := hc.anti x.1 y.1
    by_cases e : c x.1 y.1 = 0
    · rw [if_pos e, if_pos (by omega)]; exact hd.anti _ _
    · rw [if_neg e, if_neg (by omega)]; exact h
  trans x y z h1 h2 := by
    unfold pairC at h1 h2 ⊢
    by_cases e1 : c x.1 y.1 = 0
    · rw [if_pos e1] at h1
      rw [hc.eq _ _ e1]
      split at h2
      · rename_i e2
        rw [if_pos e2]
        exact hd.trans _ _ _ h1 h2
      · rename_i e2
        rw [if_neg e2]
        exact h2
    · rw [if_neg e1] at h1
      split at h2
      · rename_i e2
        rw [← hc.eq _ _ e2, if_neg e1]
        exact h1
      · rename_i e2
        have h3 := hc.trans _ _ _ h1 h2
        by_cases e3 : c x.1 z.1 = 0
        · have h4 := hc.eq _ _ e3
          rw [← h4] at h2 e2
          have := hc.anti x.1 y.1
          omega
        · rw [if_neg e3]; exact h3
def lexC {α : Type} (c : α → α → Int) : List α → List α → Int
  | [], [] => 0
  | [], _ :: _ => -1
  | _ :: _, [] => 1
  | x :: r, y :: s => if c x y = 0 then lexC c r s else c x y
theorem lexC_is {α : Type} {c : α → α → Int} (hc : IsCmp c) : IsCmp (lexC c) where
  lo x := by
    induction x with
    | nil => intro y; cases y <;> simp [lexC]
    | cons a r ih => intro y; cases y with
      | nil => simp [lexC]
      | cons b s => unfold lexC; split; exact ih s; exact hc.lo _ _
  hi x := by
    induction x with
    | nil => intro y; cases y <;> simp [lexC]
    | cons a r ih => intro y; cases y with
      | nil => simp [lexC]
      | cons b s => unfold lexC; split; exact ih s; exact hc.hi _ _
  refl x := by
    induction x with
    | nil => rfl
    | cons a r ih => unfold lexC; rw [if_pos (hc.refl _)]; exact ih
  eq x := by
    induction x with
    | nil => intro y h; cases y with
      | nil => rfl
      | cons b s => simp [lexC] at h
    | cons a r ih => intro y h; cases y with
      | nil => simp [lexC] at h
      | cons b s =>
        unfold lexC at h
        split at h
        · rename_i e
          rw [hc.eq _ _ e, ih s h]
        · rename_i e; exact absurd h e
  anti x := by
    induction x with
    | nil => intro y; cases y <;> simp [lexC]
    | cons a r ih => intro y; cases y with
      | nil => simp [lexC]
      | cons b s =>
        unfold lexC
        have h := hc.anti a b
        by_cases e : c a b = 0
        · rw [if_pos e, if_pos (by omega)]; exact ih s
        · rw [if_neg e, if_neg (by omega)]; exact h
  trans x := by
    induction x with
    | nil => intro y z h1 h2; cases z <;> simp [lexC]
    | cons a r ih =>
      intro y z h1 h2
      cases y with
      | nil => simp [lexC] at h1
      | cons b s =>
        cases z with
        | nil => simp [lexC] at h2
        | cons d t =>
          unfold lexC at h1 h2 ⊢
          by_cases e1 : c a b = 0
          · rw [if_pos e1] at h1
            rw [hc.eq _ _ e1]
            split at h2
            · rename_i e2; rw [if_pos e2]; exact ih _ _ h1 h2
            · rename_i e2; rw [if_neg e2]; exact h2
          · rw [if_neg e1] at h1
            split at h2
            · rename_i e2; rw [← hc.eq _ _ e2, if_neg e1]; exact h1
            · rename_i e2
              have h3 := hc.trans _ _ _ h1 h2
              by_cases e3 : c a d = 0
              · have h4 := hc.eq _ _ e3
                rw [← h4] at h2 e2
                have := hc.anti a b
                omega
              · rw [if_neg e3]; exact h3
def cmpB (x y : UInt8) : Int := cmpI x.toNat y.toNat
theorem cmpB_is : IsCmp cmpB where
  lo x y := cmpI_is.lo _ _
  hi x y := cmpI_is.hi _ _
  refl x := cmpI_is.refl _
  eq x y h := UInt8.toNat_inj.1 (by have := cmpI_is.eq _ _ h; omega)
  anti x y := cmpI_is.anti _ _
  trans x y z := cmpI_is.trans _ _ _
def cmpS : List UInt8 → List UInt8 → Int := lexC cmpB
theorem cmpS_is : IsCmp cmpS := lexC_is cmpB_is
theorem lexC_len {α : Type} {c : α → α → Int} : ∀ x y : List α, (∀ (i : Nat) a b, x[i]? = some a → y[i]? = some b → c a b = 0) → lexC c x y = cmpI x.length y.length
  | [], [], _ => by simp [lexC, cmpI]
  | [], _ :: s, _ => by simp only [lexC, cmpI, List.length_nil, List.length_cons]; rw [if_pos (by omega)]
  | _ :: r, [], _ => by simp only [lexC, cmpI, List.length_nil, List.length_cons]; rw [if_neg (by omega), if_pos (by omega)]
  | a :: r, b :: s, h => by
    rw [lexC, if_pos (h 0 a b rfl rfl), lexC_len r s (fun i x y hx hy => h (i + 1) x y hx hy)]
    simp only [cmpI, List.length_cons]
    split <;> split <;> (try split) <;> (try split) <;> omega
end Go.Proofs.YtibgjfeifpanhaaDoor.B
