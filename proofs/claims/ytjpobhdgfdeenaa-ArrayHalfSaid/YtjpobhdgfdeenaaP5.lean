/- Laws of rows of keys, without a program: a key put at an index, a key taken out; which rows are others, which stay below half. -/
import Derived.Test.YtjpobhdgfdeenaaA31
import Derived.Test.YtjpobhdgfdeenaaP3
set_option linter.unusedVariables false
namespace Go.Proofs.Ytjpobhdgfdeenaa.A
open Go.RowKit Go.Proofs.YtjpobhdgfdeenaaW.PrintWords Go.Maps

theorem split_len {l : List (List Int)} {j : Nat} {row : List Int} (h : l[j]? = some row) : ∃ pre post, l = pre ++ row :: post ∧ pre.length = j :=
  ⟨_, _, split_at h, by have := (List.getElem?_eq_some_iff.1 h).1; rw [List.length_take]; omega⟩
theorem set_mid {α : Type} (pre post : List α) (x y : α) : (pre ++ x :: post).set pre.length y = pre ++ y :: post := by
  rw [List.set_append_right _ _ (Nat.le_refl _), Nat.sub_self, List.set_cons_zero]
theorem erase_mid {α : Type} (pre post : List α) (x : α) : (pre ++ x :: post).eraseIdx pre.length = pre ++ post := by
  rw [List.eraseIdx_append_of_length_le (Nat.le_refl _), Nat.sub_self]; rfl
theorem getD_mid (pre post : List (List Int)) (x d : List Int) : (pre ++ x :: post).getD pre.length d = x := by
  simp [List.getD_eq_getElem?_getD]
theorem merge_mid (b : Int) (pre post : List (List Int)) (x y : List Int) : mergeL b (pre ++ x :: y :: post) pre.length = if ((x.length + y.length : Nat) : Int) ≤ b then some (pre ++ (x ++ y) :: post) else none := by
  have e1 := getD_mid pre (y :: post) x []
  have e2 : (pre ++ x :: y :: post).getD (pre.length + 1) [] = y := by
    simp [List.getD_eq_getElem?_getD]
  unfold mergeL
  rw [e1, e2, set_mid]
  have h3 : (pre ++ (x ++ y) :: y :: post).eraseIdx (pre.length + 1) = pre ++ (x ++ y) :: post := by
    have := erase_mid (pre ++ [x ++ y]) post y
    simpa using this
  rw [h3]
  by_cases h : ((x.length + y.length : Nat) : Int) ≤ b
  · rw [if_pos h, if_pos ⟨by simp, h⟩]
  · rw [if_neg h, if_neg (fun h' => h h'.2)]
/-- What becomes of rows of which one has lost a key. -/
inductive Rem (b : Int) (rj r : List Int) : Nat → List (List Int) → List (List Int) → Prop
  | gone (pre post) : r = [] → Rem b rj r pre.length (pre ++ rj :: post) (pre ++ post)
  | large (pre post) : r ≠ [] → (b + 1) / 2 ≤ (r.length : Int) → Rem b rj r pre.length (pre ++ rj :: post) (pre ++ r :: post)
  | alone (pre post) : r ≠ [] → (r.length : Int) < (b + 1) / 2 → (∀ s t, post = s :: t → b < ((r.length + s.length : Nat) : Int)) → (∀ t s, pre = t ++ [s] → b < ((s.length + r.length : Nat) : Int)) → Rem b rj r pre.length (pre ++ rj :: post) (pre ++ r :: post)
  | next (pre s t) : r ≠ [] → (r.length : Int) < (b + 1) / 2 → ((r.length + s.length : Nat) : Int) ≤ b → Rem b rj r pre.length (pre ++ rj :: s :: t) (pre ++ (r ++ s) :: t)
  | prev (t s post) : r ≠ [] → (r.length : Int) < (b + 1) / 2 → ((s.length + r.length : Nat) : Int) ≤ b → Rem b rj r (t.length + 1) (t ++ s :: rj :: post) (t ++ (s ++ r) :: post)
theorem merge_end (b : Int) (pre : List (List Int)) (x : List Int) : mergeL b (pre ++ [x]) pre.length = none := by
  unfold mergeL
  rw [if_neg (by simp)]
theorem remL_rem (b : Int) (l : List (List Int)) (j : Nat) (rj r : List Int) (h : l[j]? = some rj) : Rem b rj r j l (remL b l j r) := by
  obtain ⟨pre, post, rfl, rfl⟩ := split_len h
  unfold remL
  rw [set_mid, erase_mid]
  split
  · rename_i h0; exact .gone pre post h0
  · rename_i h0
    split
    · rename_i h1; exact .large pre post h0 h1
    · rename_i h1
      replace h1 : (r.length : Int) < (b + 1) / 2 := by omega
      have hprev : (∀ s t, post = s :: t → b < ((r.length + s.length : Nat) : Int)) → Rem b rj r pre.length (pre ++ rj :: post) (if pre.length = 0 then pre ++ r :: post else match mergeL b (pre ++ r :: post) (pre.length - 1) with
          | some x => x
          | none => pre ++ r :: post) := fun hpost => by
        by_cases hp : pre = []
        · subst hp
          exact .alone [] post h0 h1 hpost (fun t s e => by simp at e)
        · obtain ⟨t, s, rfl⟩ : ∃ t s, pre = t ++ [s] := ⟨pre.dropLast, pre.getLast hp, (List.dropLast_concat_getLast hp).symm⟩
          rw [if_neg (by simp)]
          have e1 : (t ++ [s] ++ r :: post) = t ++ s :: r :: post := by simp
          have e2 : (t ++ [s]).length - 1 = t.length := by simp
          rw [e1, e2, merge_mid]
          by_cases hs : ((s.length + r.length : Nat) : Int) ≤ b
          · rw [if_pos hs]
            have := Rem.prev (rj := rj) t s post h0 h1 hs
            simpa using this
          · rw [if_neg hs]
            have := Rem.alone (rj := rj) (t ++ [s]) post h0 h1 hpost (fun t' s' e => by
              have e3 : s = s' := by
                have := congrArg List.getLast? e
                simpa using this
              subst e3
              omega)
            simpa using this
      match post with
      | [] =>
        rw [merge_end]
        exact hprev (fun s t e => by cases e)
      | s :: t =>
        rw [merge_mid]
        by_cases hs : ((r.length + s.length : Nat) : Int) ≤ b
        · rw [if_pos hs]
          exact .next pre s t h0 h1 hs
        · rw [if_neg hs]
          exact hprev (fun s' t' e => by injection e with e1 e2; subst e1; omega)
theorem Rem.flat {b : Int} {rj r : List Int} {j : Nat} {l l' : List (List Int)} (h : Rem b rj r j l l') : l'.flatten = (l.take j).flatten ++ (r ++ (l.drop (j + 1)).flatten) := by
  have hd : ∀ (pre post : List (List Int)) (x : List Int), (pre ++ x :: post).take pre.length = pre ∧ (pre ++ x :: post).drop (pre.length + 1) = post := fun pre post x => ⟨by simp, by
    have : pre ++ x :: post = (pre ++ [x]) ++ post := by simp
    rw [this, List.drop_left' (by simp)]⟩
  cases h with
  | gone pre post h0 => rw [(hd pre post rj).1, (hd pre post rj).2]; simp [h0]
  | large pre post _ _ => rw [(hd pre post rj).1, (hd pre post rj).2]; simp
  | alone pre post _ _ _ _ => rw [(hd pre post rj).1, (hd pre post rj).2]; simp
  | next pre s t _ _ _ => rw [(hd pre (s :: t) rj).1, (hd pre (s :: t) rj).2]; simp
  | prev t s post _ _ _ =>
    have e1 : t ++ s :: rj :: post = (t ++ [s]) ++ rj :: post := by simp
    have e2 : t.length + 1 = (t ++ [s]).length := by simp
    rw [e1, e2, (hd (t ++ [s]) post rj).1, (hd (t ++ [s]) post rj).2]; simp
theorem Rem.rows {b : Int} {rj r : List Int} {j : Nat} {l l' : List (List Int)} (h : Rem b rj r j l l') (hl : Rows b l) (hr : r.length ≤ rj.length) : Rows b l' := by
  have hj : ∀ pre post, l = pre ++ rj :: post → (r.length : Int) ≤ b := fun pre post e => by
    have := (hl rj (by rw [e]; simp)).2
    omega
  cases h with
  | gone pre post h0 => exact fun x hx => hl x (by rw [List.mem_append] at hx ⊢; rcases hx with hx | hx; exact .inl hx; exact .inr (List.mem_cons_of_mem _ hx))
  | large pre post h0 h1 =>
    have := hj pre post rfl
    intro x hx
    rw [List.mem_append, List.mem_cons] at hx
    rcases hx with hx | rfl | hx
    · exact hl x (by simp [hx])
    · exact ⟨h0, this⟩
    · exact hl x (by simp [hx])
  | alone pre post h0 h1 _ _ =>
    have := hj pre post rfl
    intro x hx
    rw [List.mem_append, List.mem_cons] at hx
    rcases hx with hx | rfl | hx
    · exact hl x (by simp [hx])
    · exact ⟨h0, this⟩
    · exact hl x (by simp [hx])
  | next pre s t h0 h1 h2 =>
    intro x hx
    rw [List.mem_append, List.mem_cons] at hx
    rcases hx with hx | rfl | hx
    · exact hl x (by simp [hx])
    · exact ⟨by simp [h0], by rw [List.length_append]; exact h2⟩
    · exact hl x (by simp [hx])
  | prev t s post h0 h1 h2 =>
    intro x hx
    rw [List.mem_append, List.mem_cons] at hx
    rcases hx with hx | rfl | hx
    · exact hl x (by simp [hx])
    · exact ⟨by simp [h0], by rw [List.length_append]; exact h2⟩
    · exact hl x (by simp [hx])
/-- How many rows of a list are none of another one. -/
def apartF (x y : List (List Int)) : Nat := (x.filter (fun r => decide (r ∉ y))).length
theorem apart_app (a b y : List (List Int)) : apartF (a ++ b) y = apartF a y + apartF b y := by simp [apartF]
theorem apart_cons (r : List Int) (b y : List (List Int)) : apartF (r :: b) y ≤ 1 + apartF b y := by
  unfold apartF
  rw [List.filter_cons]
  split <;> simp <;> omega
theorem apart_zero {x y : List (List Int)} (h : ∀ r ∈ x, r ∈ y) : apartF x y = 0 := by
  unfold apartF
  rw [List.length_eq_zero_iff, List.filter_eq_nil_iff]
  intro r hr
  simp [h r hr]
theorem Rem.apart {b : Int} {rj r : List Int} {j : Nat} {l l' : List (List Int)} (h : Rem b rj r j l l') : apartF l' l ≤ 1 := by
  cases h with
  | gone pre post h0 => rw [apart_zero (fun x hx => by rw [List.mem_append] at hx ⊢; rcases hx with hx | hx; exact .inl hx; exact .inr (List.mem_cons_of_mem _ hx))]; omega
  | large pre post _ _ =>
    rw [apart_app, apart_zero (x := pre) (fun x hx => by simp [hx])]
    have := apart_cons r post (pre ++ rj :: post)
    rw [apart_zero (x := post) (fun x hx => by simp [hx])] at this
    omega
  | alone pre post _ _ _ _ =>
    rw [apart_app, apart_zero (x := pre) (fun x hx => by simp [hx])]
    have := apart_cons r post (pre ++ rj :: post)
    rw [apart_zero (x := post) (fun x hx => by simp [hx])] at this
    omega
  | next pre s t _ _ _ =>
    rw [apart_app, apart_zero (x := pre) (fun x hx => by simp [hx])]
    have := apart_cons (r ++ s) t (pre ++ rj :: s :: t)
    rw [apart_zero (x := t) (fun x hx => by simp [hx])] at this
    omega
  | prev t s post _ _ _ =>
    rw [apart_app, apart_zero (x := t) (fun x hx => by simp [hx])]
    have := apart_cons (s ++ r) post (t ++ s :: rj :: post)
    rw [apart_zero (x := post) (fun x hx => by simp [hx])] at this
    omega
/-- No two neighbours are both below half. -/
def HalfP (b : Int) : List (List Int) → Prop
  | [] => True
  | [_] => True
  | x :: y :: t => (b / 2 ≤ (x.length : Int) ∨ b / 2 ≤ (y.length : Int)) ∧ HalfP b (y :: t)
theorem half_iff (b : Int) : ∀ (l : List (List Int)), HalfP b l ↔ ∀ pre x y post, l = pre ++ x :: y :: post → b / 2 ≤ (x.length : Int) ∨ b / 2 ≤ (y.length : Int)
  | [] => ⟨fun _ pre x y post e => by simp at e, fun _ => trivial⟩
  | [z] => ⟨fun _ pre x y post e => by have := congrArg List.length e; simp at this; omega, fun _ => trivial⟩
  | z :: u :: t => by
    rw [HalfP, half_iff b (u :: t)]
    refine ⟨fun ⟨h1, h2⟩ pre x y post e => ?_, fun h => ⟨h [] z u t rfl, fun pre x y post e => h (z :: pre) x y post (by rw [e]; rfl)⟩⟩
    match pre with
    | [] => injection e with e1 e2; injection e2 with e2 e3; subst e1 e2; exact h1
    | p :: pre => injection e with e1 e2; exact h2 pre x y post e2
theorem half_app {b : Int} : ∀ {pre post : List (List Int)}, HalfP b (pre ++ post) ↔ HalfP b pre ∧ HalfP b post ∧ ∀ x y, pre.getLast? = some x → post.head? = some y → b / 2 ≤ (x.length : Int) ∨ b / 2 ≤ (y.length : Int)
  | [], post => by simp [HalfP]
  | [z], [] => by simp [HalfP]
  | [z], u :: t => by simp [HalfP, And.comm]
  | z :: z' :: t, post => by
    have := @half_app b (z' :: t) post
    simp only [List.cons_append] at this
    simp only [List.cons_append, HalfP, this, List.getLast?_cons_cons]
    constructor
    · rintro ⟨h1, h2, h3, h4⟩; exact ⟨⟨h1, h2⟩, h3, h4⟩
    · rintro ⟨⟨h1, h2⟩, h3, h4⟩; exact ⟨h1, h2, h3, h4⟩
theorem half_mid {b : Int} {pre post : List (List Int)} {x : List Int} : HalfP b (pre ++ x :: post) ↔ HalfP b pre ∧ HalfP b post ∧ (∀ s, pre.getLast? = some s → b / 2 ≤ (s.length : Int) ∨ b / 2 ≤ (x.length : Int)) ∧ (∀ s, post.head? = some s → b / 2 ≤ (x.length : Int) ∨ b / 2 ≤ (s.length : Int)) := by
  rw [half_app]
  have h2 : HalfP b (x :: post) ↔ HalfP b post ∧ (∀ s, post.head? = some s → b / 2 ≤ (x.length : Int) ∨ b / 2 ≤ (s.length : Int)) := by
    cases post with
    | nil => simp [HalfP]
    | cons y t => simp [HalfP, And.comm]
  rw [h2]
  simp only [List.head?_cons, Option.some.injEq]
  constructor
  · rintro ⟨h1, ⟨h2, h3⟩, h4⟩; exact ⟨h1, h2, fun s hs => h4 s x hs rfl, h3⟩
  · rintro ⟨h1, h2, h3, h4⟩; exact ⟨h1, ⟨h2, h4⟩, fun s y hs e => e ▸ h3 s hs⟩
/-- A row in the midst that is large enough, or whose neighbours are. -/
theorem half_put {b : Int} {pre post : List (List Int)} {x : List Int} (h1 : HalfP b pre) (h2 : HalfP b post) (h : b / 2 ≤ (x.length : Int) ∨ (∀ s ∈ pre, b / 2 ≤ (s.length : Int)) ∧ (∀ s ∈ post, b / 2 ≤ (s.length : Int)) ∨ ((∀ s, pre.getLast? = some s → b / 2 ≤ (s.length : Int)) ∧ ∀ s, post.head? = some s → b / 2 ≤ (s.length : Int))) : HalfP b (pre ++ x :: post) := by
  rw [half_mid]
  refine ⟨h1, h2, fun s hs => ?_, fun s hs => ?_⟩
  · rcases h with h | ⟨h, _⟩ | ⟨h, _⟩
    · exact .inr h
    · exact .inl (h s (List.mem_of_getLast? hs))
    · exact .inl (h s hs)
  · rcases h with h | ⟨_, h⟩ | ⟨_, h⟩
    · exact .inl h
    · exact .inr (h s (List.mem_of_head? hs))
    · exact .inr (h s hs)
theorem Rem.half {b : Int} {rj r : List Int} {j : Nat} {l l' : List (List Int)} (h : Rem b rj r j l l') (hb : 2 ≤ b) (hl : HalfP b l) (hrow : Rows b l) (hr : r.length + 1 = rj.length) : HalfP b l' := by
  cases h with
  | gone pre post h0 =>
    subst h0
    rw [half_mid] at hl
    rw [half_app]
    obtain ⟨h1, h2, h3, h4⟩ := hl
    refine ⟨h1, h2, fun x y hx hy => ?_⟩
    have h5 := h3 x hx
    have hx0 := List.length_pos_iff.2 (hrow x (List.mem_append.2 (.inl (List.mem_of_getLast? hx)))).1
    simp only [List.length_nil, Nat.zero_add] at hr
    rw [← hr] at h5
    omega
  | large pre post h0 h1 =>
    rw [half_mid] at hl
    exact half_put hl.1 hl.2.1 (.inl (by omega))
  | alone pre post h0 h1 h2 h3 =>
    rw [half_mid] at hl
    refine half_put hl.1 hl.2.1 (.inr (.inr ⟨fun s hs => ?_, fun s hs => ?_⟩))
    · obtain ⟨t, rfl⟩ := List.getLast?_eq_some_iff.1 hs
      have := h3 t s rfl
      omega
    · obtain ⟨t, rfl⟩ := List.head?_eq_some_iff.1 hs
      have := h2 s t rfl
      omega
  | next pre s t h0 h1 h2 =>
    rw [half_mid] at hl
    obtain ⟨h3, h4, h5, h6⟩ := hl
    have h7 := h6 s rfl
    have h8 : HalfP b t := by
      have := (half_mid (pre := []) (x := s) (post := t)).1 h4
      exact this.2.1
    have hs0 := List.length_pos_iff.2 (hrow s (by simp)).1
    exact half_put h3 h8 (.inl (by rw [List.length_append]; omega))
  | prev t s post h0 h1 h2 =>
    rw [half_mid] at hl
    obtain ⟨h3, h4, h5, h6⟩ := hl
    rw [show rj :: post = [] ++ rj :: post from rfl, half_mid] at h4
    have h7 := h6 rj rfl
    have hs0 := List.length_pos_iff.2 (hrow s (by simp)).1
    exact half_put h3 h4.2.1 (.inl (by rw [List.length_append]; omega))
/-- What becomes of rows of which one has won a key. -/
inductive Ins (b : Int) (rj r : List Int) : List (List Int) → List (List Int) → Prop
  | one (pre post) : (r.length : Int) ≤ b → Ins b rj r (pre ++ rj :: post) (pre ++ r :: post)
  | two (pre post) : b < (r.length : Int) → Ins b rj r (pre ++ rj :: post) (pre ++ r.take (halfN b) :: r.drop (halfN b) :: post)
theorem insF_ins (b : Int) (l : List (List Int)) (j : Nat) (rj r : List Int) (h : l[j]? = some rj) : Ins b rj r l (insF b l j r) := by
  have hs := split_at h
  obtain ⟨pre, post, e, rfl⟩ := split_len h
  unfold insF
  have e1 : l.take pre.length = pre := by rw [e]; simp
  have e2 : l.drop (pre.length + 1) = post := by
    have : pre ++ rj :: post = (pre ++ [rj]) ++ post := by simp
    rw [e, this, List.drop_left' (by simp)]
  rw [e1, e2, e, set_mid]
  split
  · rename_i h0; exact .one pre post h0
  · rename_i h0; exact .two pre post (by omega)
theorem Ins.apart {b : Int} {rj r : List Int} {l l' : List (List Int)} (h : Ins b rj r l l') : apartF l' l ≤ 2 := by
  cases h with
  | one pre post _ =>
    rw [apart_app, apart_zero (x := pre) (fun x hx => by simp [hx])]
    have := apart_cons r post (pre ++ rj :: post)
    rw [apart_zero (x := post) (fun x hx => by simp [hx])] at this
    omega
  | two pre post _ =>
    rw [apart_app, apart_zero (x := pre) (fun x hx => by simp [hx])]
    have h1 := apart_cons (r.take (halfN b)) (r.drop (halfN b) :: post) (pre ++ rj :: post)
    have := apart_cons (r.drop (halfN b)) post (pre ++ rj :: post)
    rw [apart_zero (x := post) (fun x hx => by simp [hx])] at this
    omega
theorem Ins.half {b : Int} {rj r : List Int} {l l' : List (List Int)} (h : Ins b rj r l l') (hb : 2 ≤ b) (hl : HalfP b l) (hr : r.length = rj.length + 1) : HalfP b l' := by
  cases h with
  | one pre post _ =>
    rw [half_mid] at hl ⊢
    obtain ⟨h3, h4, h5, h6⟩ := hl
    refine ⟨h3, h4, fun s hs => ?_, fun s hs => ?_⟩
    · have := h5 s hs; omega
    · have := h6 s hs; omega
  | two pre post h0 =>
    rw [half_mid] at hl
    obtain ⟨h3, h4, h5, h6⟩ := hl
    have hN : halfN b = ((b + 2) / 2).toNat := rfl
    have e1 : (r.take (halfN b)).length = min (halfN b) r.length := List.length_take
    have e2 : (r.drop (halfN b)).length = r.length - halfN b := List.length_drop
    refine half_put h3 (half_put (pre := []) trivial h4 (.inl (by rw [e2]; omega))) (.inl (by rw [e1]; omega))
theorem remF_rem {b m : Int} {l : List (List Int)} (h0 : 0 ≤ m) (h1 : m < l.flatten.length) : ∃ j q rj, At l m j q ∧ l[j]? = some rj ∧ q < rj.length ∧ (remF b l m).2 = rj.getD q 0 ∧ Rem b rj (rj.eraseIdx q) j l (remF b l m).1 := by
  obtain ⟨p, hp, he⟩ := posAll_all l 0 0 m h0 (by omega)
  obtain ⟨j, q, rj, g0, g1, g2, _, _, g5⟩ := posAll_mem l 0 0 p hp
  have hat : At l m j q := ⟨rj, g0, by rw [← he, g2]; simp, .inl g1⟩
  exact ⟨j, q, rj, hat, g0, g1, by rw [remF_at hat g0], by rw [remF_at hat g0]; exact remL_rem b l j rj _ g0⟩
theorem remF_flat {b m : Int} {l : List (List Int)} (h0 : 0 ≤ m) (h1 : m < l.flatten.length) : (remF b l m).1.flatten = l.flatten.eraseIdx m.toNat ∧ (remF b l m).2 = l.flatten.getD m.toNat 0 := by
  obtain ⟨j, q, rj, ⟨row, hr, hm, _⟩, hj, hq, h2, hrem⟩ := remF_rem (b := b) h0 h1
  obtain rfl : row = rj := by rw [hr] at hj; injection hj
  have hs := split_at hr
  have hf : l.flatten = (l.take j).flatten ++ (row ++ (l.drop (j + 1)).flatten) := by
    conv => lhs; rw [hs]
    simp
  have hmn : m.toNat = (l.take j).flatten.length + q := by omega
  refine ⟨?_, ?_⟩
  · have hl : remF b l m = (remL b l j (row.eraseIdx q), row.getD q 0) := remF_at ⟨row, hr, hm, .inl hq⟩ hr
    rw [hf, hmn, List.eraseIdx_append_of_length_le (by omega), Nat.add_sub_cancel_left, List.eraseIdx_append_of_lt_length hq, hl]
    exact (remL_rem b l j row (row.eraseIdx q) hr).flat
  · rw [h2, hf, hmn]
    simp [List.getD_eq_getElem?_getD, List.getElem?_append_right, List.getElem?_append_left hq]
theorem remF_rows {b m : Int} {l : List (List Int)} (h0 : 0 ≤ m) (h1 : m < l.flatten.length) (hl : Rows b l) : Rows b (remF b l m).1 := by
  obtain ⟨j, q, rj, _, _, _, _, hrem⟩ := remF_rem (b := b) h0 h1
  exact hrem.rows hl (List.length_eraseIdx_le _ _)
theorem remF_apart {b m : Int} {l : List (List Int)} (h0 : 0 ≤ m) (h1 : m < l.flatten.length) : apartF (remF b l m).1 l ≤ 1 := by
  obtain ⟨j, q, rj, _, _, _, _, hrem⟩ := remF_rem (b := b) h0 h1
  exact hrem.apart
theorem remF_half {b m : Int} {l : List (List Int)} (h0 : 0 ≤ m) (h1 : m < l.flatten.length) (hb : 2 ≤ b) (hl : Rows b l) (hh : HalfP b l) : HalfP b (remF b l m).1 := by
  obtain ⟨j, q, rj, _, _, hq, _, hrem⟩ := remF_rem (b := b) h0 h1
  exact hrem.half hb hh hl (by rw [List.length_eraseIdx_of_lt hq]; omega)
theorem putF_apart {b m k : Int} {l : List (List Int)} (h0 : 0 ≤ m) (h1 : m ≤ l.flatten.length) : apartF (putF b l m k) l ≤ 2 := by
  by_cases hne : l = []
  · subst hne
    simp [putF, apartF]
  · obtain ⟨j, q, ha⟩ := At_some hne h0 h1
    obtain ⟨row, hr, hm, hq⟩ := ha
    rw [putF_at ⟨row, hr, hm, hq⟩ hr]
    exact (insF_ins b l j row _ hr).apart
theorem putF_half {b m k : Int} {l : List (List Int)} (h0 : 0 ≤ m) (h1 : m ≤ l.flatten.length) (hb : 2 ≤ b) (hh : HalfP b l) : HalfP b (putF b l m k) := by
  by_cases hne : l = []
  · subst hne
    simp [putF, HalfP]
  · obtain ⟨j, q, ha⟩ := At_some hne h0 h1
    obtain ⟨row, hr, hm, hq⟩ := ha
    rw [putF_at ⟨row, hr, hm, hq⟩ hr]
    exact (insF_ins b l j row _ hr).half hb hh (by rw [ins_len row q (by omega) k])
end Go.Proofs.Ytjpobhdgfdeenaa.A
