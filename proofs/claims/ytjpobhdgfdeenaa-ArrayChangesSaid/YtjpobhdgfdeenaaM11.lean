/- remove of package array: the key at an index taken out. -/
import Derived.RangeFuncNested
import Derived.RangeFuncBound
import Derived.RangeFuncCalls
import Derived.RangeFuncLeaves
import Derived.Shelf.Abstract
import Derived.Shelf.RegionOpen
import Derived.OwnWalkIn
import Derived.TacticsInMore
import Derived.LoopNIn
import Derived.LoopIn
import Derived.RangeFuncBox
import Derived.StillTailTactics
import Derived.Deep.DrawnRows
import Derived.BigQuiet
import Derived.Below
import Derived.Deep.Draws
import Derived.Deep.AppendLies
import Derived.Maps.AppendAt
import Derived.Maps.OwnSet
import Derived.OwnWalk
import Derived.Laws.BytesArg
import Derived.Laws.MakeOwn
import Derived.Laws.OwnMore
import Derived.Deep.OwnRows
import Derived.Tactics
import Derived.Laws.Slices
import Derived.WalkKit
import Derived.KernelRfl
import Derived.RowKit3
import Derived.Deep.LoopGhost
import Derived.Deep.QuietTactic
import Derived.WideLaws
import Derived.Deep.DeepCutAuto
import Derived.Deep.CutBlock
import Derived.Deep.RegionHeld3
import Derived.Laws.Rows
import Derived.ArgAppend
import Derived.Laws.IdiomCopy
import Derived.OrdersHeld
import Derived.Laws.BitsLemmas
import Derived.Outline
import Derived.WalkSpells
import Derived.Lib.Hide
import Derived.RowKit
import Derived.Deep.DeepMust
import Derived.Test.YtjpobhdgfdeenaaM9
import Derived.Test.YtjpobhdgfdeenaaM10
import Derived.Test.YtjpobhdgfdeenaaProg
import Derived.Test.YtjpobhdgfdeenaaM6
import Derived.Test.YtjpobhdgfdeenaaM8
set_option linter.unusedVariables false
set_option linter.unusedSimpArgs false
namespace Go.Proofs.Ytjpobhdgfdeenaa.A
open Go.RowKit Go.Shelf Go.Proofs.YtjpobhdgfdeenaaW.PrintWords Go.Maps
attribute [local go_sem] Oper.semAt_some

set_option maxRecDepth 100000 in
set_option maxHeartbeats 4000000 in
theorem remove_in (b m : Int) (base : Nat) (v : Value) (vs : List Value) (l : List (List Int)) (w : World) (hown : Own2 w base v vs l) (hb : 2 ≤ b ∧ b ≤ 50) (hs : l.flatten.length ≤ 1000000) (hll : l.length ≤ 1000000) (hm : 0 ≤ m ∧ m < l.flatten.length) (hbase : base ≤ w.heap.size) :
    Calls Try.prog 56 #[.int .i64 b, v, .int .i64 m] w fun e w' => ∃ v', e = .returned (.tuple #[v', .int .i64 (remF b l m).2]) ∧ OwnA w' base v' (remF b l m).1 ∧ Below base w w' := by
  obtain ⟨g, c, hv, hvl, hlc, hread⟩ := hown.reads
  subst hv
  have HO := Aside0.mk hown
  have HHL := Aside0.mk hll
  have HHB := Aside0.mk hb
  have HR := Aside0.mk hread
  have HS := Aside0.mk hs
  have hlm := (C_len hread).2
  clear hown hread hs hll hb
  refine (callsIn_wide (n := 9)).1 ?_
  refine callsIn_of_wp_marks Try.func56 rfl trivial ?_ rfl
  simp only [Try.ntmps56, List.size_toArray, List.length_cons, List.length_nil, Nat.reduceAdd, Nat.reduceSub, Array.replicate_succ, Array.replicate_zero, List.push_toArray, List.append_toArray, List.nil_append, List.cons_append]
  refine wpIn_wide.2 ?_
  go_wp2_with (go_at_call 49; refine (callsIn_wide.1 (keys_in Fence.wide 9 trivial rfl _ _ _ _)).mono ?_; rintro e w' ⟨rfl, rfl⟩)
  --LOOP
  have f6 := ((Boxed.new w 3 (.int .i64 m)).alloc (.cells #[.int .i64 0, .int .i64 0, .int .i64 0, .int .i64 0] 62)).alloc (.cells #[.slice (some ⟨g, 0, none⟩) l.length c] 24)
  have f8 : PBox ((w.alloc (.cells #[.int .i64 m] 3)).alloc (.cells #[.int .i64 0, .int .i64 0, .int .i64 0, .int .i64 0] 62)) (w.heap.size + 1) (0, 0, 0, 0) := by
    have h := heap_alloc_new (w.alloc (.cells #[.int .i64 m] 3)) (.cells #[.int .i64 0, .int .i64 0, .int .i64 0, .int .i64 0] 62)
    rw [World.size_alloc] at h
    exact h
  replace f8 : PBox (((w.alloc (.cells #[.int .i64 m] 3)).alloc (.cells #[.int .i64 0, .int .i64 0, .int .i64 0, .int .i64 0] 62)).alloc (.cells #[.slice (some ⟨g, 0, none⟩) l.length c] 24)) (w.heap.size + 1) (0, 0, 0, 0) := (Below.heap_alloc _ _ _ (by simp)).trans f8
  have f11 := Boxed.new ((w.alloc (.cells #[.int .i64 m] 3)).alloc (.cells #[.int .i64 0, .int .i64 0, .int .i64 0, .int .i64 0] 62)) 24 (.slice (some ⟨g, 0, none⟩) l.length c)
  have hB1 : Below w.heap.size w (((w.alloc (.cells #[.int .i64 m] 3)).alloc (.cells #[.int .i64 0, .int .i64 0, .int .i64 0, .int .i64 0] 62)).alloc (.cells #[.slice (some ⟨g, 0, none⟩) l.length c] 24)) := below_alloc (below_alloc (below_alloc (Below.refl _ _) _) _) _
  have hz1 : (((w.alloc (.cells #[.int .i64 m] 3)).alloc (.cells #[.int .i64 0, .int .i64 0, .int .i64 0, .int .i64 0] 62)).alloc (.cells #[.slice (some ⟨g, 0, none⟩) l.length c] 24)).heap.size = w.heap.size + 3 := by simp
  rw [World.size_alloc, World.size_alloc] at f11
  generalize (((w.alloc (.cells #[.int .i64 m] 3)).alloc (.cells #[.int .i64 0, .int .i64 0, .int .i64 0, .int .i64 0] 62)).alloc (.cells #[.slice (some ⟨g, 0, none⟩) l.length c] 24)) = W1 at f6 f8 f11 hB1 hz1 ⊢
  have mixed : Try.prog.follows .mixedOrders = true := by kernel_rfl
  rename_i KK hKK
  refine remove_loop b m g c l w W1 (w.heap.size + 1 + 1) HR HS hm hlm f6 f8 f11 hB1 hz1 (by omega) (by omega) _ _ ?_
  intro p D W hp hpm hP hD hDw hBw
  obtain ⟨j, q, rj, h0, h1, h2, h3, h4, h5⟩ := posAll_mem l 0 0 p hp
  have hat : At l m j q := ⟨rj, h0, by rw [← hpm, h2]; simp, .inl h1⟩
  obtain ⟨p1, p2, p3, p4⟩ := p
  have e2 : p2 = (j : Int) := by have : p2 = _ := h3; rw [this]; simp
  have e3 : p3 = (q : Int) := by have : p3 = _ := h4; rw [this]
  have e1 : p1 = m := hpm
  subst e1 e2 e3
  have hrjl : rj.length ≤ 1000000 := by
    have h6 := row_le' l rj (List.mem_of_getElem? h0)
    have := HS.out
    omega
  have hk : rj.getD q 0 = p4 := by rw [List.getD_eq_getElem?_getD, h5]; rfl
  refine hKK _ _ (remove_rest b p1 p4 base g c vs l w W (w.heap.size + 1 + 1) D j q rj HO.out HHB.out HS.out HHL.out hbase hBw hP hD hDw h0 h1 hrjl _ ?_)
  intro v' W' ho hbe
  refine ⟨v', ?_, ?_, hbe⟩
  · rw [remF_at hat h0, hk]
  · rw [remF_at hat h0]; exact ho
theorem remove_calls (b m : Int) (base : Nat) (v : Value) (l : List (List Int)) (w : World) (hown : OwnA w base v l) (hb : 2 ≤ b ∧ b ≤ 50) (hs : l.flatten.length ≤ 1000000) (hll : l.length ≤ 1000000) (hm : 0 ≤ m ∧ m < l.flatten.length) (hbase : base ≤ w.heap.size) :
    Calls Try.prog 56 #[.int .i64 b, v, .int .i64 m] w fun e w' => ∃ v', e = .returned (.tuple #[v', .int .i64 (remF b l m).2]) ∧ OwnA w' base v' (remF b l m).1 ∧ Below base w w' := by
  rcases hown with ⟨rfl, A, c, rfl⟩ | ⟨hne, vs, ho⟩
  · simp at hm; omega
  · exact remove_in b m base v vs l w ho hb hs hll hm hbase
end Go.Proofs.Ytjpobhdgfdeenaa.A

/- Contracts of functions of package array: what they return, in whatever memory the arguments lie. -/
namespace Go.Proofs.Ytjpobhdgfdeenaa.A
open Go.RowKit Go.Proofs.YtjpobhdgfdeenaaW.PrintWords Go.Maps

set_option maxHeartbeats 1000000 in
theorem sIndex_calls (A : Option Addr) (c : Nat) (xs : List Int) (x : Int) (w : World) (hx : Kd.C (Kd.int .i64) w A xs.length xs) :
    Calls Try.prog 70 #[.slice A xs.length c, .int .i64 x] w fun e w' => e = .returned (.int .i64 (idxF xs x)) ∧ w = w' := by
  have HX := Aside0.mk hx
  have hmx := (C_len hx).2
  clear hx
  have HS : Aside0 (idxF xs x = idxFrom x 0 (xs.drop 0)) := ⟨rfl⟩
  go_enter Try.func70, Try.ntmps70
  go_wp2
  go_loopg [8] xs.length (fun g v8 wr => ∃ (i : Nat), g = xs.length - i ∧ i ≤ xs.length ∧ v8 = .int .i64 i ∧ Aside0 (idxF xs x = idxFrom x i (xs.drop i)) ∧ w = wr)
  case atStart => exact ⟨0, rfl, Nat.zero_le _, rfl, HS, rfl⟩
  case round =>
    obtain ⟨i, hg, hi, rfl, HT, rfl⟩ := hrel
    have HG := Aside0.mk hg
    clear hg HS
    by_cases hlt : i < xs.length
    · obtain ⟨ad, y, hA, hdx, hcx⟩ := C_int HX.out i hlt
      subst hA
      have HD := Aside0.mk hdx
      clear hdx
      by_cases hxy : y = x
      · have hne : (x == y) = true := by simpa using hxy.symm
        have HE := Aside0.mk hxy
        clear hxy
        go_wp2
        go_ret
        exact ⟨ret_i (by rw [HT.out, HD.out, idxFrom, if_pos HE.out]), rfl⟩
      · have hne : (x == y) = false := by simpa using Ne.symm hxy
        have HE := Aside0.mk hxy
        clear hxy
        go_wp2
        go_roundg (xs.length - (i + 1))
        case measure => have := HG.out; omega
        case rel => exact ⟨i + 1, rfl, by omega, by go_num, ⟨by rw [HT.out, HD.out, idxFrom, if_neg HE.out]⟩, rfl⟩
    · go_wp2
      go_ret
      exact ⟨ret_i (by rw [HT.out, List.drop_eq_nil_of_le (by omega), idxFrom]), rfl⟩
theorem Contains_calls (A : Option Addr) (c : Nat) (xs : List Int) (x : Int) (w : World) (hx : Kd.C (Kd.int .i64) w A xs.length xs) :
    Calls Try.prog 58 #[.slice A xs.length c, .int .i64 x] w fun e w' => e = .returned (.bool (decide (x ∈ xs))) ∧ w = w' := by
  have HX := Aside0.mk hx
  clear hx
  go_enter Try.func58, Try.ntmps58
  go_wp2_with (go_at_call 70; refine (sIndex_calls _ _ _ _ _ HX.out).mono ?_; rintro e w' ⟨rfl, rfl⟩)
  go_ret
  exact ⟨ret_bool (by simp [idxF, idxFrom_mem]), rfl⟩
end Go.Proofs.Ytjpobhdgfdeenaa.A

/- Laws of rows of keys, without a program: a key put at an index, a key taken out; which rows are others, which stay below half. -/
set_option linter.unusedVariables false
namespace Go.Proofs.Ytjpobhdgfdeenaa.A
open Go.RowKit Go.Proofs.YtjpobhdgfdeenaaW.PrintWords Go.Maps

theorem split_len {l : List (List Int)} {j : Nat} {row : List Int} (h : l[j]? = some row) : ∃ pre post, l = pre ++ row :: post ∧ pre.length = j :=
  ⟨_, _, split_at h, by have := (List.getElem?_eq_some_iff.1 h).1; rw [List.length_take]; omega⟩
theorem set_mid {α : Type} (pre post : List α) (x y : α) : (pre ++ x :: post).set pre.length y = pre ++ y :: post := by
  rw [List.set_append_right _ _ (Nat.le_refl _), Nat.sub_self, List.set_cons_zero]
theorem erase_mid {α : Type} (pre post : List α) (x : α) : (pre ++ x :: post).eraseIdx pre.length = pre ++ post := by
  rw [List.eraseIdx_append_of_length_le (Nat.le_refl _), Nat.sub_self]; rfl
theorem getD_mid (pre post : List (List Int)) (x d : List Int) : (pre ++ x :: post).getD pre.length d = x := by
  simp [List.getD_eq_getElem?_getD]
theorem merge_mid (b : Int) (pre post : List (List Int)) (x y : List Int) : mergeL b (pre ++ x :: y :: post) pre.length = if ((x.length + y.length : Nat) : Int) ≤ b then some (pre ++ (x ++ y) :: post) else none := by
  have e1 := getD_mid pre (y :: post) x []
  have e2 : (pre ++ x :: y :: post).getD (pre.length + 1) [] = y := by
    simp [List.getD_eq_getElem?_getD]
  unfold mergeL
  rw [e1, e2, set_mid]
  have h3 : (pre ++ (x ++ y) :: y :: post).eraseIdx (pre.length + 1) = pre ++ (x ++ y) :: post := by
    have := erase_mid (pre ++ [x ++ y]) post y
    simpa using this
  rw [h3]
  by_cases h : ((x.length + y.length : Nat) : Int) ≤ b
  · rw [if_pos h, if_pos ⟨by simp, h⟩]
  · rw [if_neg h, if_neg (fun h' => h h'.2)]
/-- What becomes of rows of which one has lost a key. -/
inductive Rem (b : Int) (rj r : List Int) : Nat → List (List Int) → List (List Int) → Prop
  | gone (pre post) : r = [] → Rem b rj r pre.length (pre ++ rj :: post) (pre ++ post)
  | large (pre post) : r ≠ [] → (b + 1) / 2 ≤ (r.length : Int) → Rem b rj r pre.length (pre ++ rj :: post) (pre ++ r :: post)
  | alone (pre post) : r ≠ [] → (r.length : Int) < (b + 1) / 2 → (∀ s t, post = s :: t → b < ((r.length + s.length : Nat) : Int)) → (∀ t s, pre = t ++ [s] → b < ((s.length + r.length : Nat) : Int)) → Rem b rj r pre.length (pre ++ rj :: post) (pre ++ r :: post)
  | next (pre s t) : r ≠ [] → (r.length : Int) < (b + 1) / 2 → ((r.length + s.length : Nat) : Int) ≤ b → Rem b rj r pre.length (pre ++ rj :: s :: t) (pre ++ (r ++ s) :: t)
  | prev (t s post) : r ≠ [] → (r.length : Int) < (b + 1) / 2 → ((s.length + r.length : Nat) : Int) ≤ b → Rem b rj r (t.length + 1) (t ++ s :: rj :: post) (t ++ (s ++ r) :: post)
theorem merge_end (b : Int) (pre : List (List Int)) (x : List Int) : mergeL b (pre ++ [x]) pre.length = none := by
  unfold mergeL
  rw [if_neg (by simp)]
theorem remL_rem (b : Int) (l : List (List Int)) (j : Nat) (rj r : List Int) (h : l[j]? = some rj) : Rem b rj r j l (remL b l j r) := by
  obtain ⟨pre, post, rfl, rfl⟩ := split_len h
  unfold remL
  rw [set_mid, erase_mid]
  split
  · rename_i h0; exact .gone pre post h0
  · rename_i h0
    split
    · rename_i h1; exact .large pre post h0 h1
    · rename_i h1
      replace h1 : (r.length : Int) < (b + 1) / 2 := by omega
      have hprev : (∀ s t, post = s :: t → b < ((r.length + s.length : Nat) : Int)) → Rem b rj r pre.length (pre ++ rj :: post) (if pre.length = 0 then pre ++ r :: post else match mergeL b (pre ++ r :: post) (pre.length - 1) with
          | some x => x
          | none => pre ++ r :: post) := fun hpost => by
        by_cases hp : pre = []
        · subst hp
          exact .alone [] post h0 h1 hpost (fun t s e => by simp at e)
        · obtain ⟨t, s, rfl⟩ : ∃ t s, pre = t ++ [s] := ⟨pre.dropLast, pre.getLast hp, (List.dropLast_concat_getLast hp).symm⟩
          rw [if_neg (by simp)]
          have e1 : (t ++ [s] ++ r :: post) = t ++ s :: r :: post := by simp
          have e2 : (t ++ [s]).length - 1 = t.length := by simp
          rw [e1, e2, merge_mid]
          by_cases hs : ((s.length + r.length : Nat) : Int) ≤ b
          · rw [if_pos hs]
            have := Rem.prev (rj := rj) t s post h0 h1 hs
            simpa using this
          · rw [if_neg hs]
            have := Rem.alone (rj := rj) (t ++ [s]) post h0 h1 hpost (fun t' s' e => by
              have e3 : s = s' := by
                have := congrArg List.getLast? e
                simpa using this
              subst e3
              omega)
            simpa using this
      match post with
      | [] =>
        rw [merge_end]
        exact hprev (fun s t e => by cases e)
      | s :: t =>
        rw [merge_mid]
        by_cases hs : ((r.length + s.length : Nat) : Int) ≤ b
        · rw [if_pos hs]
          exact .next pre s t h0 h1 hs
        · rw [if_neg hs]
          exact hprev (fun s' t' e => by injection e with e1 e2; subst e1; omega)
theorem Rem.flat {b : Int} {rj r : List Int} {j : Nat} {l l' : List (List Int)} (h : Rem b rj r j l l') : l'.flatten = (l.take j).flatten ++ (r ++ (l.drop (j + 1)).flatten) := by
  have hd : ∀ (pre post : List (List Int)) (x : List Int), (pre ++ x :: post).take pre.length = pre ∧ (pre ++ x :: post).drop (pre.length + 1) = post := fun pre post x => ⟨by simp, by
    have : pre ++ x :: post = (pre ++ [x]) ++ post := by simp
    rw [this, List.drop_left' (by simp)]⟩
  cases h with
  | gone pre post h0 => rw [(hd pre post rj).1, (hd pre post rj).2]; simp [h0]
  | large pre post _ _ => rw [(hd pre post rj).1, (hd pre post rj).2]; simp
  | alone pre post _ _ _ _ => rw [(hd pre post rj).1, (hd pre post rj).2]; simp
  | next pre s t _ _ _ => rw [(hd pre (s :: t) rj).1, (hd pre (s :: t) rj).2]; simp
  | prev t s post _ _ _ =>
    have e1 : t ++ s :: rj :: post = (t ++ [s]) ++ rj :: post := by simp
    have e2 : t.length + 1 = (t ++ [s]).length := by simp
    rw [e1, e2, (hd (t ++ [s]) post rj).1, (hd (t ++ [s]) post rj).2]; simp
theorem Rem.rows {b : Int} {rj r : List Int} {j : Nat} {l l' : List (List Int)} (h : Rem b rj r j l l') (hl : Rows b l) (hr : r.length ≤ rj.length) : Rows b l' := by
  have hj : ∀ pre post, l = pre ++ rj :: post → (r.length : Int) ≤ b := fun pre post e => by
    have := (hl rj (by rw [e]; simp)).2
    omega
  cases h with
  | gone pre post h0 => exact fun x hx => hl x (by rw [List.mem_append] at hx ⊢; rcases hx with hx | hx; exact .inl hx; exact .inr (List.mem_cons_of_mem _ hx))
  | large pre post h0 h1 =>
    have := hj pre post rfl
    intro x hx
    rw [List.mem_append, List.mem_cons] at hx
    rcases hx with hx | rfl | hx
    · exact hl x (by simp [hx])
    · exact ⟨h0, this⟩
    · exact hl x (by simp [hx])
  | alone pre post h0 h1 _ _ =>
    have := hj pre post rfl
    intro x hx
    rw [List.mem_append, List.mem_cons] at hx
    rcases hx with hx | rfl | hx
    · exact hl x (by simp [hx])
    · exact ⟨h0, this⟩
    · exact hl x (by simp [hx])
  | next pre s t h0 h1 h2 =>
    intro x hx
    rw [List.mem_append, List.mem_cons] at hx
    rcases hx with hx | rfl | hx
    · exact hl x (by simp [hx])
    · exact ⟨by simp [h0], by rw [List.length_append]; exact h2⟩
    · exact hl x (by simp [hx])
  | prev t s post h0 h1 h2 =>
    intro x hx
    rw [List.mem_append, List.mem_cons] at hx
    rcases hx with hx | rfl | hx
    · exact hl x (by simp [hx])
    · exact ⟨by simp [h0], by rw [List.length_append]; exact h2⟩
    · exact hl x (by simp [hx])
/-- How many rows of a list are none of another one. -/
def apartF (x y : List (List Int)) : Nat := (x.filter (fun r => decide (r ∉ y))).length
theorem apart_app (a b y : List (List Int)) : apartF (a ++ b) y = apartF a y + apartF b y := by simp [apartF]
theorem apart_cons (r : List Int) (b y : List (List Int)) : apartF (r :: b) y ≤ 1 + apartF b y := by
  unfold apartF
  rw [List.filter_cons]
  split <;> simp <;> omega
theorem apart_zero {x y : List (List Int)} (h : ∀ r ∈ x, r ∈ y) : apartF x y = 0 := by
  unfold apartF
  rw [List.length_eq_zero_iff, List.filter_eq_nil_iff]
  intro r hr
  simp [h r hr]
theorem Rem.apart {b : Int} {rj r : List Int} {j : Nat} {l l' : List (List Int)} (h : Rem b rj r j l l') : apartF l' l ≤ 1 := by
  cases h with
  | gone pre post h0 => rw [apart_zero (fun x hx => by rw [List.mem_append] at hx ⊢; rcases hx with hx | hx; exact .inl hx; exact .inr (List.mem_cons_of_mem _ hx))]; omega
  | large pre post _ _ =>
    rw [apart_app, apart_zero (x := pre) (fun x hx => by simp [hx])]
    have := apart_cons r post (pre ++ rj :: post)
    rw [apart_zero (x := post) (fun x hx => by simp [hx])] at this
    omega
  | alone pre post _ _ _ _ =>
    rw [apart_app, apart_zero (x := pre) (fun x hx => by simp [hx])]
    have := apart_cons r post (pre ++ rj :: post)
    rw [apart_zero (x := post) (fun x hx => by simp [hx])] at this
    omega
  | next pre s t _ _ _ =>
    rw [apart_app, apart_zero (x := pre) (fun x hx => by simp [hx])]
    have := apart_cons (r ++ s) t (pre ++ rj :: s :: t)
    rw [apart_zero (x := t) (fun x hx => by simp [hx])] at this
    omega
  | prev t s post _ _ _ =>
    rw [apart_app, apart_zero (x := t) (fun x hx => by simp [hx])]
    have := apart_cons (s ++ r) post (t ++ s :: rj :: post)
    rw [apart_zero (x := post) (fun x hx => by simp [hx])] at this
    omega
/-- No two neighbours are both below half. -/
def HalfP (b : Int) : List (List Int) → Prop
  | [] => True
  | [_] => True
  | x :: y :: t => (b / 2 ≤ (x.length : Int) ∨ b / 2 ≤ (y.length : Int)) ∧ HalfP b (y :: t)
theorem half_iff (b : Int) : ∀ (l : List (List Int)), HalfP b l ↔ ∀ pre x y post, l = pre ++ x :: y :: post → b / 2 ≤ (x.length : Int) ∨ b / 2 ≤ (y.length : Int)
  | [] => ⟨fun _ pre x y post e => by simp at e, fun _ => trivial⟩
  | [z] => ⟨fun _ pre x y post e => by have := congrArg List.length e; simp at this; omega, fun _ => trivial⟩
  | z :: u :: t => by
    rw [HalfP, half_iff b (u :: t)]
    refine ⟨fun ⟨h1, h2⟩ pre x y post e => ?_, fun h => ⟨h [] z u t rfl, fun pre x y post e => h (z :: pre) x y post (by rw [e]; rfl)⟩⟩
    match pre with
    | [] => injection e with e1 e2; injection e2 with e2 e3; subst e1 e2; exact h1
    | p :: pre => injection e with e1 e2; exact h2 pre x y post e2
theorem half_app {b : Int} : ∀ {pre post : List (List Int)}, HalfP b (pre ++ post) ↔ HalfP b pre ∧ HalfP b post ∧ ∀ x y, pre.getLast? = some x → post.head? = some y → b / 2 ≤ (x.length : Int) ∨ b / 2 ≤ (y.length : Int)
  | [], post => by simp [HalfP]
  | [z], [] => by simp [HalfP]
  | [z], u :: t => by simp [HalfP, And.comm]
  | z :: z' :: t, post => by
    have := @half_app b (z' :: t) post
    simp only [List.cons_append] at this
    simp only [List.cons_append, HalfP, this, List.getLast?_cons_cons]
    constructor
    · rintro ⟨h1, h2, h3, h4⟩; exact ⟨⟨h1, h2⟩, h3, h4⟩
    · rintro ⟨⟨h1, h2⟩, h3, h4⟩; exact ⟨h1, h2, h3, h4⟩
theorem half_mid {b : Int} {pre post : List (List Int)} {x : List Int} : HalfP b (pre ++ x :: post) ↔ HalfP b pre ∧ HalfP b post ∧ (∀ s, pre.getLast? = some s → b / 2 ≤ (s.length : Int) ∨ b / 2 ≤ (x.length : Int)) ∧ (∀ s, post.head? = some s → b / 2 ≤ (x.length : Int) ∨ b / 2 ≤ (s.length : Int)) := by
  rw [half_app]
  have h2 : HalfP b (x :: post) ↔ HalfP b post ∧ (∀ s, post.head? = some s → b / 2 ≤ (x.length : Int) ∨ b / 2 ≤ (s.length : Int)) := by
    cases post with
    | nil => simp [HalfP]
    | cons y t => simp [HalfP, And.comm]
  rw [h2]
  simp only [List.head?_cons, Option.some.injEq]
  constructor
  · rintro ⟨h1, ⟨h2, h3⟩, h4⟩; exact ⟨h1, h2, fun s hs => h4 s x hs rfl, h3⟩
  · rintro ⟨h1, h2, h3, h4⟩; exact ⟨h1, ⟨h2, h4⟩, fun s y hs e => e ▸ h3 s hs⟩
/-- A row in the midst that is large enough, or whose neighbours are. -/
theorem half_put {b : Int} {pre post : List (List Int)} {x : List Int} (h1 : HalfP b pre) (h2 : HalfP b post) (h : b / 2 ≤ (x.length : Int) ∨ (∀ s ∈ pre, b / 2 ≤ (s.length : Int)) ∧ (∀ s ∈ post, b / 2 ≤ (s.length : Int)) ∨ ((∀ s, pre.getLast? = some s → b / 2 ≤ (s.length : Int)) ∧ ∀ s, post.head? = some s → b / 2 ≤ (s.length : Int))) : HalfP b (pre ++ x :: post) := by
  rw [half_mid]
  refine ⟨h1, h2, fun s hs => ?_, fun s hs => ?_⟩
  · rcases h with h | ⟨h, _⟩ | ⟨h, _⟩
    · exact .inr h
    · exact .inl (h s (List.mem_of_getLast? hs))
    · exact .inl (h s hs)
  · rcases h with h | ⟨_, h⟩ | ⟨_, h⟩
    · exact .inl h
    · exact .inr (h s (List.mem_of_head? hs))
    · exact .inr (h s hs)
theorem Rem.half {b : Int} {rj r : List Int} {j : Nat} {l l' : List (List Int)} (h : Rem b rj r j l l') (hb : 2 ≤ b) (hl : HalfP b l) (hrow : Rows b l) (hr : r.length + 1 = rj.length) : HalfP b l' := by
  cases h with
  | gone pre post h0 =>
    subst h0
    rw [half_mid] at hl
    rw [half_app]
    obtain ⟨h1, h2, h3, h4⟩ := hl
    refine ⟨h1, h2, fun x y hx hy => ?_⟩
    have h5 := h3 x hx
    have hx0 := List.length_pos_iff.2 (hrow x (List.mem_append.2 (.inl (List.mem_of_getLast? hx)))).1
    simp only [List.length_nil, Nat.zero_add] at hr
    rw [← hr] at h5
    omega
  | large pre post h0 h1 =>
    rw [half_mid] at hl
    exact half_put hl.1 hl.2.1 (.inl (by omega))
  | alone pre post h0 h1 h2 h3 =>
    rw [half_mid] at hl
    refine half_put hl.1 hl.2.1 (.inr (.inr ⟨fun s hs => ?_, fun s hs => ?_⟩))
    · obtain ⟨t, rfl⟩ := List.getLast?_eq_some_iff.1 hs
      have := h3 t s rfl
      omega
    · obtain ⟨t, rfl⟩ := List.head?_eq_some_iff.1 hs
      have := h2 s t rfl
      omega
  | next pre s t h0 h1 h2 =>
    rw [half_mid] at hl
    obtain ⟨h3, h4, h5, h6⟩ := hl
    have h7 := h6 s rfl
    have h8 : HalfP b t := by
      have := (half_mid (pre := []) (x := s) (post := t)).1 h4
      exact this.2.1
    have hs0 := List.length_pos_iff.2 (hrow s (by simp)).1
    exact half_put h3 h8 (.inl (by rw [List.length_append]; omega))
  | prev t s post h0 h1 h2 =>
    rw [half_mid] at hl
    obtain ⟨h3, h4, h5, h6⟩ := hl
    rw [show rj :: post = [] ++ rj :: post from rfl, half_mid] at h4
    have h7 := h6 rj rfl
    have hs0 := List.length_pos_iff.2 (hrow s (by simp)).1
    exact half_put h3 h4.2.1 (.inl (by rw [List.length_append]; omega))
/-- What becomes of rows of which one has won a key. -/
inductive Ins (b : Int) (rj r : List Int) : List (List Int) → List (List Int) → Prop
  | one (pre post) : (r.length : Int) ≤ b → Ins b rj r (pre ++ rj :: post) (pre ++ r :: post)
  | two (pre post) : b < (r.length : Int) → Ins b rj r (pre ++ rj :: post) (pre ++ r.take (halfN b) :: r.drop (halfN b) :: post)
theorem insF_ins (b : Int) (l : List (List Int)) (j : Nat) (rj r : List Int) (h : l[j]? = some rj) : Ins b rj r l (insF b l j r) := by
  have hs := split_at h
  obtain ⟨pre, post, e, rfl⟩ := split_len h
  unfold insF
  have e1 : l.take pre.length = pre := by rw [e]; simp
  have e2 : l.drop (pre.length + 1) = post := by
    have : pre ++ rj :: post = (pre ++ [rj]) ++ post := by simp
    rw [e, this, List.drop_left' (by simp)]
  rw [e1, e2, e, set_mid]
  split
  · rename_i h0; exact .one pre post h0
  · rename_i h0; exact .two pre post (by omega)
theorem Ins.apart {b : Int} {rj r : List Int} {l l' : List (List Int)} (h : Ins b rj r l l') : apartF l' l ≤ 2 := by
  cases h with
  | one pre post _ =>
    rw [apart_app, apart_zero (x := pre) (fun x hx => by simp [hx])]
    have := apart_cons r post (pre ++ rj :: post)
    rw [apart_zero (x := post) (fun x hx => by simp [hx])] at this
    omega
  | two pre post _ =>
    rw [apart_app, apart_zero (x := pre) (fun x hx => by simp [hx])]
    have h1 := apart_cons (r.take (halfN b)) (r.drop (halfN b) :: post) (pre ++ rj :: post)
    have := apart_cons (r.drop (halfN b)) post (pre ++ rj :: post)
    rw [apart_zero (x := post) (fun x hx => by simp [hx])] at this
    omega
theorem Ins.half {b : Int} {rj r : List Int} {l l' : List (List Int)} (h : Ins b rj r l l') (hb : 2 ≤ b) (hl : HalfP b l) (hr : r.length = rj.length + 1) : HalfP b l' := by
  cases h with
  | one pre post _ =>
    rw [half_mid] at hl ⊢
    obtain ⟨h3, h4, h5, h6⟩ := hl
    refine ⟨h3, h4, fun s hs => ?_, fun s hs => ?_⟩
    · have := h5 s hs; omega
    · have := h6 s hs; omega
  | two pre post h0 =>
    rw [half_mid] at hl
    obtain ⟨h3, h4, h5, h6⟩ := hl
    have hN : halfN b = ((b + 2) / 2).toNat := rfl
    have e1 : (r.take (halfN b)).length = min (halfN b) r.length := List.length_take
    have e2 : (r.drop (halfN b)).length = r.length - halfN b := List.length_drop
    refine half_put h3 (half_put (pre := []) trivial h4 (.inl (by rw [e2]; omega))) (.inl (by rw [e1]; omega))
theorem remF_rem {b m : Int} {l : List (List Int)} (h0 : 0 ≤ m) (h1 : m < l.flatten.length) : ∃ j q rj, At l m j q ∧ l[j]? = some rj ∧ q < rj.length ∧ (remF b l m).2 = rj.getD q 0 ∧ Rem b rj (rj.eraseIdx q) j l (remF b l m).1 := by
  obtain ⟨p, hp, he⟩ := posAll_all l 0 0 m h0 (by omega)
  obtain ⟨j, q, rj, g0, g1, g2, _, _, g5⟩ := posAll_mem l 0 0 p hp
  have hat : At l m j q := ⟨rj, g0, by rw [← he, g2]; simp, .inl g1⟩
  exact ⟨j, q, rj, hat, g0, g1, by rw [remF_at hat g0], by rw [remF_at hat g0]; exact remL_rem b l j rj _ g0⟩
theorem remF_flat {b m : Int} {l : List (List Int)} (h0 : 0 ≤ m) (h1 : m < l.flatten.length) : (remF b l m).1.flatten = l.flatten.eraseIdx m.toNat ∧ (remF b l m).2 = l.flatten.getD m.toNat 0 := by
  obtain ⟨j, q, rj, ⟨row, hr, hm, _⟩, hj, hq, h2, hrem⟩ := remF_rem (b := b) h0 h1
  obtain rfl : row = rj := by rw [hr] at hj; injection hj
  have hs := split_at hr
  have hf : l.flatten = (l.take j).flatten ++ (row ++ (l.drop (j + 1)).flatten) := by
    conv => lhs; rw [hs]
    simp
  have hmn : m.toNat = (l.take j).flatten.length + q := by omega
  refine ⟨?_, ?_⟩
  · have hl : remF b l m = (remL b l j (row.eraseIdx q), row.getD q 0) := remF_at ⟨row, hr, hm, .inl hq⟩ hr
    rw [hf, hmn, List.eraseIdx_append_of_length_le (by omega), Nat.add_sub_cancel_left, List.eraseIdx_append_of_lt_length hq, hl]
    exact (remL_rem b l j row (row.eraseIdx q) hr).flat
  · rw [h2, hf, hmn]
    simp [List.getD_eq_getElem?_getD, List.getElem?_append_right, List.getElem?_append_left hq]
theorem remF_rows {b m : Int} {l : List (List Int)} (h0 : 0 ≤ m) (h1 : m < l.flatten.length) (hl : Rows b l) : Rows b (remF b l m).1 := by
  obtain ⟨j, q, rj, _, _, _, _, hrem⟩ := remF_rem (b := b) h0 h1
  exact hrem.rows hl (List.length_eraseIdx_le _ _)
theorem remF_apart {b m : Int} {l : List (List Int)} (h0 : 0 ≤ m) (h1 : m < l.flatten.length) : apartF (remF b l m).1 l ≤ 1 := by
  obtain ⟨j, q, rj, _, _, _, _, hrem⟩ := remF_rem (b := b) h0 h1
  exact hrem.apart
theorem remF_half {b m : Int} {l : List (List Int)} (h0 : 0 ≤ m) (h1 : m < l.flatten.length) (hb : 2 ≤ b) (hl : Rows b l) (hh : HalfP b l) : HalfP b (remF b l m).1 := by
  obtain ⟨j, q, rj, _, _, hq, _, hrem⟩ := remF_rem (b := b) h0 h1
  exact hrem.half hb hh hl (by rw [List.length_eraseIdx_of_lt hq]; omega)
theorem putF_apart {b m k : Int} {l : List (List Int)} (h0 : 0 ≤ m) (h1 : m ≤ l.flatten.length) : apartF (putF b l m k) l ≤ 2 := by
  by_cases hne : l = []
  · subst hne
    simp [putF, apartF]
  · obtain ⟨j, q, ha⟩ := At_some hne h0 h1
    obtain ⟨row, hr, hm, hq⟩ := ha
    rw [putF_at ⟨row, hr, hm, hq⟩ hr]
    exact (insF_ins b l j row _ hr).apart
theorem putF_half {b m k : Int} {l : List (List Int)} (h0 : 0 ≤ m) (h1 : m ≤ l.flatten.length) (hb : 2 ≤ b) (hh : HalfP b l) : HalfP b (putF b l m k) := by
  by_cases hne : l = []
  · subst hne
    simp [putF, HalfP]
  · obtain ⟨j, q, ha⟩ := At_some hne h0 h1
    obtain ⟨row, hr, hm, hq⟩ := ha
    rw [putF_at ⟨row, hr, hm, hq⟩ hr]
    exact (insF_ins b l j row _ hr).half hb hh (by rw [ins_len row q (by omega) k])
end Go.Proofs.Ytjpobhdgfdeenaa.A

/- Contracts of functions of package array: what they return, in whatever memory the arguments lie. -/
namespace Go.Proofs.Ytjpobhdgfdeenaa.A
open Go.RowKit Go.Proofs.YtjpobhdgfdeenaaW.PrintWords Go.Maps

theorem OwnA.ra {w : World} {base : Nat} {v : Value} {l : List (List Int)} (h : OwnA w base v l) : RA w v l := by
  rcases h with ⟨rfl, A0, c0, e0⟩ | ⟨_, vs, h2⟩
  · exact ⟨A0, c0, e0, Nat.zero_le _, rfl, by simp, fun h => absurd h (Nat.lt_irrefl _)⟩
  · exact h2.ra
theorem contains_is {xs : List Int} {x : Int} {r : Bool} (h : decide (x ∈ xs) = r) (A : Option Addr) (c : Nat) (w : World) (hx : Kd.C (Kd.int .i64) w A xs.length xs) :
    Calls Try.prog 58 #[.slice A xs.length c, .int .i64 x] w fun e w' => e = .returned (.bool r) ∧ w = w' := by
  subst h
  exact Contains_calls A c xs x w hx
def putAF (b : Int) (l : List (List Int)) (m k : Int) : List (List Int) × Int :=
  if validB b l = true ∧ keyB k = true then if m < 0 ∨ (l.flatten.length : Int) < m then ([], 7) else if k ∈ l.flatten then ([], 6) else if 500 ≤ l.flatten.length then ([], 4) else (putF b l m k, 0) else ([], 1)
def takeF (b : Int) (l : List (List Int)) (m : Int) : (List (List Int) × Int) × Int :=
  if validB b l = true then if m < 0 ∨ (l.flatten.length : Int) ≤ m then (([], 0), 7) else (remF b l m, 0) else (([], 0), 1)
def shiftF (b : Int) (l : List (List Int)) (f t : Int) : List (List Int) × Int :=
  if validB b l = true then if f < 0 ∨ (l.flatten.length : Int) ≤ f ∨ t < 0 ∨ (l.flatten.length : Int) ≤ t then ([], 7) else (putF b (remF b l f).1 t (remF b l f).2, 0) else ([], 1)
theorem ret_pair' {v : Value} {F : List (List Int) × Int} {x : List (List Int)} {n : Int} (h : F = (x, n)) : Ending.returned (.tuple #[v, .int .i64 n]) = Ending.returned (.tuple #[v, .int .i64 F.2]) := by rw [h]
theorem valid_arr {b : Int} {l : List (List Int)} (h : validB b l = true) : (2 ≤ b ∧ b ≤ 50) ∧ Rows b l ∧ l.flatten.length ≤ 500 ∧ l.length ≤ 500 := by
  have ha := (validB_iff b l).1 h
  have hr : Rows b l := ha.rows
  exact ⟨ha.room, hr, ha.few, Nat.le_trans (rows_len hr) ha.few⟩
set_option maxRecDepth 100000 in
set_option maxHeartbeats 2000000 in
theorem Put_calls (b m k : Int) (A : Option Addr) (c : Nat) (l : List (List Int)) (w : World) (hr : Kd.C (Kd.slice 3 (Kd.int .i64)) w A l.length l) :
    Calls Try.prog 33 #[.int .i64 b, .slice A l.length c, .int .i64 m, .int .i64 k] w fun e w' => ∃ v, e = .returned (.tuple #[v, .int .i64 (putAF b l m k).2]) ∧ RA w' v (putAF b l m k).1 ∧ Below w.heap.size w w' := by
  have HR := Aside0.mk hr
  clear hr
  cases hv : validB b l with
  | false =>
    have HF : Aside0 (putAF b l m k = ([], 1)) := ⟨by unfold putAF; rw [if_neg (by rw [hv]; simp)]⟩
    have HV := Aside0.mk hv
    clear hv
    go_enter Try.func33, Try.ntmps33
    go_wp2_with (go_at_call 15; go_must (refine (valid_is HV.out _ _ _ HR.out).mono ?_; rintro e w1 ⟨rfl, hb⟩))
    go_ret2
    exact ⟨_, ret_pair' HF.out, by rw [HF.out]; exact RA_nil _, hb⟩
  | true =>
    cases hk : keyB k with
    | false =>
      have HF : Aside0 (putAF b l m k = ([], 1)) := ⟨by unfold putAF; rw [if_neg (by rw [hk]; simp)]⟩
      have HV := Aside0.mk hv
      have HK := Aside0.mk hk
      clear hv hk
      go_enter Try.func33, Try.ntmps33
      go_wp2_with (first | (go_at_call 15; go_must (refine (valid_is HV.out _ _ _ HR.out).mono ?_; rintro e w1 ⟨rfl, hb⟩)) | (go_at_call 39; go_must (refine (key_is HK.out _).mono ?_; rintro e w' ⟨rfl, rfl⟩)))
      go_ret2
      exact ⟨_, ret_pair' HF.out, by rw [HF.out]; exact RA_nil _, hb⟩
    | true =>
      obtain ⟨hb2, hrows, hfew, hlen⟩ := valid_arr hv
      have HF : Aside0 (putAF b l m k = if m < 0 ∨ (l.flatten.length : Int) < m then ([], 7) else if k ∈ l.flatten then ([], 6) else if 500 ≤ l.flatten.length then ([], 4) else (putF b l m k, 0)) := ⟨by unfold putAF; rw [if_pos ⟨hv, hk⟩]⟩
      have HLI := fun W h => Aside0.mk (keys_is (b := b) (l := l) A c W (by omega) rfl h)
      have HOW := fun W h => Aside0.mk (owned_calls A c l W h (by omega) (fun x hx => ⟨(hrows x hx).1, by have := (hrows x hx).2; omega⟩))
      have HIN := fun W base v h h1 h2 => Aside0.mk (insert_calls b m k base v l W h hb2 (by omega) (by omega) h1 h2)
      have HV := Aside0.mk hv
      have HK := Aside0.mk hk
      clear hv hk hrows hb2
      have HFL := Aside0.mk (rfl : l.flatten = l.flatten)
      generalize hL : l.flatten = L at HLI hfew HF HIN
      clear HFL hL
      by_cases h1 : m < 0
      · have HF' : Aside0 (putAF b l m k = ([], 7)) := ⟨by rw [HF.out, if_pos (.inl h1)]⟩
        clear HF
        go_enter Try.func33, Try.ntmps33
        go_wp2_with (first | (go_at_call 15; go_must (refine (valid_is HV.out _ _ _ HR.out).mono ?_; rintro e w1 ⟨rfl, hb⟩)) | (go_at_call 39; go_must (refine (key_is HK.out _).mono ?_; rintro e w' ⟨rfl, rfl⟩)) | (go_at_call 46; go_must (refine (HLI _ (Kd.C_below HR.out hb)).out.mono ?_; rintro e w2 ⟨AK, cK, rfl, hCK, hb2⟩; have HCK := Aside0.mk hCK; have hbK := hb.trans (hb2.mono hb.size); clear hCK hb2)))
        go_ret2
        exact ⟨_, ret_pair' HF'.out, by rw [HF'.out]; exact RA_nil _, hbK⟩
      · by_cases h2 : (L.length : Int) < m
        · have HF' : Aside0 (putAF b l m k = ([], 7)) := ⟨by rw [HF.out, if_pos (.inr h2)]⟩
          clear HF
          go_enter Try.func33, Try.ntmps33
          go_wp2_with (first | (go_at_call 15; go_must (refine (valid_is HV.out _ _ _ HR.out).mono ?_; rintro e w1 ⟨rfl, hb⟩)) | (go_at_call 39; go_must (refine (key_is HK.out _).mono ?_; rintro e w' ⟨rfl, rfl⟩)) | (go_at_call 46; go_must (refine (HLI _ (Kd.C_below HR.out hb)).out.mono ?_; rintro e w2 ⟨AK, cK, rfl, hCK, hb2⟩; have HCK := Aside0.mk hCK; have hbK := hb.trans (hb2.mono hb.size); clear hCK hb2)))
          go_ret2
          exact ⟨_, ret_pair' HF'.out, by rw [HF'.out]; exact RA_nil _, hbK⟩
        · have hmm : 0 ≤ m ∧ m ≤ L.length := by omega
          cases hx : decide (k ∈ L) with
          | true =>
            have HX := Aside0.mk hx
            have HF' : Aside0 (putAF b l m k = ([], 6)) := ⟨by rw [HF.out, if_neg (by omega), if_pos (of_decide_eq_true hx)]⟩
            clear HF hx
            go_enter Try.func33, Try.ntmps33
            go_wp2_with (first | (go_at_call 15; go_must (refine (valid_is HV.out _ _ _ HR.out).mono ?_; rintro e w1 ⟨rfl, hb⟩)) | (go_at_call 39; go_must (refine (key_is HK.out _).mono ?_; rintro e w' ⟨rfl, rfl⟩)) | (go_at_call 46; go_must (refine (HLI _ (Kd.C_below HR.out hb)).out.mono ?_; rintro e w2 ⟨AK, cK, rfl, hCK, hb2⟩; have HCK := Aside0.mk hCK; have hbK := hb.trans (hb2.mono hb.size); clear hCK hb2)) | (go_at_call 58; go_must (refine (contains_is HX.out _ _ _ HCK.out).mono ?_; rintro e w' ⟨rfl, rfl⟩)))
            go_ret2
            exact ⟨_, ret_pair' HF'.out, by rw [HF'.out]; exact RA_nil _, hbK⟩
          | false =>
            have HX := Aside0.mk hx
            by_cases h5 : 500 ≤ L.length
            · have HF' : Aside0 (putAF b l m k = ([], 4)) := ⟨by rw [HF.out, if_neg (by omega), if_neg (of_decide_eq_false hx), if_pos h5]⟩
              clear HF hx
              have h5' : (500 : Int) ≤ (L.length : Int) := by omega
              go_enter Try.func33, Try.ntmps33
              go_wp2_with (first | (go_at_call 15; go_must (refine (valid_is HV.out _ _ _ HR.out).mono ?_; rintro e w1 ⟨rfl, hb⟩)) | (go_at_call 39; go_must (refine (key_is HK.out _).mono ?_; rintro e w' ⟨rfl, rfl⟩)) | (go_at_call 46; go_must (refine (HLI _ (Kd.C_below HR.out hb)).out.mono ?_; rintro e w2 ⟨AK, cK, rfl, hCK, hb2⟩; have HCK := Aside0.mk hCK; have hbK := hb.trans (hb2.mono hb.size); clear hCK hb2)) | (go_at_call 58; go_must (refine (contains_is HX.out _ _ _ HCK.out).mono ?_; rintro e w' ⟨rfl, rfl⟩)))
              go_ret2
              exact ⟨_, ret_pair' HF'.out, by rw [HF'.out]; exact RA_nil _, hbK⟩
            · have HF' : Aside0 (putAF b l m k = (putF b l m k, 0)) := ⟨by rw [HF.out, if_neg (by omega), if_neg (of_decide_eq_false hx), if_neg h5]⟩
              clear HF hx
              have h5' : ¬ ((500 : Int) ≤ (L.length : Int)) := by omega
              go_enter Try.func33, Try.ntmps33
              go_wp2_with (first | (go_at_call 15; go_must (refine (valid_is HV.out _ _ _ HR.out).mono ?_; rintro e w1 ⟨rfl, hb⟩)) | (go_at_call 39; go_must (refine (key_is HK.out _).mono ?_; rintro e w' ⟨rfl, rfl⟩)) | (go_at_call 46; go_must (refine (HLI _ (Kd.C_below HR.out hb)).out.mono ?_; rintro e w2 ⟨AK, cK, rfl, hCK, hb2⟩; have HCK := Aside0.mk hCK; have hbK := hb.trans (hb2.mono hb.size); clear hCK hb2)) | (go_at_call 58; go_must (refine (contains_is HX.out _ _ _ HCK.out).mono ?_; rintro e w' ⟨rfl, rfl⟩)) | (go_at_call 57; go_must (refine (HOW _ (Kd.C_below HR.out hbK)).out.mono ?_; rintro e w3 ⟨v3, rfl, ho3, hb3⟩; have HO3 := Aside0.mk ho3; have hbO := hbK.trans (hb3.mono hbK.size); have hs3 := hb3.size; clear ho3 hb3)) | (go_at_call 41; go_must (refine (HIN _ _ _ HO3.out hmm hs3).out.mono ?_; rintro e w4 ⟨v4, vs4, rfl, ho4, hb4⟩; have HO4 := Aside0.mk ho4.ra; have hbP := hbO.trans (hb4.mono hbK.size); clear ho4 hb4)))
              go_ret2
              exact ⟨_, ret_pair' HF'.out, by rw [HF'.out]; exact HO4.out, hbP⟩
end Go.Proofs.Ytjpobhdgfdeenaa.A

/- Contracts of functions of package array: what they return, in whatever memory the arguments lie. -/
namespace Go.Proofs.Ytjpobhdgfdeenaa.A
open Go.RowKit Go.Proofs.YtjpobhdgfdeenaaW.PrintWords Go.Maps

theorem remF_size {b m : Int} {l : List (List Int)} (h0 : 0 ≤ m) (h1 : m < l.flatten.length) (hl : Rows b l) : (remF b l m).1.flatten.length + 1 = l.flatten.length ∧ (remF b l m).1.length ≤ l.flatten.length := by
  have h2 := (remF_flat (b := b) h0 h1).1
  have h3 : (remF b l m).1.flatten.length + 1 = l.flatten.length := by rw [h2, List.length_eraseIdx_of_lt (by omega)]; omega
  have h4 := rows_len (remF_rows h0 h1 hl)
  exact ⟨h3, by omega⟩
theorem ret_trip {v : Value} {F : (List (List Int) × Int) × Int} {x : List (List Int)} {k n : Int} (h : F = ((x, k), n)) : Ending.returned (.tuple #[v, .int .i64 k, .int .i64 n]) = Ending.returned (.tuple #[v, .int .i64 F.1.2, .int .i64 F.2]) := by rw [h]
theorem ret_trip' {v : Value} {F : (List (List Int) × Int) × Int} {X : List (List Int) × Int} {n : Int} (h : F = (X, n)) : Ending.returned (.tuple #[v, .int .i64 X.2, .int .i64 n]) = Ending.returned (.tuple #[v, .int .i64 F.1.2, .int .i64 F.2]) := by rw [h]
set_option maxRecDepth 100000 in
set_option maxHeartbeats 2000000 in
theorem Take_calls (b m : Int) (A : Option Addr) (c : Nat) (l : List (List Int)) (w : World) (hr : Kd.C (Kd.slice 3 (Kd.int .i64)) w A l.length l) :
    Calls Try.prog 32 #[.int .i64 b, .slice A l.length c, .int .i64 m] w fun e w' => ∃ v, e = .returned (.tuple #[v, .int .i64 (takeF b l m).1.2, .int .i64 (takeF b l m).2]) ∧ RA w' v (takeF b l m).1.1 ∧ Below w.heap.size w w' := by
  have HR := Aside0.mk hr
  clear hr
  cases hv : validB b l with
  | false =>
    have HF : Aside0 (takeF b l m = (([], 0), 1)) := ⟨by unfold takeF; rw [if_neg (by rw [hv]; simp)]⟩
    have HV := Aside0.mk hv
    clear hv
    go_enter Try.func32, Try.ntmps32
    go_wp2_with (first | (go_at_call 15; go_must (refine (valid_is HV.out _ _ _ HR.out).mono ?_; rintro e w1 ⟨rfl, hb⟩)))
    go_ret3
    exact ⟨_, ret_trip HF.out, by rw [HF.out]; exact RA_nil _, hb⟩
  | true =>
    obtain ⟨hb2, hrows, hfew, hlen⟩ := valid_arr hv
    have HF : Aside0 (takeF b l m = if m < 0 ∨ (l.flatten.length : Int) ≤ m then (([], 0), 7) else (remF b l m, 0)) := ⟨by unfold takeF; rw [if_pos hv]⟩
    have HLI := fun W h => Aside0.mk (keys_is (b := b) (l := l) A c W (by omega) rfl h)
    have HOW := fun W h => Aside0.mk (owned_calls A c l W h (by omega) (fun x hx => ⟨(hrows x hx).1, by have := (hrows x hx).2; omega⟩))
    have HRM := fun hm => fun W base v h h1 => Aside0.mk (remove_calls b m base v l W h hb2 (by omega) (by omega) hm h1)
    have HV := Aside0.mk hv
    clear hv hrows hb2
    generalize hL : l.flatten = L at HLI hfew HF HRM
    clear hL
    by_cases h1 : m < 0
    · have HF' : Aside0 (takeF b l m = (([], 0), 7)) := ⟨by rw [HF.out, if_pos (.inl h1)]⟩
      clear HF HRM
      go_enter Try.func32, Try.ntmps32
      go_wp2_with (first | (go_at_call 15; go_must (refine (valid_is HV.out _ _ _ HR.out).mono ?_; rintro e w1 ⟨rfl, hb⟩)))
      go_ret3
      exact ⟨_, ret_trip HF'.out, by rw [HF'.out]; exact RA_nil _, hb⟩
    · by_cases h2 : (L.length : Int) ≤ m
      · have HF' : Aside0 (takeF b l m = (([], 0), 7)) := ⟨by rw [HF.out, if_pos (.inr h2)]⟩
        clear HF HRM
        go_enter Try.func32, Try.ntmps32
        go_wp2_with (first | (go_at_call 15; go_must (refine (valid_is HV.out _ _ _ HR.out).mono ?_; rintro e w1 ⟨rfl, hb⟩)) | (go_at_call 46; go_must (refine (HLI _ (Kd.C_below HR.out hb)).out.mono ?_; rintro e w2 ⟨AK, cK, rfl, hCK, hb2⟩; have HCK := Aside0.mk hCK; have hbK := hb.trans (hb2.mono hb.size); clear hCK hb2)))
        go_ret3
        exact ⟨_, ret_trip HF'.out, by rw [HF'.out]; exact RA_nil _, hbK⟩
      · have HF' : Aside0 (takeF b l m = (remF b l m, 0)) := ⟨by rw [HF.out, if_neg (by omega)]⟩
        have h3 : 0 ≤ m := by omega
        have h4 : m < L.length := by omega
        replace HRM := HRM ⟨h3, h4⟩
        clear HF
        go_enter Try.func32, Try.ntmps32
        go_wp2_with (first | (go_at_call 15; go_must (refine (valid_is HV.out _ _ _ HR.out).mono ?_; rintro e w1 ⟨rfl, hb⟩)) | (go_at_call 46; go_must (refine (HLI _ (Kd.C_below HR.out hb)).out.mono ?_; rintro e w2 ⟨AK, cK, rfl, hCK, hb2⟩; have HCK := Aside0.mk hCK; have hbK := hb.trans (hb2.mono hb.size); clear hCK hb2)) | (go_at_call 57; go_must (refine (HOW _ (Kd.C_below HR.out hbK)).out.mono ?_; rintro e w3 ⟨v3, rfl, ho3, hb3⟩; have HO3 := Aside0.mk ho3; have hbO := hbK.trans (hb3.mono hbK.size); have hs3 := hb3.size; clear ho3 hb3)) | (go_at_call 56; go_must (refine (HRM _ _ _ HO3.out hs3).out.mono ?_; rintro e w4 ⟨v4, rfl, ho4, hb4⟩; have HO4 := Aside0.mk ho4; have hbP := hbO.trans (hb4.mono hbK.size); have hs4 := Nat.le_trans hs3 hb4.size; clear ho4 hb4)))
        go_ret3
        exact ⟨_, ret_trip' HF'.out, by rw [HF'.out]; exact HO4.out.ra, hbP⟩
set_option maxRecDepth 100000 in
set_option maxHeartbeats 2000000 in
theorem Shift_calls (b f t : Int) (A : Option Addr) (c : Nat) (l : List (List Int)) (w : World) (hr : Kd.C (Kd.slice 3 (Kd.int .i64)) w A l.length l) :
    Calls Try.prog 37 #[.int .i64 b, .slice A l.length c, .int .i64 f, .int .i64 t] w fun e w' => ∃ v, e = .returned (.tuple #[v, .int .i64 (shiftF b l f t).2]) ∧ RA w' v (shiftF b l f t).1 ∧ Below w.heap.size w w' := by
  have HR := Aside0.mk hr
  clear hr
  cases hv : validB b l with
  | false =>
    have HF : Aside0 (shiftF b l f t = ([], 1)) := ⟨by unfold shiftF; rw [if_neg (by rw [hv]; simp)]⟩
    have HV := Aside0.mk hv
    clear hv
    go_enter Try.func37, Try.ntmps37
    go_wp2_with (first | (go_at_call 15; go_must (refine (valid_is HV.out _ _ _ HR.out).mono ?_; rintro e w1 ⟨rfl, hb⟩)))
    go_ret2
    exact ⟨_, ret_pair' HF.out, by rw [HF.out]; exact RA_nil _, hb⟩
  | true =>
    obtain ⟨hb2, hrows, hfew, hlen⟩ := valid_arr hv
    have HF : Aside0 (shiftF b l f t = if f < 0 ∨ (l.flatten.length : Int) ≤ f ∨ t < 0 ∨ (l.flatten.length : Int) ≤ t then ([], 7) else (putF b (remF b l f).1 t (remF b l f).2, 0)) := ⟨by unfold shiftF; rw [if_pos hv]⟩
    have HLI := fun W h => Aside0.mk (keys_is (b := b) (l := l) A c W (by omega) rfl h)
    have HOW := fun W h => Aside0.mk (owned_calls A c l W h (by omega) (fun x hx => ⟨(hrows x hx).1, by have := (hrows x hx).2; omega⟩))
    have HRM := fun hm => fun W base v h h1 => Aside0.mk (remove_calls b f base v l W h hb2 (by omega) (by omega) hm h1)
    have HSZ := fun h0 h1 => remF_size (b := b) (m := f) (l := l) h0 h1 hrows
    have HIN := fun h0 h1 h2 => fun W base v h h3 => Aside0.mk (insert_calls b t (remF b l f).2 base v (remF b l f).1 W h hb2 h0 h1 h2 h3)
    have HV := Aside0.mk hv
    clear hv hrows hb2
    generalize hL : l.flatten = L at HLI hfew HF HRM HSZ
    clear hL
    by_cases h1 : f < 0 ∨ (L.length : Int) ≤ f ∨ t < 0 ∨ (L.length : Int) ≤ t
    · have HF' : Aside0 (shiftF b l f t = ([], 7)) := ⟨by rw [HF.out, if_pos h1]⟩
      clear HF HRM HSZ HIN
      by_cases g1 : f < 0
      · clear h1
        go_enter Try.func37, Try.ntmps37
        go_wp2_with (first | (go_at_call 15; go_must (refine (valid_is HV.out _ _ _ HR.out).mono ?_; rintro e w1 ⟨rfl, hb⟩)) | (go_at_call 46; go_must (refine (HLI _ (Kd.C_below HR.out hb)).out.mono ?_; rintro e w2 ⟨AK, cK, rfl, hCK, hb2⟩; have HCK := Aside0.mk hCK; have hbK := hb.trans (hb2.mono hb.size); clear hCK hb2)))
        go_ret2
        exact ⟨_, ret_pair' HF'.out, by rw [HF'.out]; exact RA_nil _, hbK⟩
      · by_cases g2 : (L.length : Int) ≤ f
        · clear h1
          go_enter Try.func37, Try.ntmps37
          go_wp2_with (first | (go_at_call 15; go_must (refine (valid_is HV.out _ _ _ HR.out).mono ?_; rintro e w1 ⟨rfl, hb⟩)) | (go_at_call 46; go_must (refine (HLI _ (Kd.C_below HR.out hb)).out.mono ?_; rintro e w2 ⟨AK, cK, rfl, hCK, hb2⟩; have HCK := Aside0.mk hCK; have hbK := hb.trans (hb2.mono hb.size); clear hCK hb2)))
          go_ret2
          exact ⟨_, ret_pair' HF'.out, by rw [HF'.out]; exact RA_nil _, hbK⟩
        · by_cases g3 : t < 0
          · clear h1
            go_enter Try.func37, Try.ntmps37
            go_wp2_with (first | (go_at_call 15; go_must (refine (valid_is HV.out _ _ _ HR.out).mono ?_; rintro e w1 ⟨rfl, hb⟩)) | (go_at_call 46; go_must (refine (HLI _ (Kd.C_below HR.out hb)).out.mono ?_; rintro e w2 ⟨AK, cK, rfl, hCK, hb2⟩; have HCK := Aside0.mk hCK; have hbK := hb.trans (hb2.mono hb.size); clear hCK hb2)))
            go_ret2
            exact ⟨_, ret_pair' HF'.out, by rw [HF'.out]; exact RA_nil _, hbK⟩
          · have g4 : (L.length : Int) ≤ t := by omega
            clear h1
            go_enter Try.func37, Try.ntmps37
            go_wp2_with (first | (go_at_call 15; go_must (refine (valid_is HV.out _ _ _ HR.out).mono ?_; rintro e w1 ⟨rfl, hb⟩)) | (go_at_call 46; go_must (refine (HLI _ (Kd.C_below HR.out hb)).out.mono ?_; rintro e w2 ⟨AK, cK, rfl, hCK, hb2⟩; have HCK := Aside0.mk hCK; have hbK := hb.trans (hb2.mono hb.size); clear hCK hb2)))
            go_ret2
            exact ⟨_, ret_pair' HF'.out, by rw [HF'.out]; exact RA_nil _, hbK⟩
    · have HF' : Aside0 (shiftF b l f t = (putF b (remF b l f).1 t (remF b l f).2, 0)) := ⟨by rw [HF.out, if_neg h1]⟩
      have h3 : 0 ≤ f := by omega
      have h4 : f < L.length := by omega
      have h5 : 0 ≤ t := by omega
      have h6 : t < L.length := by omega
      replace HRM := HRM ⟨h3, h4⟩
      obtain ⟨s1, s2⟩ := HSZ h3 h4
      replace HIN := HIN (by omega) (by omega) ⟨h5, by omega⟩
      clear HF HSZ h1 s1 s2
      generalize (remF b l f).1 = R1 at HRM HIN HF'
      generalize (remF b l f).2 = R2 at HRM HIN HF'
      go_enter Try.func37, Try.ntmps37
      go_wp2_with (first | (go_at_call 15; go_must (refine (valid_is HV.out _ _ _ HR.out).mono ?_; rintro e w1 ⟨rfl, hb⟩)) | (go_at_call 46; go_must (refine (HLI _ (Kd.C_below HR.out hb)).out.mono ?_; rintro e w2 ⟨AK, cK, rfl, hCK, hb2⟩; have HCK := Aside0.mk hCK; have hbK := hb.trans (hb2.mono hb.size); clear hCK hb2)) | (go_at_call 57; go_must (refine (HOW _ (Kd.C_below HR.out hbK)).out.mono ?_; rintro e w3 ⟨v3, rfl, ho3, hb3⟩; have HO3 := Aside0.mk ho3; have hbO := hbK.trans (hb3.mono hbK.size); have hs3 := hb3.size; clear ho3 hb3)) | (go_at_call 56; go_must (refine (HRM _ _ _ HO3.out hs3).out.mono ?_; rintro e w4 ⟨v4, rfl, ho4, hb4⟩; have HO4 := Aside0.mk ho4; have hbP := hbO.trans (hb4.mono hbK.size); have hs4 := Nat.le_trans hs3 hb4.size; clear ho4 hb4)) | (go_at_call 41; go_must (refine (HIN _ _ _ HO4.out hs4).out.mono ?_; rintro e w5 ⟨v5, vs5, rfl, ho5, hb5⟩; have HO5 := Aside0.mk ho5.ra; have hbQ := hbP.trans (hb5.mono hbK.size); clear ho5 hb5)))
      go_ret2
      exact ⟨_, ret_pair' HF'.out, by rw [HF'.out]; exact HO5.out, hbQ⟩
end Go.Proofs.Ytjpobhdgfdeenaa.A
