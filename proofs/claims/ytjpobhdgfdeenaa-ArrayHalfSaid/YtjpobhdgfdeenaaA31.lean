/- remove of package array: the key at an index taken out. -/
import Derived.RangeFuncNested
import Derived.RangeFuncBound
import Derived.RangeFuncCalls
import Derived.RangeFuncLeaves
import Derived.Shelf.Abstract
import Derived.Shelf.RegionOpen
import Derived.OwnWalkIn
import Derived.TacticsInMore
import Derived.LoopNIn
import Derived.LoopIn
import Derived.RangeFuncBox
import Derived.StillTailTactics
import Derived.Deep.DrawnRows
import Derived.BigQuiet
import Derived.Test.YtjpobhdgfdeenaaA28
import Derived.Test.YtjpobhdgfdeenaaA29
set_option linter.unusedVariables false
set_option linter.unusedSimpArgs false
namespace Go.Proofs.Ytjpobhdgfdeenaa.A
open Go.RowKit Go.Shelf Go.Proofs.YtjpobhdgfdeenaaW.PrintWords Go.Maps
attribute [local go_sem] Oper.semAt_some

set_option maxRecDepth 100000 in
set_option maxHeartbeats 4000000 in
theorem remove_in (b m : Int) (base : Nat) (v : Value) (vs : List Value) (l : List (List Int)) (w : World) (hown : Own2 w base v vs l) (hb : 2 ≤ b ∧ b ≤ 50) (hs : l.flatten.length ≤ 1000000) (hll : l.length ≤ 1000000) (hm : 0 ≤ m ∧ m < l.flatten.length) (hbase : base ≤ w.heap.size) :
    Calls Try.prog 56 #[.int .i64 b, v, .int .i64 m] w fun e w' => ∃ v', e = .returned (.tuple #[v', .int .i64 (remF b l m).2]) ∧ OwnA w' base v' (remF b l m).1 ∧ Below base w w' := by
  obtain ⟨g, c, hv, hvl, hlc, hread⟩ := hown.reads
  subst hv
  have HO := Aside0.mk hown
  have HHL := Aside0.mk hll
  have HHB := Aside0.mk hb
  have HR := Aside0.mk hread
  have HS := Aside0.mk hs
  have hlm := (C_len hread).2
  clear hown hread hs hll hb
  refine (callsIn_wide (n := 9)).1 ?_
  refine callsIn_of_wp_marks Try.func56 rfl trivial ?_ rfl
  simp only [Try.ntmps56, List.size_toArray, List.length_cons, List.length_nil, Nat.reduceAdd, Nat.reduceSub, Array.replicate_succ, Array.replicate_zero, List.push_toArray, List.append_toArray, List.nil_append, List.cons_append]
  refine wpIn_wide.2 ?_
  go_wp2_with (go_at_call 49; refine (callsIn_wide.1 (keys_in Fence.wide 9 trivial rfl _ _ _ _)).mono ?_; rintro e w' ⟨rfl, rfl⟩)
  --LOOP
  have f6 := ((Boxed.new w 3 (.int .i64 m)).alloc (.cells #[.int .i64 0, .int .i64 0, .int .i64 0, .int .i64 0] 62)).alloc (.cells #[.slice (some ⟨g, 0, none⟩) l.length c] 24)
  have f8 : PBox ((w.alloc (.cells #[.int .i64 m] 3)).alloc (.cells #[.int .i64 0, .int .i64 0, .int .i64 0, .int .i64 0] 62)) (w.heap.size + 1) (0, 0, 0, 0) := by
    have h := heap_alloc_new (w.alloc (.cells #[.int .i64 m] 3)) (.cells #[.int .i64 0, .int .i64 0, .int .i64 0, .int .i64 0] 62)
    rw [World.size_alloc] at h
    exact h
  replace f8 : PBox (((w.alloc (.cells #[.int .i64 m] 3)).alloc (.cells #[.int .i64 0, .int .i64 0, .int .i64 0, .int .i64 0] 62)).alloc (.cells #[.slice (some ⟨g, 0, none⟩) l.length c] 24)) (w.heap.size + 1) (0, 0, 0, 0) := (Below.heap_alloc _ _ _ (by simp)).trans f8
  have f11 := Boxed.new ((w.alloc (.cells #[.int .i64 m] 3)).alloc (.cells #[.int .i64 0, .int .i64 0, .int .i64 0, .int .i64 0] 62)) 24 (.slice (some ⟨g, 0, none⟩) l.length c)
  have hB1 : Below w.heap.size w (((w.alloc (.cells #[.int .i64 m] 3)).alloc (.cells #[.int .i64 0, .int .i64 0, .int .i64 0, .int .i64 0] 62)).alloc (.cells #[.slice (some ⟨g, 0, none⟩) l.length c] 24)) := below_alloc (below_alloc (below_alloc (Below.refl _ _) _) _) _
  have hz1 : (((w.alloc (.cells #[.int .i64 m] 3)).alloc (.cells #[.int .i64 0, .int .i64 0, .int .i64 0, .int .i64 0] 62)).alloc (.cells #[.slice (some ⟨g, 0, none⟩) l.length c] 24)).heap.size = w.heap.size + 3 := by simp
  rw [World.size_alloc, World.size_alloc] at f11
  generalize (((w.alloc (.cells #[.int .i64 m] 3)).alloc (.cells #[.int .i64 0, .int .i64 0, .int .i64 0, .int .i64 0] 62)).alloc (.cells #[.slice (some ⟨g, 0, none⟩) l.length c] 24)) = W1 at f6 f8 f11 hB1 hz1 ⊢
  have mixed : Try.prog.follows .mixedOrders = true := by kernel_rfl
  rename_i KK hKK
  refine remove_loop b m g c l w W1 (w.heap.size + 1 + 1) HR HS hm hlm f6 f8 f11 hB1 hz1 (by omega) (by omega) _ _ ?_
  intro p D W hp hpm hP hD hDw hBw
  obtain ⟨j, q, rj, h0, h1, h2, h3, h4, h5⟩ := posAll_mem l 0 0 p hp
  have hat : At l m j q := ⟨rj, h0, by rw [← hpm, h2]; simp, .inl h1⟩
  obtain ⟨p1, p2, p3, p4⟩ := p
  have e2 : p2 = (j : Int) := by have : p2 = _ := h3; rw [this]; simp
  have e3 : p3 = (q : Int) := by have : p3 = _ := h4; rw [this]
  have e1 : p1 = m := hpm
  subst e1 e2 e3
  have hrjl : rj.length ≤ 1000000 := by
    have h6 := row_le' l rj (List.mem_of_getElem? h0)
    have := HS.out
    omega
  have hk : rj.getD q 0 = p4 := by rw [List.getD_eq_getElem?_getD, h5]; rfl
  refine hKK _ _ (remove_rest b p1 p4 base g c vs l w W (w.heap.size + 1 + 1) D j q rj HO.out HHB.out HS.out HHL.out hbase hBw hP hD hDw h0 h1 hrjl _ ?_)
  intro v' W' ho hbe
  refine ⟨v', ?_, ?_, hbe⟩
  · rw [remF_at hat h0, hk]
  · rw [remF_at hat h0]; exact ho
theorem remove_calls (b m : Int) (base : Nat) (v : Value) (l : List (List Int)) (w : World) (hown : OwnA w base v l) (hb : 2 ≤ b ∧ b ≤ 50) (hs : l.flatten.length ≤ 1000000) (hll : l.length ≤ 1000000) (hm : 0 ≤ m ∧ m < l.flatten.length) (hbase : base ≤ w.heap.size) :
    Calls Try.prog 56 #[.int .i64 b, v, .int .i64 m] w fun e w' => ∃ v', e = .returned (.tuple #[v', .int .i64 (remF b l m).2]) ∧ OwnA w' base v' (remF b l m).1 ∧ Below base w w' := by
  rcases hown with ⟨rfl, A, c, rfl⟩ | ⟨hne, vs, ho⟩
  · simp at hm; omega
  · exact remove_in b m base v vs l w ho hb hs hll hm hbase
end Go.Proofs.Ytjpobhdgfdeenaa.A
