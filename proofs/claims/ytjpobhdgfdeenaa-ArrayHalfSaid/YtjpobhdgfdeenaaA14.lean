/- insert of package array: a key put at an index of blocks that the call owns. -/
import Derived.Test.YtjpobhdgfdeenaaProg
import Derived.Below
import Derived.Deep.Draws
import Derived.Deep.AppendLies
import Derived.Maps.AppendAt
import Derived.Maps.OwnSet
import Derived.OwnWalk
import Derived.Laws.BytesArg
import Derived.Laws.MakeOwn
import Derived.Laws.OwnMore
import Derived.Deep.OwnRows
import Derived.Tactics
import Derived.Laws.Slices
import Derived.WalkKit
import Derived.KernelRfl
import Derived.RowKit3
import Derived.Deep.LoopGhost
import Derived.Deep.QuietTactic
import Derived.BigQuiet
import Derived.WideLaws
import Derived.Deep.DeepCutAuto
import Derived.Deep.CutBlock
import Derived.Deep.RegionHeld3
import Derived.Laws.Rows
import Derived.ArgAppend
import Derived.Laws.IdiomCopy
import Derived.OrdersHeld
import Derived.Laws.BitsLemmas
import Derived.Outline
import Derived.WalkSpells
import Derived.Lib.Hide
import Derived.RowKit
import Derived.Deep.DeepMust
import Derived.RangeFuncNested
import Derived.RangeFuncBound
import Derived.RangeFuncCalls
import Derived.RangeFuncLeaves
import Derived.Shelf.Abstract
import Derived.Shelf.RegionOpen
import Derived.OwnWalkIn
import Derived.TacticsInMore
import Derived.LoopNIn
import Derived.LoopIn
import Derived.RangeFuncBox
import Derived.StillTailTactics
import Derived.Test.YtjpobhdgfdeenaaA13
set_option linter.unusedVariables false
set_option linter.unusedSimpArgs false
namespace Go.Proofs.Ytjpobhdgfdeenaa.A
open Go.RowKit Go.Shelf Go.Proofs.YtjpobhdgfdeenaaW.PrintWords Go.Maps
attribute [local go_sem] Oper.semAt_some

/-- The place of an index for a key that is put there; the key put there. -/
def putF (b : Int) (l : List (List Int)) (m k : Int) : List (List Int) :=
  if l = [] then [[k]] else insF b l (spotF l m).1.toNat ((l.getD (spotF l m).1.toNat []).take (m - (spotF l m).2).toNat ++ k :: (l.getD (spotF l m).1.toNat []).drop (m - (spotF l m).2).toNat)
theorem putF_at {b m k : Int} {l : List (List Int)} {j q : Nat} {rj : List Int} (h : At l m j q) (hj : l[j]? = some rj) : putF b l m k = insF b l j (rj.take q ++ k :: rj.drop q) := by
  have h1 := spotF_at h
  obtain ⟨row, h0, h2, _⟩ := h
  have hne : l ≠ [] := by rintro rfl; simp at hj
  unfold putF
  rw [if_neg hne, h1]
  have e1 : ((j : Int), (((l.take j).flatten.length : Nat) : Int)).1.toNat = j := by simp
  have e2 : (m - ((j : Int), (((l.take j).flatten.length : Nat) : Int)).2).toNat = q := by simp only [h2]; omega
  rw [e1, e2]
  have e3 : l.getD j [] = rj := by simp [List.getD_eq_getElem?_getD, hj]
  rw [e3]
set_option maxRecDepth 100000 in
set_option maxHeartbeats 2000000 in
theorem insert_in (b m k : Int) (base : Nat) (v : Value) (vs : List Value) (l : List (List Int)) (w : World) (hown : Own2 w base v vs l) (hb : 2 ≤ b ∧ b ≤ 50) (hs : l.flatten.length ≤ 1000000) (hll : l.length ≤ 1000000) (hne : l ≠ []) (hm : 0 ≤ m ∧ m ≤ l.flatten.length) (hbase : base ≤ w.heap.size) :
    Calls Try.prog 41 #[.int .i64 b, v, .int .i64 m, .int .i64 k] w fun e w' => ∃ v' vs', e = .returned v' ∧ Own2 w' base v' vs' (putF b l m k) ∧ Below base w w' := by
  obtain ⟨g, c, hv, hvl, hlc, hread⟩ := hown.reads
  subst hv
  have HO := Aside0.mk hown
  have HHL := Aside0.mk hll
  have HHB := Aside0.mk hb
  have HR := Aside0.mk hread
  have HS := Aside0.mk hs
  have HNE := Aside0.mk hne
  have hlpos : 0 < l.length := List.length_pos_iff.2 hne
  have hlm := (C_len hread).2
  obtain ⟨ad, A0, c0, row, hA, hdrop, hcell, hrl, hrow⟩ := C_row hread (l.length - 1) (by omega)
  injection hA with hA
  subst hA
  rw [Addr.add_lit, Nat.zero_add] at hcell
  have hn1 : ((l.length : Int) - 1).toNat = l.length - 1 := by omega
  have hn2 : (0 : Int) ≤ (l.length : Int) - 1 := by omega
  have hn3 : (l.length : Int) - 1 < (l.length : Int) := by omega
  have hn0 : ((l.length : Int) == 0) = false := by simpa using (show ¬ (l.length : Int) = 0 by omega)
  have HD0 := Aside0.mk hdrop
  clear hown hread hs hne hrow hdrop hll hb
  refine (callsIn_wide (n := 9)).1 ?_
  refine callsIn_of_wp_marks Try.func41 rfl trivial ?_ rfl
  simp only [Try.ntmps41, List.size_toArray, List.length_cons, List.length_nil, Nat.reduceAdd, Nat.reduceSub, Array.replicate_succ, Array.replicate_zero, List.push_toArray, List.append_toArray, List.nil_append, List.cons_append]
  refine wpIn_wide.2 ?_
  go_wp2
  have hca : ∀ o, (w.alloc o).cell? ⟨g, l.length - 1, none⟩ = some (.slice A0 row.length c0) := fun o => pw_cell_below (below_alloc (Below.refl _ _) o) hcell
  obtain ⟨W0, hW0⟩ : ∃ W0, w.alloc (.cells #[.int .i64 m] 3) = W0 := ⟨_, rfl⟩
  have hcw : W0.cell? ⟨g, l.length - 1, none⟩ = some (.slice A0 row.length c0) := by rw [← hW0]; exact hca _
  have hgW : g ≠ W0.heap.size := by
    have := World.block_lt_of_cell? W0 _ hcw
    have h2 : g < W0.heap.size := this
    omega
  rw [hW0]
  have HW0 := Aside0.mk hW0
  clear hW0 hca hcell
  have hnew := World.new_ne W0 _ hcw
  have h1l : (1 : Int) ≤ (l.length : Int) := by omega
  have h1n : 1 ≤ l.length := by omega
  have hwr : IntKind.i64.wrap ((l.length : Int) - 1) = (l.length : Int) - 1 := by rw [IntKind.wrap_i64]; omega
  go_region_held3 (fun w' => w'.cell? ⟨g, l.length - 1, none⟩ = some (.slice A0 row.length c0)) (go_keep) (fail)
  all_goals go_wp2_with (go_at_call 49; refine (callsIn_wide.1 (keys_in Fence.wide 9 trivial rfl _ _ _ _)).mono ?_; rintro e w' ⟨rfl, rfl⟩)
  all_goals have hB6 : Boxed W0 w.heap.size 3 (.int .i64 m) := by rw [← HW0.out]; exact Boxed.new w 3 _
  all_goals have hBW : Below w.heap.size w W0 := by rw [← HW0.out]; exact (Below.refl _ w).alloc (Nat.le_refl _) _
  all_goals have hzW : W0.heap.size = w.heap.size + 1 := by rw [← HW0.out]; simp
  · have f9 : Boxed (((W0.alloc (.cells #[.int .i64 ((l.length : Int) - 1)] 3)).alloc (.cells #[.int .i64 row.length] 3)).alloc (.cells #[.slice (some ⟨g, 0, none⟩) l.length c] 24)).drew W0.heap.size 3 (.int .i64 ((l.length : Int) - 1)) := ((Boxed.new W0 3 _).alloc _).alloc _
    have f10 : Boxed (((W0.alloc (.cells #[.int .i64 ((l.length : Int) - 1)] 3)).alloc (.cells #[.int .i64 row.length] 3)).alloc (.cells #[.slice (some ⟨g, 0, none⟩) l.length c] 24)).drew (W0.heap.size + 1) 3 (.int .i64 row.length) := by
      have := (Boxed.new (W0.alloc (.cells #[.int .i64 ((l.length : Int) - 1)] 3)) 3 (.int .i64 row.length)).alloc (.cells #[.slice (some ⟨g, 0, none⟩) l.length c] 24)
      rw [World.size_alloc] at this
      exact this
    have f11 : Boxed (((W0.alloc (.cells #[.int .i64 ((l.length : Int) - 1)] 3)).alloc (.cells #[.int .i64 row.length] 3)).alloc (.cells #[.slice (some ⟨g, 0, none⟩) l.length c] 24)).drew (W0.heap.size + 1 + 1) 24 (.slice (some ⟨g, 0, none⟩) l.length c) := by
      have := Boxed.new ((W0.alloc (.cells #[.int .i64 ((l.length : Int) - 1)] 3)).alloc (.cells #[.int .i64 row.length] 3)) 24 (.slice (some ⟨g, 0, none⟩) l.length c)
      rw [World.size_alloc, World.size_alloc] at this
      exact this
    have f6 : Boxed (((W0.alloc (.cells #[.int .i64 ((l.length : Int) - 1)] 3)).alloc (.cells #[.int .i64 row.length] 3)).alloc (.cells #[.slice (some ⟨g, 0, none⟩) l.length c] 24)).drew w.heap.size 3 (.int .i64 m) := ((hB6.alloc _).alloc _).alloc _
    have hB1 : Below w.heap.size w (((W0.alloc (.cells #[.int .i64 ((l.length : Int) - 1)] 3)).alloc (.cells #[.int .i64 row.length] 3)).alloc (.cells #[.slice (some ⟨g, 0, none⟩) l.length c] 24)).drew := below_drew (below_alloc (below_alloc (below_alloc hBW _) _) _)
    have hz1 : (((W0.alloc (.cells #[.int .i64 ((l.length : Int) - 1)] 3)).alloc (.cells #[.int .i64 row.length] 3)).alloc (.cells #[.slice (some ⟨g, 0, none⟩) l.length c] 24)).drew.heap.size = w.heap.size + 4 := by
      show (((W0.alloc (.cells #[.int .i64 ((l.length : Int) - 1)] 3)).alloc (.cells #[.int .i64 row.length] 3)).alloc (.cells #[.slice (some ⟨g, 0, none⟩) l.length c] 24)).heap.size = _
      rw [World.size_alloc, World.size_alloc, World.size_alloc, hzW]
    generalize (((W0.alloc (.cells #[.int .i64 ((l.length : Int) - 1)] 3)).alloc (.cells #[.int .i64 row.length] 3)).alloc (.cells #[.slice (some ⟨g, 0, none⟩) l.length c] 24)).drew = W1 at f9 f10 f11 f6 hB1 hz1 ⊢
    have hz2 : w.heap.size < W0.heap.size ∧ W0.heap.size < w.heap.size + 4 := by omega
    have hz3 : w.heap.size < W0.heap.size + 1 ∧ W0.heap.size + 1 < w.heap.size + 4 := by omega
    have hz4 : W0.heap.size + 1 + 1 < w.heap.size + 4 := by omega
    have hz5 : w.heap.size < W0.heap.size + 1 + 1 := by omega
    have hne : W0.heap.size ≠ W0.heap.size + 1 := by omega
    generalize hB11 : W0.heap.size + 1 + 1 = B11 at f11 hz4 hz5 ⊢
    generalize hB10 : W0.heap.size + 1 = B10 at f10 hz3 hne ⊢
    generalize hB9 : W0.heap.size = B9 at f9 hz2 hne ⊢
    clear hB9 hB10 hB11
    have mixed : Try.prog.follows .mixedOrders = true := by kernel_rfl
    have hst := keys_stops Fence.wide 8 trivial rfl (by decide) B11 (some ⟨g, 0, none⟩) c l w W1 HR.out HS.out hB1 (by omega) f11.cell
    rename_i KK hKK
    refine insert_loop b m k g c l w W1 A0 row c0 B9 B10 B11 HR HS HNE hm hlpos HD0 hlm f9 f10 f11 f6 hB1 hz1 hz2 hz3 hz4 hz5 hne _ _ ?_
    intro j q D W hat h9 h10 hD hDw hBw
    refine hKK _ _ (insert_rest b m k base g c vs l w W A0 row c0 B9 B10 B11 D j q HO.out HHB.out HS.out HHL.out hbase hBw h9 h10 (by omega) (by omega) hD hDw hat _ ?_)
    rintro v' vs' row' W' ⟨rj, hrj, rfl⟩ ho hb'
    exact ⟨v', vs', rfl, by rw [putF_at hat hrj]; exact ho, hb'⟩
  · have f10 : Boxed (((W0.alloc (.cells #[.int .i64 row.length] 3)).alloc (.cells #[.int .i64 ((l.length : Int) - 1)] 3)).alloc (.cells #[.slice (some ⟨g, 0, none⟩) l.length c] 24)).drew W0.heap.size 3 (.int .i64 row.length) := ((Boxed.new W0 3 _).alloc _).alloc _
    have f9 : Boxed (((W0.alloc (.cells #[.int .i64 row.length] 3)).alloc (.cells #[.int .i64 ((l.length : Int) - 1)] 3)).alloc (.cells #[.slice (some ⟨g, 0, none⟩) l.length c] 24)).drew (W0.heap.size + 1) 3 (.int .i64 ((l.length : Int) - 1)) := by
      have := (Boxed.new (W0.alloc (.cells #[.int .i64 row.length] 3)) 3 (.int .i64 ((l.length : Int) - 1))).alloc (.cells #[.slice (some ⟨g, 0, none⟩) l.length c] 24)
      rw [World.size_alloc] at this
      exact this
    have f11 : Boxed (((W0.alloc (.cells #[.int .i64 row.length] 3)).alloc (.cells #[.int .i64 ((l.length : Int) - 1)] 3)).alloc (.cells #[.slice (some ⟨g, 0, none⟩) l.length c] 24)).drew (W0.heap.size + 1 + 1) 24 (.slice (some ⟨g, 0, none⟩) l.length c) := by
      have := Boxed.new ((W0.alloc (.cells #[.int .i64 row.length] 3)).alloc (.cells #[.int .i64 ((l.length : Int) - 1)] 3)) 24 (.slice (some ⟨g, 0, none⟩) l.length c)
      rw [World.size_alloc, World.size_alloc] at this
      exact this
    have f6 : Boxed (((W0.alloc (.cells #[.int .i64 row.length] 3)).alloc (.cells #[.int .i64 ((l.length : Int) - 1)] 3)).alloc (.cells #[.slice (some ⟨g, 0, none⟩) l.length c] 24)).drew w.heap.size 3 (.int .i64 m) := ((hB6.alloc _).alloc _).alloc _
    have hB1 : Below w.heap.size w (((W0.alloc (.cells #[.int .i64 row.length] 3)).alloc (.cells #[.int .i64 ((l.length : Int) - 1)] 3)).alloc (.cells #[.slice (some ⟨g, 0, none⟩) l.length c] 24)).drew := below_drew (below_alloc (below_alloc (below_alloc hBW _) _) _)
    have hz1 : (((W0.alloc (.cells #[.int .i64 row.length] 3)).alloc (.cells #[.int .i64 ((l.length : Int) - 1)] 3)).alloc (.cells #[.slice (some ⟨g, 0, none⟩) l.length c] 24)).drew.heap.size = w.heap.size + 4 := by
      show (((W0.alloc (.cells #[.int .i64 row.length] 3)).alloc (.cells #[.int .i64 ((l.length : Int) - 1)] 3)).alloc (.cells #[.slice (some ⟨g, 0, none⟩) l.length c] 24)).heap.size = _
      rw [World.size_alloc, World.size_alloc, World.size_alloc, hzW]
    generalize (((W0.alloc (.cells #[.int .i64 row.length] 3)).alloc (.cells #[.int .i64 ((l.length : Int) - 1)] 3)).alloc (.cells #[.slice (some ⟨g, 0, none⟩) l.length c] 24)).drew = W1 at f10 f9 f11 f6 hB1 hz1 ⊢
    have hz3 : w.heap.size < W0.heap.size ∧ W0.heap.size < w.heap.size + 4 := by omega
    have hz2 : w.heap.size < W0.heap.size + 1 ∧ W0.heap.size + 1 < w.heap.size + 4 := by omega
    have hz4 : W0.heap.size + 1 + 1 < w.heap.size + 4 := by omega
    have hz5 : w.heap.size < W0.heap.size + 1 + 1 := by omega
    have hne : W0.heap.size ≠ W0.heap.size + 1 := by omega
    generalize hB11 : W0.heap.size + 1 + 1 = B11 at f11 hz4 hz5 ⊢
    generalize hB9 : W0.heap.size + 1 = B9 at f9 hz2 hne ⊢
    generalize hB10 : W0.heap.size = B10 at f10 hz3 hne ⊢
    clear hB10 hB9 hB11
    have mixed : Try.prog.follows .mixedOrders = true := by kernel_rfl
    have hst := keys_stops Fence.wide 8 trivial rfl (by decide) B11 (some ⟨g, 0, none⟩) c l w W1 HR.out HS.out hB1 (by omega) f11.cell
    rename_i KK hKK
    refine insert_loop b m k g c l w W1 A0 row c0 B9 B10 B11 HR HS HNE hm hlpos HD0 hlm f9 f10 f11 f6 hB1 hz1 hz2 hz3 hz4 hz5 hne.symm _ _ ?_
    intro j q D W hat h9 h10 hD hDw hBw
    refine hKK _ _ (insert_rest b m k base g c vs l w W A0 row c0 B9 B10 B11 D j q HO.out HHB.out HS.out HHL.out hbase hBw h9 h10 (by omega) (by omega) hD hDw hat _ ?_)
    rintro v' vs' row' W' ⟨rj, hrj, rfl⟩ ho hb'
    exact ⟨v', vs', rfl, by rw [putF_at hat hrj]; exact ho, hb'⟩

/-- Blocks of the call's own, or none. -/
def OwnA (w : World) (base : Nat) (v : Value) (l : List (List Int)) : Prop := (l = [] ∧ ∃ A c, v = .slice A 0 c) ∨ (l ≠ [] ∧ ∃ vs, Own2 w base v vs l)
set_option maxRecDepth 100000 in
set_option maxHeartbeats 2000000 in
theorem insert_nil (b m k : Int) (base : Nat) (A : Option Addr) (c : Nat) (w : World) (hbase : base ≤ w.heap.size) :
    Calls Try.prog 41 #[.int .i64 b, .slice A 0 c, .int .i64 m, .int .i64 k] w fun e w' => ∃ v' vs', e = .returned v' ∧ Own2 w' base v' vs' [[k]] ∧ Below base w w' := by
  refine (callsIn_wide (n := 9)).1 ?_
  refine callsIn_of_wp_marks Try.func41 rfl trivial ?_ rfl
  simp only [Try.ntmps41, List.size_toArray, List.length_cons, List.length_nil, Nat.reduceAdd, Nat.reduceSub, Array.replicate_succ, Array.replicate_zero, List.push_toArray, List.append_toArray, List.nil_append, List.cons_append]
  refine wpIn_wide.2 ?_
  go_wp2
  refine ⟨.slice (some ⟨w.heap.size + 1 + 1, 0, none⟩) 1 1, by simp [results, Try.f41, go_sem], .slice (some ⟨w.heap.size + 1 + 1, 0, none⟩) 1 1, [.slice (some ⟨w.heap.size + 1, 0, none⟩) 1 1], rfl, ?_, (below_alloc (below_alloc (below_alloc (Below.refl _ _) _) _) _).mono hbase⟩
  refine ⟨⟨w.heap.size + 1 + 1, 1, [.slice (some ⟨w.heap.size + 1, 0, none⟩) 1 1], rfl, by omega, ?_, by simp, by simp, by simp, rfl, by omega, by simp [Value.oneCell']⟩, ⟨?_, trivial⟩, by simp⟩
  · have := heap_alloc_new ((w.alloc (.cells #[.int .i64 m] 3)).alloc (.cells #[.int .i64 k] 3)) (.cells #[.slice (some ⟨w.heap.size + 1, 0, none⟩) 1 1] 22)
    simpa [Blk] using this
  · refine ⟨w.heap.size + 1, 1, [.int .i64 k], rfl, by omega, ?_, by simp [ints], by simp, by simp, rfl, by omega, by simp [ints, Value.oneCell']⟩
    have h1 := heap_alloc_new (w.alloc (.cells #[.int .i64 m] 3)) (.cells #[.int .i64 k] 3)
    show (World.alloc _ _).heap[w.heap.size + 1]? = _
    rw [Below.heap_alloc _ _ _ (by simp)]
    simpa [Blk] using h1
theorem insert_calls (b m k : Int) (base : Nat) (v : Value) (l : List (List Int)) (w : World) (hown : OwnA w base v l) (hb : 2 ≤ b ∧ b ≤ 50) (hs : l.flatten.length ≤ 1000000) (hll : l.length ≤ 1000000) (hm : 0 ≤ m ∧ m ≤ l.flatten.length) (hbase : base ≤ w.heap.size) :
    Calls Try.prog 41 #[.int .i64 b, v, .int .i64 m, .int .i64 k] w fun e w' => ∃ v' vs', e = .returned v' ∧ Own2 w' base v' vs' (putF b l m k) ∧ Below base w w' := by
  rcases hown with ⟨rfl, A, c, rfl⟩ | ⟨hne, vs, ho⟩
  · exact insert_nil b m k base A c w hbase
  · exact insert_in b m k base v vs l w ho hb hs hll hne hm hbase
end Go.Proofs.Ytjpobhdgfdeenaa.A
