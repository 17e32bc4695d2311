/- At of package array. -/
import Derived.Below
import Derived.Deep.Draws
import Derived.Deep.AppendLies
import Derived.Maps.AppendAt
import Derived.Maps.OwnSet
import Derived.OwnWalk
import Derived.Laws.BytesArg
import Derived.Laws.MakeOwn
import Derived.Laws.OwnMore
import Derived.Deep.OwnRows
import Derived.Tactics
import Derived.Laws.Slices
import Derived.WalkKit
import Derived.KernelRfl
import Derived.RowKit3
import Derived.Deep.LoopGhost
import Derived.Deep.QuietTactic
import Derived.BigQuiet
import Derived.WideLaws
import Derived.Deep.DeepCutAuto
import Derived.Deep.CutBlock
import Derived.Deep.RegionHeld3
import Derived.Laws.Rows
import Derived.ArgAppend
import Derived.Laws.IdiomCopy
import Derived.OrdersHeld
import Derived.Laws.BitsLemmas
import Derived.Outline
import Derived.WalkSpells
import Derived.Lib.Hide
import Derived.RowKit
import Derived.Deep.DeepMust
import Derived.RangeFuncNested
import Derived.RangeFuncBound
import Derived.RangeFuncCalls
import Derived.RangeFuncLeaves
import Derived.Shelf.Abstract
import Derived.Shelf.RegionOpen
import Derived.OwnWalkIn
import Derived.TacticsInMore
import Derived.LoopNIn
import Derived.LoopIn
import Derived.RangeFuncBox
import Derived.StillTailTactics
import Derived.Test.YtjpobhdgfdeenaaProg
import Derived.Test.YtjpobhdgfdeenaaM3
import Derived.Test.YtjpobhdgfdeenaaM6
import Derived.Test.YtjpobhdgfdeenaaM1
set_option linter.unusedVariables false
set_option linter.unusedSimpArgs false
namespace Go.Proofs.Ytjpobhdgfdeenaa.A
open Go.RowKit Go.Shelf Go.Proofs.YtjpobhdgfdeenaaW.PrintWords Go.Maps
attribute [local go_sem] Oper.semAt_some

set_option maxHeartbeats 4000000 in
theorem at_in (b m : Int) (A : Option Addr) (c : Nat) (l : List (List Int)) (w : World) (hr : Kd.C (Kd.slice 3 (Kd.int .i64)) w A l.length l) (hv : validB b l = true) :
    Calls Try.prog 26 #[.int .i64 b, .slice A l.length c, .int .i64 m] w fun e w' => Below w.heap.size w w' ∧
      ((e = .returned (.tuple #[.int .i64 0, .int .i64 0, .int .i64 7]) ∧ ∀ p ∈ posAll 0 0 l, p.1 ≠ m) ∨ ∃ pre p, e = .returned (.tuple #[.int .i64 p.2.1, .int .i64 p.2.2.1, .int .i64 0]) ∧ pre ++ [p] <+: posAll 0 0 l ∧ p.1 = m) := by
  have HR := Aside0.mk hr
  have hm := (C_len hr).2
  have HV := Aside0.mk hv
  have HS : Aside0 (l.flatten.length ≤ 1000000) := ⟨by have := ((validB_iff b l).1 hv).few; omega⟩
  clear hr hv
  refine (callsIn_wide (n := 9)).1 ?_
  have hf49 : Fence.wide.fn 49 := trivial
  have hf15 : Fence.wide.fn 15 := trivial
  have mixed : Try.prog.follows .mixedOrders = true := by kernel_rfl
  refine callsIn_of_wp_marks Try.func26 rfl trivial ?_ rfl
  simp only [Try.ntmps26, List.size_toArray, List.length_cons, List.length_nil, Nat.reduceAdd, Nat.reduceSub, Array.replicate_succ, Array.replicate_zero, List.push_toArray, List.append_toArray, List.nil_append, List.cons_append]
  have b5 := (((Boxed.new w 3 (.int .i64 m)).alloc (.cells #[.int .i64 0] 3)).alloc (.cells #[.int .i64 0] 3)).alloc (.cells #[.int .i64 0] 25)
  have b6 := ((Boxed.new (w.alloc (.cells #[.int .i64 m] 3)) 3 (.int .i64 0)).alloc (.cells #[.int .i64 0] 3)).alloc (.cells #[.int .i64 0] 25)
  have b7 := (Boxed.new ((w.alloc (.cells #[.int .i64 m] 3)).alloc (.cells #[.int .i64 0] 3)) 3 (.int .i64 0)).alloc (.cells #[.int .i64 0] 25)
  have b8 := Boxed.new (((w.alloc (.cells #[.int .i64 m] 3)).alloc (.cells #[.int .i64 0] 3)).alloc (.cells #[.int .i64 0] 3)) 25 (.int .i64 0)
  simp only [World.size_alloc] at b5 b6 b7 b8
  have hB0 : Below w.heap.size w ((((w.alloc (.cells #[.int .i64 m] 3)).alloc (.cells #[.int .i64 0] 3)).alloc (.cells #[.int .i64 0] 3)).alloc (.cells #[.int .i64 0] 25)) := ((((Below.refl _ w).alloc (Nat.le_refl _) _).alloc (by simp) _).alloc (by simp; omega) _).alloc (by simp; omega) _
  have hsz : ((((w.alloc (.cells #[.int .i64 m] 3)).alloc (.cells #[.int .i64 0] 3)).alloc (.cells #[.int .i64 0] 3)).alloc (.cells #[.int .i64 0] 25)).heap.size = w.heap.size + 4 := by simp
  gi_wp2_with (first | (gi_at_call 15; go_must (refine (callsIn_wide.2 (valid_is HV.out A c _ (Kd.C_below HR.out hB0))).mono ?_; rintro e W1 ⟨rfl, hb1⟩; replace b5 := boxed_below b5 hb1; replace b6 := boxed_below b6 hb1; replace b7 := boxed_below b7 hb1; replace b8 := boxed_below b8 hb1; have hB1 := hB0.trans (hb1.mono hB0.size); have c5 := b5.cell)) | (gi_at_call 49; go_must (refine (keys_in Fence.wide 8 trivial rfl _ _ _ _).mono ?_; rintro e w2 ⟨rfl, rfl⟩)))
  --LOOP
  have bA := Boxed.new W1 24 (.slice A l.length c)
  replace b5 := b5.alloc (.cells #[.slice A l.length c] 24)
  replace b6 := b6.alloc (.cells #[.slice A l.length c] 24)
  replace b7 := b7.alloc (.cells #[.slice A l.length c] 24)
  replace b8 := b8.alloc (.cells #[.slice A l.length c] 24)
  have hB2 : Below w.heap.size w (W1.alloc (.cells #[.slice A l.length c] 24)) := hB1.alloc hB1.size _
  have hsz2 : (W1.alloc (.cells #[.slice A l.length c] 24)).heap.size = W1.heap.size + 1 := by simp
  have hW1s : w.heap.size + 4 ≤ W1.heap.size := by have := hb1.size; omega
  obtain ⟨W0, hW0⟩ : ∃ W0, W1.alloc (.cells #[.slice A l.length c] 24) = W0 := ⟨_, rfl⟩
  rw [hW0] at bA b5 b6 b7 b8 hB2 hsz2 ⊢
  have hst := keys_stops Fence.wide 8 trivial rfl (by decide) W1.heap.size A c l w W0 HR.out HS.out hB2 (by omega) bA.cell
  clear hW0 c5
  refine wpIn_rangeFunc_ownH (F := Fence.wide) (n := 9) rfl (by decide) (gf := 65) (lb := #[.pointer (some ⟨W1.heap.size, 0, none⟩)]) rfl trivial (enters_of Try.func65 (by kernel_rfl) rfl)
    hst belowK_t (belowK_b (by omega)) (Below.refl _ _) (fun _ => rfl)
    (fun pre W => (((Boxed W w.heap.size 3 (.int .i64 m) ∧ Boxed W (w.heap.size + 1) 3 (.int .i64 0)) ∧ Boxed W (w.heap.size + 1 + 1) 3 (.int .i64 0)) ∧ Boxed W (w.heap.size + 1 + 1 + 1) 25 (.int .i64 0)) ∧ Aside0 (∀ q ∈ pre, q.1 ≠ m) ∧ Below w.heap.size w W)
    (fun c pre W => c = .ret ∧ (∃ p pre0, ((Boxed W (w.heap.size + 1) 3 (.int .i64 p.2.1) ∧ Boxed W (w.heap.size + 1 + 1) 3 (.int .i64 p.2.2.1)) ∧ Boxed W (w.heap.size + 1 + 1 + 1) 25 (.int .i64 0)) ∧ Aside0 (pre = pre0 ++ [p] ∧ p.1 = m)) ∧ Below w.heap.size w W)
    (OwnFrom.and (OwnFrom.and (OwnFrom.and (OwnFrom.and (Own.from (boxed_own _ _ (fun _ => _)) _) (Own.from (boxed_own _ _ (fun _ => _)) _)) (Own.from (boxed_own _ _ (fun _ => _)) _)) (Own.from (boxed_own _ _ (fun _ => _)) _)) (OwnFrom.and (fun _ _ _ _ hs _ _ => hs) (ownFrom_below (Nat.le_refl _) (by omega))))
    (fun c => OwnFrom.and (fun _ _ _ _ hs _ _ => hs) (OwnFrom.and (fun s X Y row hs hg hr => by
      obtain ⟨p, pre0, ⟨⟨h1, h2⟩, h4⟩, h3⟩ := hs
      exact ⟨p, pre0, ⟨⟨boxed_own _ 3 (fun (_ : Unit) => _) () X Y row h1 hg (fun r e => (hr r e).2), boxed_own _ 3 (fun (_ : Unit) => _) () X Y row h2 hg (fun r e => (hr r e).2)⟩, boxed_own _ 25 (fun (_ : Unit) => _) () X Y row h4 hg (fun r e => (hr r e).2)⟩, h3⟩) (ownFrom_below (Nat.le_refl _) (by omega))))
    ⟨⟨⟨⟨b5, b6⟩, b7⟩, b8⟩, ⟨by simp⟩, hB2⟩
    (fun x a' W => ∃ Bx, w.heap.size + 1 + 1 + 1 < Bx ∧ PBox W Bx x ∧ a' = { tmps := #[.int .i64 b, .slice A l.length c, .int .i64 m, undef, undef, .pointer (some ⟨w.heap.size, 0, none⟩), .pointer (some ⟨w.heap.size + 1, 0, none⟩), .pointer (some ⟨w.heap.size + 1 + 1, 0, none⟩), .pointer (some ⟨w.heap.size + 1 + 1 + 1, 0, none⟩), .pointer (some ⟨Bx, 0, none⟩), .int .i64 b, .slice A l.length c, .bool true, .bool false, .slice A l.length c, .func (.func 65) #[] #[.pointer (some ⟨W1.heap.size, 0, none⟩)], encP x, undef, undef, undef, undef, undef, undef, undef, undef], defers := [] })
    (fun x a' _ X Y row hs hg hr => by
      obtain ⟨Bx, h1, h2, h3⟩ := hs
      exact ⟨Bx, h1, pbox_own Bx x () X Y row h2 hg (fun r e => (hr r e).2), h3⟩)
    ?assign ?body ?done ?stop
  case assign =>
    rintro lp pre x W K ⟨⟨⟨⟨c5, c6⟩, c7⟩, c8⟩, hx, hB⟩ hK
    gi_wp2
    exact hK _ _ ((KeepsOthers.alloc _ _).from _) ((Below.refl _ W).alloc hB.size _) ⟨⟨⟨⟨c5.alloc _, c6.alloc _⟩, c7.alloc _⟩, c8.alloc _⟩, hx, hB.alloc hB.size _⟩ ⟨W.heap.size, c8.lt, World.alloc_heap_new W _, rfl⟩
  case body =>
    rintro lp pre x a' W hl _ ⟨⟨⟨⟨c5, c6⟩, c7⟩, c8⟩, hx, hB⟩ ⟨Bx, hBx, bX, rfl⟩ hlt
    have d5 := c5.cell
    have d6 := c6.cell
    have e6 := c6.frozen
    have d7 := c7.cell
    have e7 := c7.frozen
    have d8 := c8.cell
    have e8 := c8.frozen
    obtain ⟨q0, q1, q2, q3⟩ := bX.cell
    by_cases hkx : x.1 = m
    · have hd : (x.1 == m) = true := by simpa using hkx
      have HKX := Aside0.mk hkx
      clear hkx
      have n1 : Bx ≠ w.heap.size + 1 := by omega
      have n2 : Bx ≠ w.heap.size + 1 + 1 := by omega
      have n3 : Bx ≠ w.heap.size + 1 + 1 + 1 := by omega
      have n4 : w.heap.size + 1 ≠ Bx := by omega
      have n5 : w.heap.size + 1 + 1 ≠ Bx := by omega
      have n6 : w.heap.size + 1 + 1 + 1 ≠ Bx := by omega
      gi_wp2
      gi_region_with_o (fail)
      all_goals gi_wp2
      all_goals exact ⟨((((KeepsOthers.setCell _ _ _).trans (KeepsOthers.setCell _ _ _)).trans (KeepsOthers.setCell _ _ _)).trans (KeepsOthers.drew _)).from _, rfl, ⟨x, pre, ⟨⟨((c6.set _).other (by omega) _).other (by omega) _, ((c7.other (by omega) _).set _).other (by omega) _⟩, ((c8.other (by omega) _).other (by omega) _).set _⟩, ⟨rfl, HKX.out⟩⟩, below_drew (((hB.setCell (p := ⟨w.heap.size + 1, 0, none⟩) (by simp) _).setCell (p := ⟨w.heap.size + 1 + 1, 0, none⟩) (by simp; omega) _).setCell (p := ⟨w.heap.size + 1 + 1 + 1, 0, none⟩) (by simp; omega) _)⟩
    · have hd : (x.1 == m) = false := by simpa using hkx
      have HKX := Aside0.mk hkx
      clear hkx
      gi_wp2
      have hall : ∀ q ∈ pre ++ [x], q.1 ≠ m := fun q hq => by
        rcases List.mem_append.1 hq with hq | hq
        · exact hx.out q hq
        · rw [List.mem_singleton.1 hq]
          exact HKX.out
      exact ⟨KeepsFrom.refl _ _, Below.refl _ _, ⟨⟨⟨⟨c5, c6⟩, c7⟩, c8⟩, ⟨hall⟩, hB⟩⟩
  case done =>
    rintro D ys W hD rfl ⟨⟨⟨⟨c5, c6⟩, c7⟩, c8⟩, hx, hB⟩ hK
    have d6 := c6.cell
    have e6 := c6.frozen
    have d7 := c7.cell
    have e7 := c7.frozen
    have d8 := c8.cell
    have e8 := c8.frozen
    gi_wp2
    have hK' := (((KeepsOthers.setCell W ⟨w.heap.size + 1, 0, none⟩ (.int .i64 0)).trans (KeepsOthers.setCell _ ⟨w.heap.size + 1 + 1, 0, none⟩ (.int .i64 0))).trans (KeepsOthers.setCell _ ⟨w.heap.size + 1 + 1 + 1, 0, none⟩ (.int .i64 7))).same D _ hK rfl
    refine ⟨by simp, .inl ⟨_, _, rfl, run_takeDeferred hK', ?_⟩⟩
    have r6 := cell_kept (((c6.set (.int .i64 0)).other (show w.heap.size + 1 ≠ w.heap.size + 1 + 1 by omega) (.int .i64 0)).other (show w.heap.size + 1 ≠ w.heap.size + 1 + 1 + 1 by omega) (.int .i64 7)).cell (grownBy_putObj' _ D (.deferred none)) (fun r e => by cases e; exact ⟨_, hK', rfl⟩)
    have r7 := cell_kept (((c7.other (show w.heap.size + 1 + 1 ≠ w.heap.size + 1 by omega) (.int .i64 0)).set (.int .i64 0)).other (show w.heap.size + 1 + 1 ≠ w.heap.size + 1 + 1 + 1 by omega) (.int .i64 7)).cell (grownBy_putObj' _ D (.deferred none)) (fun r e => by cases e; exact ⟨_, hK', rfl⟩)
    have r8 := cell_kept (((c8.other (show w.heap.size + 1 + 1 + 1 ≠ w.heap.size + 1 by omega) (.int .i64 0)).other (show w.heap.size + 1 + 1 + 1 ≠ w.heap.size + 1 + 1 by omega) (.int .i64 0)).set (.int .i64 7)).cell (grownBy_putObj' _ D (.deferred none)) (fun r e => by cases e; exact ⟨_, hK', rfl⟩)
    refine ⟨.tuple #[.int .i64 0, .int .i64 0, .int .i64 7], ?_, (((hB.setCell (p := ⟨w.heap.size + 1, 0, none⟩) (by simp) _).setCell (p := ⟨w.heap.size + 1 + 1, 0, none⟩) (by simp; omega) _).setCell (p := ⟨w.heap.size + 1 + 1 + 1, 0, none⟩) (by simp; omega) _).trans (belowK_b (w := w) (Nat.le_refl _) _ D _ _ (by omega) hK' rfl rfl), .inl ⟨rfl, hx.out⟩⟩
    simp [results, Try.f26, go_sem, r6, r7, r8]
  case stop =>
    rintro D c pre W hD hpre ⟨rfl, ⟨p, pre0, ⟨⟨c6, c7⟩, c8⟩, h3⟩, hB⟩ hK
    have d6 := c6.cell
    have d7 := c7.cell
    have d8 := c8.cell
    gi_wp2
    refine ⟨by simp, .inl ⟨_, _, rfl, run_takeDeferred hK, ?_⟩⟩
    have r6 := cell_kept c6.cell (grownBy_putObj' _ D (.deferred none)) (fun r e => by cases e; exact ⟨_, hK, rfl⟩)
    have r7 := cell_kept c7.cell (grownBy_putObj' _ D (.deferred none)) (fun r e => by cases e; exact ⟨_, hK, rfl⟩)
    have r8 := cell_kept c8.cell (grownBy_putObj' _ D (.deferred none)) (fun r e => by cases e; exact ⟨_, hK, rfl⟩)
    obtain ⟨h4, h5⟩ := h3.out
    refine ⟨.tuple #[.int .i64 p.2.1, .int .i64 p.2.2.1, .int .i64 0], ?_, hB.trans (belowK_b (w := w) (Nat.le_refl _) _ D _ _ (by omega) hK rfl rfl), .inr ⟨pre0, p, rfl, h4 ▸ hpre, h5⟩⟩
    simp [results, Try.f26, go_sem, r6, r7, r8]
end Go.Proofs.Ytjpobhdgfdeenaa.A

/- Find and At of package array: the whole. -/
set_option linter.unusedVariables false
set_option linter.unusedSimpArgs false
namespace Go.Proofs.Ytjpobhdgfdeenaa.A
open Go.RowKit Go.Shelf Go.Proofs.YtjpobhdgfdeenaaW.PrintWords Go.Maps
attribute [local go_sem] Oper.semAt_some

theorem find_no1 (b k : Int) (A : Option Addr) (c : Nat) (l : List (List Int)) (w : World) (hr : Kd.C (Kd.slice 3 (Kd.int .i64)) w A l.length l) (hv : validB b l = false) :
    Calls Try.prog 22 #[.int .i64 b, .slice A l.length c, .int .i64 k] w fun e w' => e = .returned (.tuple #[.int .i64 0, .int .i64 1]) ∧ Below w.heap.size w w' := by
  have HR := Aside0.mk hr
  have hm := (C_len hr).2
  clear hr
  refine (callsIn_wide (n := 9)).1 ?_
  have hf15 : Fence.wide.fn 15 := trivial
  have hf39 : Fence.wide.fn 39 := trivial
  refine callsIn_of_wp_marks Try.func22 rfl trivial ?_ rfl
  simp only [Try.ntmps22, List.size_toArray, List.length_cons, List.length_nil, Nat.reduceAdd, Nat.reduceSub, Array.replicate_succ, Array.replicate_zero, List.push_toArray, List.append_toArray, List.nil_append, List.cons_append]
  have b6 := (Boxed.new (w.alloc (.cells #[.int .i64 k] 3)) 3 (.int .i64 0)).alloc (.cells #[.int .i64 0] 25)
  have b7 := Boxed.new ((w.alloc (.cells #[.int .i64 k] 3)).alloc (.cells #[.int .i64 0] 3)) 25 (.int .i64 0)
  simp only [World.size_alloc] at b6 b7
  have hB0 : Below w.heap.size w (((w.alloc (.cells #[.int .i64 k] 3)).alloc (.cells #[.int .i64 0] 3)).alloc (.cells #[.int .i64 0] 25)) := (((Below.refl _ w).alloc (Nat.le_refl _) _).alloc (by simp) _).alloc (by simp; omega) _
  have b5 := ((Boxed.new w 3 (.int .i64 k)).alloc (.cells #[.int .i64 0] 3)).alloc (.cells #[.int .i64 0] 25)
  gi_wp2_with (first | (gi_at_call 15; go_must (refine (callsIn_wide.2 (valid_is hv A c _ (Kd.C_below HR.out hB0))).mono ?_; rintro e W1 ⟨rfl, hb1⟩; replace b5 := boxed_below b5 hb1; replace b6 := boxed_below b6 hb1; replace b7 := boxed_below b7 hb1; have hB1 := hB0.trans (hb1.mono hB0.size); have c5 := b5.cell; have d6 := b6.cell; have e6 := b6.frozen; have d7 := b7.cell; have e7 := b7.frozen)))
  have r6 := ((b6.set (.int .i64 0)).other (show w.heap.size + 1 ≠ w.heap.size + 1 + 1 by omega) (.int .i64 1)).cell
  have r7 := ((b7.other (show w.heap.size + 1 + 1 ≠ w.heap.size + 1 by omega) (.int .i64 0)).set (.int .i64 1)).cell
  exact ⟨.tuple #[.int .i64 0, .int .i64 1], by simp [results, Try.f22, go_sem, r6, r7], rfl, (hB1.setCell (p := ⟨w.heap.size + 1, 0, none⟩) (by simp) _).setCell (p := ⟨w.heap.size + 1 + 1, 0, none⟩) (by simp; omega) _⟩
theorem find_no2 (b k : Int) (A : Option Addr) (c : Nat) (l : List (List Int)) (w : World) (hr : Kd.C (Kd.slice 3 (Kd.int .i64)) w A l.length l) (hv : validB b l = true) (hk : keyB k = false) :
    Calls Try.prog 22 #[.int .i64 b, .slice A l.length c, .int .i64 k] w fun e w' => e = .returned (.tuple #[.int .i64 0, .int .i64 1]) ∧ Below w.heap.size w w' := by
  have HR := Aside0.mk hr
  have hm := (C_len hr).2
  clear hr
  refine (callsIn_wide (n := 9)).1 ?_
  have hf15 : Fence.wide.fn 15 := trivial
  have hf39 : Fence.wide.fn 39 := trivial
  refine callsIn_of_wp_marks Try.func22 rfl trivial ?_ rfl
  simp only [Try.ntmps22, List.size_toArray, List.length_cons, List.length_nil, Nat.reduceAdd, Nat.reduceSub, Array.replicate_succ, Array.replicate_zero, List.push_toArray, List.append_toArray, List.nil_append, List.cons_append]
  have b6 := (Boxed.new (w.alloc (.cells #[.int .i64 k] 3)) 3 (.int .i64 0)).alloc (.cells #[.int .i64 0] 25)
  have b7 := Boxed.new ((w.alloc (.cells #[.int .i64 k] 3)).alloc (.cells #[.int .i64 0] 3)) 25 (.int .i64 0)
  simp only [World.size_alloc] at b6 b7
  have hB0 : Below w.heap.size w (((w.alloc (.cells #[.int .i64 k] 3)).alloc (.cells #[.int .i64 0] 3)).alloc (.cells #[.int .i64 0] 25)) := (((Below.refl _ w).alloc (Nat.le_refl _) _).alloc (by simp) _).alloc (by simp; omega) _
  have b5 := ((Boxed.new w 3 (.int .i64 k)).alloc (.cells #[.int .i64 0] 3)).alloc (.cells #[.int .i64 0] 25)
  gi_wp2_with (first | (gi_at_call 15; go_must (refine (callsIn_wide.2 (valid_is hv A c _ (Kd.C_below HR.out hB0))).mono ?_; rintro e W1 ⟨rfl, hb1⟩; replace b5 := boxed_below b5 hb1; replace b6 := boxed_below b6 hb1; replace b7 := boxed_below b7 hb1; have hB1 := hB0.trans (hb1.mono hB0.size); have c5 := b5.cell; have d6 := b6.cell; have e6 := b6.frozen; have d7 := b7.cell; have e7 := b7.frozen)) | (gi_at_call 39; go_must (refine (callsIn_wide.2 (key_is hk _)).mono ?_; rintro e w3 ⟨rfl, rfl⟩)))
  have r6 := ((b6.set (.int .i64 0)).other (show w.heap.size + 1 ≠ w.heap.size + 1 + 1 by omega) (.int .i64 1)).cell
  have r7 := ((b7.other (show w.heap.size + 1 + 1 ≠ w.heap.size + 1 by omega) (.int .i64 0)).set (.int .i64 1)).cell
  exact ⟨.tuple #[.int .i64 0, .int .i64 1], by simp [results, Try.f22, go_sem, r6, r7], rfl, (hB1.setCell (p := ⟨w.heap.size + 1, 0, none⟩) (by simp) _).setCell (p := ⟨w.heap.size + 1 + 1, 0, none⟩) (by simp; omega) _⟩
theorem at_no (b m : Int) (A : Option Addr) (c : Nat) (l : List (List Int)) (w : World) (hr : Kd.C (Kd.slice 3 (Kd.int .i64)) w A l.length l) (hv : validB b l = false) :
    Calls Try.prog 26 #[.int .i64 b, .slice A l.length c, .int .i64 m] w fun e w' => e = .returned (.tuple #[.int .i64 0, .int .i64 0, .int .i64 1]) ∧ Below w.heap.size w w' := by
  have HR := Aside0.mk hr
  have hm := (C_len hr).2
  clear hr
  refine (callsIn_wide (n := 9)).1 ?_
  have hf15 : Fence.wide.fn 15 := trivial
  have hf39 : Fence.wide.fn 39 := trivial
  refine callsIn_of_wp_marks Try.func26 rfl trivial ?_ rfl
  simp only [Try.ntmps26, List.size_toArray, List.length_cons, List.length_nil, Nat.reduceAdd, Nat.reduceSub, Array.replicate_succ, Array.replicate_zero, List.push_toArray, List.append_toArray, List.nil_append, List.cons_append]
  have b6 := ((Boxed.new (w.alloc (.cells #[.int .i64 m] 3)) 3 (.int .i64 0)).alloc (.cells #[.int .i64 0] 3)).alloc (.cells #[.int .i64 0] 25)
  have b7 := (Boxed.new ((w.alloc (.cells #[.int .i64 m] 3)).alloc (.cells #[.int .i64 0] 3)) 3 (.int .i64 0)).alloc (.cells #[.int .i64 0] 25)
  have b8 := Boxed.new (((w.alloc (.cells #[.int .i64 m] 3)).alloc (.cells #[.int .i64 0] 3)).alloc (.cells #[.int .i64 0] 3)) 25 (.int .i64 0)
  simp only [World.size_alloc] at b6 b7 b8
  have hB0 : Below w.heap.size w ((((w.alloc (.cells #[.int .i64 m] 3)).alloc (.cells #[.int .i64 0] 3)).alloc (.cells #[.int .i64 0] 3)).alloc (.cells #[.int .i64 0] 25)) := ((((Below.refl _ w).alloc (Nat.le_refl _) _).alloc (by simp) _).alloc (by simp; omega) _).alloc (by simp; omega) _
  gi_wp2_with (gi_at_call 15; go_must (refine (callsIn_wide.2 (valid_is hv A c _ (Kd.C_below HR.out hB0))).mono ?_; rintro e W1 ⟨rfl, hb1⟩; replace b6 := boxed_below b6 hb1; replace b7 := boxed_below b7 hb1; replace b8 := boxed_below b8 hb1; have hB1 := hB0.trans (hb1.mono hB0.size); have d6 := b6.cell; have e6 := b6.frozen; have d7 := b7.cell; have e7 := b7.frozen; have d8 := b8.cell; have e8 := b8.frozen))
  have r6 := (((b6.set (.int .i64 0)).other (show w.heap.size + 1 ≠ w.heap.size + 1 + 1 by omega) (.int .i64 0)).other (show w.heap.size + 1 ≠ w.heap.size + 1 + 1 + 1 by omega) (.int .i64 1)).cell
  have r7 := (((b7.other (show w.heap.size + 1 + 1 ≠ w.heap.size + 1 by omega) (.int .i64 0)).set (.int .i64 0)).other (show w.heap.size + 1 + 1 ≠ w.heap.size + 1 + 1 + 1 by omega) (.int .i64 1)).cell
  have r8 := (((b8.other (show w.heap.size + 1 + 1 + 1 ≠ w.heap.size + 1 by omega) (.int .i64 0)).other (show w.heap.size + 1 + 1 + 1 ≠ w.heap.size + 1 + 1 by omega) (.int .i64 0)).set (.int .i64 1)).cell
  exact ⟨.tuple #[.int .i64 0, .int .i64 0, .int .i64 1], by simp [results, Try.f26, go_sem, r6, r7, r8], rfl, ((hB1.setCell (p := ⟨w.heap.size + 1, 0, none⟩) (by simp) _).setCell (p := ⟨w.heap.size + 1 + 1, 0, none⟩) (by simp; omega) _).setCell (p := ⟨w.heap.size + 1 + 1 + 1, 0, none⟩) (by simp; omega) _⟩
end Go.Proofs.Ytjpobhdgfdeenaa.A

/- What Find, Nth and At answer: plain lists. -/
set_option linter.unusedVariables false
set_option linter.unusedSimpArgs false
namespace Go.Proofs.Ytjpobhdgfdeenaa.A
open Go.RowKit Go.Proofs.YtjpobhdgfdeenaaW.PrintWords Go.Maps

theorem posRow_keys : ∀ (r : List Int) (x i k : Int), (posRow x i k r).map (fun p => p.2.2.2) = r ∧ ∀ (j : Nat) (p : Pos), (posRow x i k r)[j]? = some p → p.1 = x + j
  | [], x, i, k => by simp [posRow]
  | y :: r, x, i, k => by
    obtain ⟨h1, h2⟩ := posRow_keys r (x + 1) i (k + 1)
    rw [posRow]
    refine ⟨by simp [h1], fun j p hj => ?_⟩
    cases j with
    | zero => simp at hj; subst hj; simp
    | succ j =>
      have := h2 j p (by simpa using hj)
      rw [this]
      push_cast
      omega
theorem posRow_len' (r : List Int) (x i k : Int) : (posRow x i k r).length = r.length := by
  have := congrArg List.length (posRow_keys r x i k).1
  simpa using this
theorem posAll_keys : ∀ (l : List (List Int)) (x i : Int), (posAll x i l).map (fun p => p.2.2.2) = l.flatten ∧ ∀ (j : Nat) (p : Pos), (posAll x i l)[j]? = some p → p.1 = x + j
  | [], x, i => by simp [posAll]
  | r :: t, x, i => by
    obtain ⟨h1, h2⟩ := posAll_keys t (x + r.length) (i + 1)
    obtain ⟨h3, h4⟩ := posRow_keys r x i 0
    rw [posAll]
    refine ⟨by rw [List.map_append, h1, h3]; rfl, fun j p hj => ?_⟩
    by_cases hjr : j < r.length
    · rw [List.getElem?_append_left (by rw [posRow_len']; exact hjr)] at hj
      exact h4 j p hj
    · rw [List.getElem?_append_right (by rw [posRow_len']; omega), posRow_len'] at hj
      rw [h2 _ p hj]
      omega
theorem idxFrom_split (k : Int) : ∀ (l1 l2 : List Int) (i : Nat), k ∉ l1 → idxFrom k i (l1 ++ k :: l2) = ((i + l1.length : Nat) : Int)
  | [], l2, i, _ => by simp [idxFrom]
  | y :: l1, l2, i, h => by
    simp at h
    rw [List.cons_append, idxFrom, if_neg (Ne.symm h.1), idxFrom_split k l1 l2 (i + 1) h.2]
    simp
    omega
def findF (b : Int) (l : List (List Int)) (k : Int) : Int × Int :=
  if validB b l = true ∧ keyB k = true then (if idxF l.flatten k < 0 then (0, 8) else (idxF l.flatten k, 0)) else (0, 1)
def atF (b : Int) (l : List (List Int)) (m : Int) : Int × Int × Int :=
  if validB b l = true then (if m < 0 ∨ (l.flatten.length : Int) ≤ m then (0, 0, 7) else ((spotF l m).1, m - (spotF l m).2, 0)) else (0, 0, 1)
theorem pos_prefix {l : List (List Int)} {pre : List Pos} {p : Pos} (h : pre ++ [p] <+: posAll 0 0 l) : p.1 = pre.length ∧ ∃ t, l.flatten = pre.map (fun q => q.2.2.2) ++ p.2.2.2 :: t := by
  obtain ⟨t, ht⟩ := h
  obtain ⟨h1, h2⟩ := posAll_keys l 0 0
  refine ⟨?_, t.map (fun q => q.2.2.2), by rw [← h1, ← ht]; simp⟩
  have := h2 pre.length p (by rw [← ht]; simp)
  omega
theorem findF_none {b k : Int} {l : List (List Int)} (hv : validB b l = true) (hk : keyB k = true) (h : ∀ p ∈ posAll 0 0 l, p.2.2.2 ≠ k) : findF b l k = (0, 8) := by
  have hn : k ∉ l.flatten := by
    rw [← (posAll_keys l 0 0).1]
    intro hm
    obtain ⟨p, hp, he⟩ := List.mem_map.1 hm
    exact h p hp he
  have : idxF l.flatten k < 0 := by
    have := (idxFrom_mem k l.flatten 0)
    have h2 : ¬ (0 ≤ idxFrom k 0 l.flatten) := fun hx => hn (this.1 hx)
    unfold idxF
    omega
  unfold findF
  rw [if_pos ⟨hv, hk⟩, if_pos this]
theorem findF_some {b k : Int} {l : List (List Int)} {pre : List Pos} {p : Pos} (hv : validB b l = true) (hk : keyB k = true) (h : pre ++ [p] <+: posAll 0 0 l) (h1 : ∀ q ∈ pre, q.2.2.2 ≠ k) (h2 : p.2.2.2 = k) : findF b l k = (p.1, 0) := by
  obtain ⟨h3, t, h4⟩ := pos_prefix h
  have : idxF l.flatten k = pre.length := by
    rw [h4, h2]
    unfold idxF
    rw [idxFrom_split k _ t 0 (fun hm => by obtain ⟨q, hq, he⟩ := List.mem_map.1 hm; exact h1 q hq he)]
    simp
  unfold findF
  rw [if_pos ⟨hv, hk⟩, if_neg (by rw [this]; omega), this, h3]
theorem atF_none {b m : Int} {l : List (List Int)} (hv : validB b l = true) (h : ∀ p ∈ posAll 0 0 l, p.1 ≠ m) : atF b l m = (0, 0, 7) := by
  unfold atF
  rw [if_pos hv, if_pos]
  by_cases h0 : m < 0
  · exact .inl h0
  · refine .inr ?_
    by_cases h1 : m < 0 + l.flatten.length
    · obtain ⟨p, hp, he⟩ := posAll_all l 0 0 m (by omega) h1
      exact absurd he (h p hp)
    · omega
theorem atF_some {b m : Int} {l : List (List Int)} {pre : List Pos} {p : Pos} (hv : validB b l = true) (h : pre ++ [p] <+: posAll 0 0 l) (h2 : p.1 = m) : atF b l m = (p.2.1, p.2.2.1, 0) := by
  obtain ⟨h3, t, h4⟩ := pos_prefix h
  obtain ⟨j, q, ha, hj, hq, _⟩ := At_of_pos (h.subset (List.mem_append.2 (.inr (List.mem_singleton.2 rfl))))
  have hs := spotF_at ha
  obtain ⟨row, _, hm, _⟩ := ha
  have hl : (l.flatten.length : Int) = pre.length + 1 + t.length := by rw [h4]; simp; omega
  unfold atF
  rw [if_pos hv, if_neg (by omega), ← h2, hs, hj, hq]
  simp only [Prod.mk.injEq, true_and, and_true]
  omega
theorem Find_calls (b k : Int) (A : Option Addr) (c : Nat) (l : List (List Int)) (w : World) (hr : Kd.C (Kd.slice 3 (Kd.int .i64)) w A l.length l) :
    Calls Try.prog 22 #[.int .i64 b, .slice A l.length c, .int .i64 k] w fun e w' => e = .returned (.tuple #[.int .i64 (findF b l k).1, .int .i64 (findF b l k).2]) ∧ Below w.heap.size w w' := by
  cases hv : validB b l with
  | false =>
    have : findF b l k = (0, 1) := by unfold findF; rw [if_neg (by rw [hv]; simp)]
    rw [this]
    exact find_no1 b k A c l w hr hv
  | true =>
    cases hk : keyB k with
    | false =>
      have : findF b l k = (0, 1) := by unfold findF; rw [if_neg (by rw [hk]; simp)]
      rw [this]
      exact find_no2 b k A c l w hr hv hk
    | true =>
      refine (find_in b k A c l w hr hv hk).mono ?_
      rintro e w' ⟨hb, ⟨rfl, h⟩ | ⟨pre, p, rfl, h1, h2, h3⟩⟩
      · rw [findF_none hv hk h]
        exact ⟨rfl, hb⟩
      · rw [findF_some hv hk h1 h2 h3]
        exact ⟨rfl, hb⟩
theorem At_calls (b m : Int) (A : Option Addr) (c : Nat) (l : List (List Int)) (w : World) (hr : Kd.C (Kd.slice 3 (Kd.int .i64)) w A l.length l) :
    Calls Try.prog 26 #[.int .i64 b, .slice A l.length c, .int .i64 m] w fun e w' => e = .returned (.tuple #[.int .i64 (atF b l m).1, .int .i64 (atF b l m).2.1, .int .i64 (atF b l m).2.2]) ∧ Below w.heap.size w w' := by
  cases hv : validB b l with
  | false =>
    have : atF b l m = (0, 0, 1) := by unfold atF; rw [if_neg (by rw [hv]; simp)]
    rw [this]
    exact at_no b m A c l w hr hv
  | true =>
    refine (at_in b m A c l w hr hv).mono ?_
    rintro e w' ⟨hb, ⟨rfl, h⟩ | ⟨pre, p, rfl, h1, h2⟩⟩
    · rw [atF_none hv h]
      exact ⟨rfl, hb⟩
    · rw [atF_some hv h1 h2]
      exact ⟨rfl, hb⟩
end Go.Proofs.Ytjpobhdgfdeenaa.A

/- Find and At of the reference; Nth of both. -/
set_option linter.unusedVariables false
set_option linter.unusedSimpArgs false
namespace Go.Proofs.Ytjpobhdgfdeenaa.A
open Go.RowKit Go.Proofs.YtjpobhdgfdeenaaW.PrintWords Go.Maps

theorem At_some' {l : List (List Int)} {m : Int} (hne : l ≠ []) (h0 : 0 ≤ m) (h1 : m < l.flatten.length) : ∃ j q, At l m j q := by
  obtain ⟨p, hp, he⟩ := posAll_all l 0 0 m h0 (by omega)
  obtain ⟨j, q, ha, _⟩ := At_of_pos hp
  exact ⟨j, q, he ▸ ha⟩
theorem rkey_is {k : Int} {r : Bool} (h : keyB k = r) (w : World) : Calls Try.prog 43 #[.int .i64 k] w fun e w' => e = .returned (.bool r) ∧ w = w' := by
  subst h
  exact Key_calls k w
theorem rFind_calls (b k : Int) (A : Option Addr) (c : Nat) (l : List (List Int)) (w : World) (hr : Kd.C (Kd.slice 3 (Kd.int .i64)) w A l.length l) :
    Calls Try.prog 23 #[.int .i64 b, .slice A l.length c, .int .i64 k] w fun e w' => e = .returned (.tuple #[.int .i64 (findF b l k).1, .int .i64 (findF b l k).2]) ∧ Below w.heap.size w w' := by
  have HR := Aside0.mk hr
  clear hr
  cases hv : validB b l with
  | false =>
    have : findF b l k = (0, 1) := by unfold findF; rw [if_neg (by rw [hv]; simp)]
    rw [this]
    have HV := Aside0.mk hv
    clear hv this
    go_enter Try.func23, Try.ntmps23
    go_wp2_with (go_at_call 19; go_must (refine (rvalid_is HV.out _ _ _ HR.out).mono ?_; rintro e w1 ⟨rfl, hb⟩))
    go_ret2
    exact ⟨rfl, hb⟩
  | true =>
    cases hk : keyB k with
    | false =>
      have : findF b l k = (0, 1) := by unfold findF; rw [if_neg (by rw [hk]; simp)]
      rw [this]
      have HV := Aside0.mk hv
      have HK := Aside0.mk hk
      clear hv hk this
      go_enter Try.func23, Try.ntmps23
      go_wp2_with (first | (go_at_call 19; go_must (refine (rvalid_is HV.out _ _ _ HR.out).mono ?_; rintro e w1 ⟨rfl, hb⟩)) | (go_at_call 43; go_must (refine (rkey_is HK.out _).mono ?_; rintro e w2 ⟨rfl, rfl⟩)))
      go_ret2
      exact ⟨rfl, hb⟩
    | true =>
      have HV := Aside0.mk hv
      have HK := Aside0.mk hk
      have hfew := valid_few hv
      have HFL := fun W h => Aside0.mk (flat_calls A c l W h (by omega))
      by_cases hi : idxF l.flatten k < 0
      · have : findF b l k = (0, 8) := by unfold findF; rw [if_pos ⟨hv, hk⟩, if_pos hi]
        rw [this]
        clear hv hk this
        generalize l.flatten = L at HFL hi hfew
        go_enter Try.func23, Try.ntmps23
        go_wp2_with (first | (go_at_call 19; go_must (refine (rvalid_is HV.out _ _ _ HR.out).mono ?_; rintro e w1 ⟨rfl, hb⟩)) | (go_at_call 43; go_must (refine (rkey_is HK.out _).mono ?_; rintro e w2 ⟨rfl, rfl⟩)) | (go_at_call 48; go_must (refine (HFL _ (Kd.C_below HR.out hb)).out.mono ?_; rintro e w3 ⟨v3, rfl, ho3, hb3⟩; obtain ⟨A3, c3, e3, _, hC3⟩ := OI_reads ho3; subst e3; have HC3 := Aside0.mk hC3; clear hC3 ho3)) | (go_at_call 44; go_must (refine (Index_calls _ _ _ _ _ HC3.out).mono ?_; rintro e w4 ⟨rfl, ⟨m4, rfl⟩⟩)))
        go_ret2
        exact ⟨rfl, pw_below_drewN (hb.trans (hb3.mono hb.size)) _⟩
      · have : findF b l k = (idxF l.flatten k, 0) := by unfold findF; rw [if_pos ⟨hv, hk⟩, if_neg hi]
        rw [this]
        clear hv hk this
        generalize l.flatten = L at HFL hi hfew ⊢
        go_enter Try.func23, Try.ntmps23
        go_wp2_with (first | (go_at_call 19; go_must (refine (rvalid_is HV.out _ _ _ HR.out).mono ?_; rintro e w1 ⟨rfl, hb⟩)) | (go_at_call 43; go_must (refine (rkey_is HK.out _).mono ?_; rintro e w2 ⟨rfl, rfl⟩)) | (go_at_call 48; go_must (refine (HFL _ (Kd.C_below HR.out hb)).out.mono ?_; rintro e w3 ⟨v3, rfl, ho3, hb3⟩; obtain ⟨A3, c3, e3, _, hC3⟩ := OI_reads ho3; subst e3; have HC3 := Aside0.mk hC3; clear hC3 ho3)) | (go_at_call 44; go_must (refine (Index_calls _ _ _ _ _ HC3.out).mono ?_; rintro e w4 ⟨rfl, ⟨m4, rfl⟩⟩)))
        go_ret2
        exact ⟨rfl, pw_below_drewN (hb.trans (hb3.mono hb.size)) _⟩
theorem rkeys_is {b : Int} {l : List (List Int)} {r : Bool} {E : Int} {L : List Int} (h : validB b l = r) (hE : okE r = E) (hL : keysF b l = L) (A : Option Addr) (c : Nat) (w : World) (hr : Kd.C (Kd.slice 3 (Kd.int .i64)) w A l.length l) :
    Calls Try.prog 20 #[.int .i64 b, .slice A l.length c] w fun e w' => ∃ A' c', e = .returned (.tuple #[.slice A' L.length c', .int .i64 E]) ∧ Aside0 (Kd.C (Kd.int .i64) w' A' L.length L) ∧ Below w.heap.size w w' := by
  subst h hE hL
  refine (rKeys_calls b A c l w hr).mono ?_
  rintro e w' ⟨v, rfl, ho, hb⟩
  obtain ⟨A', c', rfl, _, hC⟩ := OI_reads ho
  exact ⟨A', c', rfl, ⟨hC⟩, hb⟩
theorem rAt_calls (b m : Int) (A : Option Addr) (c : Nat) (l : List (List Int)) (w : World) (hr : Kd.C (Kd.slice 3 (Kd.int .i64)) w A l.length l) :
    Calls Try.prog 27 #[.int .i64 b, .slice A l.length c, .int .i64 m] w fun e w' => e = .returned (.tuple #[.int .i64 (atF b l m).1, .int .i64 (atF b l m).2.1, .int .i64 (atF b l m).2.2]) ∧ Below w.heap.size w w' := by
  have HR := Aside0.mk hr
  clear hr
  cases hv : validB b l with
  | false =>
    have : atF b l m = (0, 0, 1) := by unfold atF; rw [if_neg (by rw [hv]; simp)]
    rw [this]
    have hk : keysF b l = [] := by unfold keysF; rw [if_neg (by rw [hv]; simp)]
    have HK := fun W h => Aside0.mk (rkeys_is hv (E := 1) rfl hk A c W h)
    clear hv this hk
    go_enter Try.func27, Try.ntmps27
    go_wp2_with (go_at_call 20; go_must (refine (HK _ HR.out).out.mono ?_; rintro e w1 ⟨A', c', rfl, HC, hb⟩))
    go_ret3
    exact ⟨rfl, hb⟩
  | true =>
    have hk : keysF b l = l.flatten := by unfold keysF; rw [if_pos hv]
    have HK := fun W h => Aside0.mk (rkeys_is hv (E := 0) rfl hk A c W h)
    have hfew := valid_few hv
    by_cases h0 : m < 0
    · have : atF b l m = (0, 0, 7) := by unfold atF; rw [if_pos hv, if_pos (.inl h0)]
      rw [this]
      clear hv this hk
      generalize l.flatten = L at HK hfew
      go_enter Try.func27, Try.ntmps27
      go_wp2_with (go_at_call 20; go_must (refine (HK _ HR.out).out.mono ?_; rintro e w1 ⟨A', c', rfl, HC, hb⟩))
      go_ret3
      exact ⟨rfl, hb⟩
    · by_cases h1 : (l.flatten.length : Int) ≤ m
      · have : atF b l m = (0, 0, 7) := by unfold atF; rw [if_pos hv, if_pos (.inr h1)]
        rw [this]
        clear hv this hk
        generalize l.flatten = L at HK hfew h1
        go_enter Try.func27, Try.ntmps27
        go_wp2_with (go_at_call 20; go_must (refine (HK _ HR.out).out.mono ?_; rintro e w1 ⟨A', c', rfl, HC, hb⟩))
        go_ret3
        exact ⟨rfl, hb⟩
      · have hat : atF b l m = ((spotF l m).1, m - (spotF l m).2, 0) := by unfold atF; rw [if_pos hv, if_neg (by omega)]
        rw [hat]
        have hne : l ≠ [] := by rintro rfl; simp at h1; omega
        obtain ⟨j, q, ha⟩ := At_some' (m := m) hne (by omega) (by omega)
        have hs := spotF_at ha
        obtain ⟨row, hrw, hmq, _⟩ := ha
        have hfl := flat_len l j
        have HSP := fun W h => Aside0.mk (spot_calls A c l m W h (by omega))
        simp only [hs] at HSP ⊢
        clear hs
        generalize (l.take j).flatten.length = F at HSP hmq hfl ⊢
        have hw1 : IntKind.i64.wrap (m - (F : Int)) = m - F := by rw [IntKind.wrap_i64]; omega
        clear hv hat hk hmq
        generalize l.flatten = L at HK hfew h1 hfl
        go_enter Try.func27, Try.ntmps27
        go_wp2_with (first | (go_at_call 20; go_must (refine (HK _ HR.out).out.mono ?_; rintro e w1 ⟨A', c', rfl, HC, hb⟩)) | (go_at_call 50; go_must (refine (HSP _ (Kd.C_below HR.out hb)).out.mono ?_; rintro e w2 ⟨rfl, ⟨m2, rfl⟩⟩)))
        go_ret3
        exact ⟨rfl, pw_below_drewN hb _⟩
end Go.Proofs.Ytjpobhdgfdeenaa.A

/- Nth of package array and of the reference. -/
set_option linter.unusedVariables false
set_option linter.unusedSimpArgs false
namespace Go.Proofs.Ytjpobhdgfdeenaa.A
open Go.RowKit Go.Proofs.YtjpobhdgfdeenaaW.PrintWords Go.Maps

def nthL (L : List Int) (n : Int) : Int × Int :=
  if n = 0 then (0, 7) else if n < -(L.length : Int) ∨ (L.length : Int) < n then (0, 8) else if n < 0 then (L.getD ((L.length : Int) + n).toNat 0, 0) else (L.getD (n - 1).toNat 0, 0)
def nthF (b : Int) (l : List (List Int)) (n : Int) : Int × Int := if validB b l = true then nthL l.flatten n else (0, 1)
theorem nthL_zero {L : List Int} {n : Int} (h : n = 0) : nthL L n = (0, 7) := by unfold nthL; rw [if_pos h]
theorem nthL_out {L : List Int} {n : Int} (h : n ≠ 0) (h1 : n < -(L.length : Int) ∨ (L.length : Int) < n) : nthL L n = (0, 8) := by unfold nthL; rw [if_neg h, if_pos h1]
theorem nthL_neg {L : List Int} {n : Int} (h : n < 0) (h1 : -(L.length : Int) ≤ n) : nthL L n = (L.getD ((L.length : Int) + n).toNat 0, 0) := by unfold nthL; rw [if_neg (by omega), if_neg (by omega), if_pos h]
theorem nthL_pos {L : List Int} {n : Int} (h : 0 < n) (h1 : n ≤ (L.length : Int)) : nthL L n = (L.getD (n - 1).toNat 0, 0) := by unfold nthL; rw [if_neg (by omega), if_neg (by omega), if_neg (by omega)]
theorem C_at {w : World} {A : Option Addr} {L : List Int} (h : Kd.C (Kd.int .i64) w A L.length L) (i : Int) (h0 : 0 ≤ i) (h1 : i < L.length) : ∃ ad x, A = some ad ∧ Aside0 (x = L.getD i.toNat 0) ∧ w.cell? (ad.add i.toNat) = some (.int .i64 x) := by
  obtain ⟨ad, x, hA, hd, hc⟩ := C_int h i.toNat (by omega)
  refine ⟨ad, x, hA, ⟨?_⟩, hc⟩
  have hi : i.toNat < L.length := by omega
  rw [List.drop_eq_getElem_cons hi] at hd
  injection hd with hd _
  rw [List.getD_eq_getElem?_getD, List.getElem?_eq_getElem hi, Option.getD_some, hd]
theorem C_at2 {w : World} {A : Option Addr} {L : List Int} (h : Kd.C (Kd.int .i64) w A L.length L) (i : Nat) (h1 : i < L.length) : ∃ ad x, A = some ad ∧ Aside0 (x = L.getD i 0) ∧ w.cell? (ad.add i) = some (.int .i64 x) := by
  obtain ⟨ad, x, hA, hx, hc⟩ := C_at h (i : Int) (by omega) (by omega)
  exact ⟨ad, x, hA, ⟨by simpa using hx.out⟩, by simpa using hc⟩
theorem keys_is {b : Int} {l : List (List Int)} {L : List Int} (A : Option Addr) (c : Nat) (w : World) (hs : l.flatten.length ≤ 1000000) (hL : l.flatten = L) (hr : Kd.C (Kd.slice 3 (Kd.int .i64)) w A l.length l) :
    Calls Try.prog 46 #[.slice A l.length c] w fun e w' => ∃ A' c', e = .returned (.slice A' L.length c') ∧ Kd.C (Kd.int .i64) w' A' L.length L ∧ Below w.heap.size w w' := by
  subst hL
  refine (listed_calls A c l w hr hs).mono ?_
  rintro e w' ⟨v, rfl, ho, hb⟩
  obtain ⟨A', c', rfl, _, hC⟩ := OI_reads ho
  exact ⟨A', c', rfl, hC, hb⟩
set_option maxHeartbeats 1000000 in
theorem Nth_calls (b n : Int) (A : Option Addr) (c : Nat) (l : List (List Int)) (w : World) (hr : Kd.C (Kd.slice 3 (Kd.int .i64)) w A l.length l) :
    Calls Try.prog 24 #[.int .i64 b, .slice A l.length c, .int .i64 n] w fun e w' => e = .returned (.tuple #[.int .i64 (nthF b l n).1, .int .i64 (nthF b l n).2]) ∧ Below w.heap.size w w' := by
  have HR := Aside0.mk hr
  clear hr
  cases hv : validB b l with
  | false =>
    have : nthF b l n = (0, 1) := by unfold nthF; rw [if_neg (by rw [hv]; simp)]
    rw [this]
    have hk : keysF b l = [] := by unfold keysF; rw [if_neg (by rw [hv]; simp)]
    have HK := fun W h => Aside0.mk (rkeys_is hv (E := 1) rfl hk A c W h)
    have HV := Aside0.mk hv
    clear hv this hk
    go_enter Try.func24, Try.ntmps24
    go_wp2_with (go_at_call 15; go_must (refine (valid_is HV.out _ _ _ HR.out).mono ?_; rintro e w1 ⟨rfl, hb⟩))
    go_ret2
    exact ⟨rfl, hb⟩
  | true =>
    have hn : nthF b l n = nthL l.flatten n := by unfold nthF; rw [if_pos hv]
    rw [hn]
    have hfew := valid_few hv
    have hk : keysF b l = l.flatten := by unfold keysF; rw [if_pos hv]
    have HK := fun W h => Aside0.mk (rkeys_is hv (E := 0) rfl hk A c W h)
    have HLI := fun W h => Aside0.mk (keys_is (b := b) (l := l) A c W (by omega) rfl h)
    have HV := Aside0.mk hv
    clear hv hn hk
    generalize l.flatten = L at HK HLI hfew ⊢
    have hneg : IntKind.i64.wrap (-(L.length : Int)) = -(L.length : Int) := by rw [IntKind.wrap_i64]; omega
    by_cases h0 : n = 0
    · have HZ := Aside0.mk (nthL_zero (L := L) h0)
      subst h0
      go_enter Try.func24, Try.ntmps24
      go_wp2_with (first | (go_at_call 15; go_must (refine (valid_is HV.out _ _ _ HR.out).mono ?_; rintro e w1 ⟨rfl, hb⟩)) | (go_at_call 46; go_must (refine (HLI _ (Kd.C_below HR.out hb)).out.mono ?_; rintro e w2 ⟨AK, cK, rfl, hCK, hb2⟩; have HCK := Aside0.mk hCK; have hbK := hb.trans (hb2.mono hb.size); clear hCK hb2; skip)))
      go_ret2
      exact ⟨ret2w HZ.out, hbK⟩
    · have hne : (n == 0) = false := by simpa using h0
      by_cases h1 : n < -(L.length : Int)
      · have HZ := Aside0.mk (nthL_out h0 (.inl h1))
        have h2 : ¬ (0 < n) := by omega
        have h3 : n < 0 := by omega
        have h4 : ¬ (-(L.length : Int) ≤ n) := by omega
        clear h0
        go_enter Try.func24, Try.ntmps24
        go_wp2_with (first | (go_at_call 15; go_must (refine (valid_is HV.out _ _ _ HR.out).mono ?_; rintro e w1 ⟨rfl, hb⟩)) | (go_at_call 46; go_must (refine (HLI _ (Kd.C_below HR.out hb)).out.mono ?_; rintro e w2 ⟨AK, cK, rfl, hCK, hb2⟩; have HCK := Aside0.mk hCK; have hbK := hb.trans (hb2.mono hb.size); clear hCK hb2; skip)))
        go_ret2
        exact ⟨ret2w HZ.out, hbK⟩
      · by_cases h2 : (L.length : Int) < n
        · have HZ := Aside0.mk (nthL_out h0 (.inr h2))
          have h3 : 0 < n := by omega
          have h4 : ¬ (n < 0) := by omega
          have h5 : ¬ (n ≤ (L.length : Int)) := by omega
          clear h0
          go_enter Try.func24, Try.ntmps24
          go_wp2_with (first | (go_at_call 15; go_must (refine (valid_is HV.out _ _ _ HR.out).mono ?_; rintro e w1 ⟨rfl, hb⟩)) | (go_at_call 46; go_must (refine (HLI _ (Kd.C_below HR.out hb)).out.mono ?_; rintro e w2 ⟨AK, cK, rfl, hCK, hb2⟩; have HCK := Aside0.mk hCK; have hbK := hb.trans (hb2.mono hb.size); clear hCK hb2; skip)))
          go_ret2
          exact ⟨ret2w HZ.out, hbK⟩
        · by_cases h3 : n < 0
          · have HZ := Aside0.mk (nthL_neg (L := L) h3 (by omega))
            have h4 : ¬ (0 < n) := by omega
            have h5 : -(L.length : Int) ≤ n := by omega
            have hw : IntKind.i64.wrap ((L.length : Int) + n) = (L.length : Int) + n := by rw [IntKind.wrap_i64]; omega
            have hi0 : 0 ≤ (L.length : Int) + n := by omega
            have hi1 : (L.length : Int) + n < (L.length : Int) := by omega
            clear h0
            go_enter Try.func24, Try.ntmps24
            go_wp2_with (first | (go_at_call 15; go_must (refine (valid_is HV.out _ _ _ HR.out).mono ?_; rintro e w1 ⟨rfl, hb⟩)) | (go_at_call 46; go_must (refine (HLI _ (Kd.C_below HR.out hb)).out.mono ?_; rintro e w2 ⟨AK, cK, rfl, hCK, hb2⟩; have HCK := Aside0.mk hCK; have hbK := hb.trans (hb2.mono hb.size); clear hCK hb2; obtain ⟨adK, xK, rfl, HXK, hcK⟩ := C_at HCK.out ((L.length : Int) + n) hi0 hi1; skip)))
            go_ret2
            exact ⟨ret2w (by rw [HZ.out, HXK.out]), hbK⟩
          · obtain ⟨M, rfl⟩ : ∃ M : Nat, n = (M : Int) + 1 := ⟨(n - 1).toNat, by omega⟩
            have h4 : 0 < (M : Int) + 1 := by omega
            have HZ : Aside0 (nthL L ((M : Int) + 1) = (L.getD M 0, 0)) := ⟨by rw [nthL_pos h4 (by omega)]; simp⟩
            have h5 : (M : Int) + 1 ≤ (L.length : Int) := by omega
            have hw : IntKind.i64.wrap (M : Int) = M := by rw [IntKind.wrap_i64]; omega
            have hi0 : (0 : Int) ≤ (M : Int) := by omega
            have hi1 : (M : Int) < (L.length : Int) := by omega
            have hi2 : M < L.length := by omega
            clear h0
            go_enter Try.func24, Try.ntmps24
            go_wp2_with (first | (go_at_call 15; go_must (refine (valid_is HV.out _ _ _ HR.out).mono ?_; rintro e w1 ⟨rfl, hb⟩)) | (go_at_call 46; go_must (refine (HLI _ (Kd.C_below HR.out hb)).out.mono ?_; rintro e w2 ⟨AK, cK, rfl, hCK, hb2⟩; have HCK := Aside0.mk hCK; have hbK := hb.trans (hb2.mono hb.size); clear hCK hb2; obtain ⟨adK, xK, rfl, HXK, hcK⟩ := C_at2 HCK.out M hi2; skip)))
            go_ret2
            exact ⟨ret2w (by rw [HZ.out, HXK.out]), hbK⟩
set_option maxHeartbeats 1000000 in
theorem rNth_calls (b n : Int) (A : Option Addr) (c : Nat) (l : List (List Int)) (w : World) (hr : Kd.C (Kd.slice 3 (Kd.int .i64)) w A l.length l) :
    Calls Try.prog 25 #[.int .i64 b, .slice A l.length c, .int .i64 n] w fun e w' => e = .returned (.tuple #[.int .i64 (nthF b l n).1, .int .i64 (nthF b l n).2]) ∧ Below w.heap.size w w' := by
  have HR := Aside0.mk hr
  clear hr
  cases hv : validB b l with
  | false =>
    have : nthF b l n = (0, 1) := by unfold nthF; rw [if_neg (by rw [hv]; simp)]
    rw [this]
    have hk : keysF b l = [] := by unfold keysF; rw [if_neg (by rw [hv]; simp)]
    have HK := fun W h => Aside0.mk (rkeys_is hv (E := 1) rfl hk A c W h)
    have HV := Aside0.mk hv
    clear hv this hk
    go_enter Try.func25, Try.ntmps25
    go_wp2_with (go_at_call 20; go_must (refine (HK _ HR.out).out.mono ?_; rintro e w1 ⟨A', c', rfl, HC, hb⟩))
    go_ret2
    exact ⟨rfl, hb⟩
  | true =>
    have hn : nthF b l n = nthL l.flatten n := by unfold nthF; rw [if_pos hv]
    rw [hn]
    have hfew := valid_few hv
    have hk : keysF b l = l.flatten := by unfold keysF; rw [if_pos hv]
    have HK := fun W h => Aside0.mk (rkeys_is hv (E := 0) rfl hk A c W h)
    have HLI := fun W h => Aside0.mk (keys_is (b := b) (l := l) A c W (by omega) rfl h)
    have HV := Aside0.mk hv
    clear hv hn hk
    generalize l.flatten = L at HK HLI hfew ⊢
    have hneg : IntKind.i64.wrap (-(L.length : Int)) = -(L.length : Int) := by rw [IntKind.wrap_i64]; omega
    by_cases h0 : n = 0
    · have HZ := Aside0.mk (nthL_zero (L := L) h0)
      subst h0
      go_enter Try.func25, Try.ntmps25
      go_wp2_with (go_at_call 20; go_must (refine (HK _ HR.out).out.mono ?_; rintro e w1 ⟨AK, cK, rfl, HCK, hbK⟩; skip))
      go_ret2
      exact ⟨ret2w HZ.out, hbK⟩
    · have hne : (n == 0) = false := by simpa using h0
      by_cases h1 : n < -(L.length : Int)
      · have HZ := Aside0.mk (nthL_out h0 (.inl h1))
        have h2 : ¬ (0 < n) := by omega
        have h3 : n < 0 := by omega
        have h4 : ¬ (-(L.length : Int) ≤ n) := by omega
        clear h0
        go_enter Try.func25, Try.ntmps25
        go_wp2_with (go_at_call 20; go_must (refine (HK _ HR.out).out.mono ?_; rintro e w1 ⟨AK, cK, rfl, HCK, hbK⟩; skip))
        go_ret2
        exact ⟨ret2w HZ.out, hbK⟩
      · by_cases h2 : (L.length : Int) < n
        · have HZ := Aside0.mk (nthL_out h0 (.inr h2))
          have h3 : 0 < n := by omega
          have h4 : ¬ (n < 0) := by omega
          have h5 : ¬ (n ≤ (L.length : Int)) := by omega
          clear h0
          go_enter Try.func25, Try.ntmps25
          go_wp2_with (go_at_call 20; go_must (refine (HK _ HR.out).out.mono ?_; rintro e w1 ⟨AK, cK, rfl, HCK, hbK⟩; skip))
          go_ret2
          exact ⟨ret2w HZ.out, hbK⟩
        · by_cases h3 : n < 0
          · have HZ := Aside0.mk (nthL_neg (L := L) h3 (by omega))
            have h4 : ¬ (0 < n) := by omega
            have h5 : -(L.length : Int) ≤ n := by omega
            have hw : IntKind.i64.wrap ((L.length : Int) + n) = (L.length : Int) + n := by rw [IntKind.wrap_i64]; omega
            have hi0 : 0 ≤ (L.length : Int) + n := by omega
            have hi1 : (L.length : Int) + n < (L.length : Int) := by omega
            clear h0
            go_enter Try.func25, Try.ntmps25
            go_wp2_with (go_at_call 20; go_must (refine (HK _ HR.out).out.mono ?_; rintro e w1 ⟨AK, cK, rfl, HCK, hbK⟩; obtain ⟨adK, xK, rfl, HXK, hcK⟩ := C_at HCK.out ((L.length : Int) + n) hi0 hi1; skip))
            go_ret2
            exact ⟨ret2w (by rw [HZ.out, HXK.out]), hbK⟩
          · obtain ⟨M, rfl⟩ : ∃ M : Nat, n = (M : Int) + 1 := ⟨(n - 1).toNat, by omega⟩
            have h4 : 0 < (M : Int) + 1 := by omega
            have HZ : Aside0 (nthL L ((M : Int) + 1) = (L.getD M 0, 0)) := ⟨by rw [nthL_pos h4 (by omega)]; simp⟩
            have h5 : (M : Int) + 1 ≤ (L.length : Int) := by omega
            have hw : IntKind.i64.wrap (M : Int) = M := by rw [IntKind.wrap_i64]; omega
            have hi0 : (0 : Int) ≤ (M : Int) := by omega
            have hi1 : (M : Int) < (L.length : Int) := by omega
            have hi2 : M < L.length := by omega
            clear h0
            go_enter Try.func25, Try.ntmps25
            go_wp2_with (go_at_call 20; go_must (refine (HK _ HR.out).out.mono ?_; rintro e w1 ⟨AK, cK, rfl, HCK, hbK⟩; obtain ⟨adK, xK, rfl, HXK, hcK⟩ := C_at2 HCK.out M hi2; skip))
            go_ret2
            exact ⟨ret2w (by rw [HZ.out, HXK.out]), hbK⟩
end Go.Proofs.Ytjpobhdgfdeenaa.A

/- The law ArrayFinds. -/
set_option linter.unusedVariables false
set_option linter.unusedSimpArgs false
namespace Go.Proofs.Ytjpobhdgfdeenaa.A
open Go.RowKit Go.Proofs.YtjpobhdgfdeenaaW.PrintWords Go.Maps

theorem at_ok {b m : Int} {l : List (List Int)} (h : (atF b l m).2.2 = 0) : ∃ (j q M : Nat) (row : List Int), validB b l = true ∧ m = M ∧ atF b l m = ((j : Int), (q : Int), 0) ∧ l[j]? = some row ∧ q < row.length ∧ M < l.flatten.length ∧ l.flatten[M]? = row[q]? := by
  unfold atF at h
  split at h
  · rename_i hv
    split at h
    · cases h
    · rename_i hm
      have hne : l ≠ [] := by rintro rfl; simp at hm; omega
      obtain ⟨p, hp, he⟩ := posAll_all l 0 0 m (by omega) (by omega)
      obtain ⟨j, q, ha, hj, hq, hf⟩ := At_of_pos hp
      rw [he] at ha
      have hs := spotF_at ha
      obtain ⟨row, hr, hmq, hor⟩ := ha
      have hat : atF b l m = ((spotF l m).1, m - (spotF l m).2, 0) := by unfold atF; rw [if_pos hv, if_neg hm]
      have hsp := split_at hr
      have hf2 : l.flatten = (l.take j).flatten ++ (row ++ (l.drop (j + 1)).flatten) := by
        conv => lhs; rw [hsp]
        simp
      have hlen : l.flatten.length = (l.take j).flatten.length + (row.length + (l.drop (j + 1)).flatten.length) := by
        conv => lhs; rw [hf2]
        simp
      have hqr : q < row.length := by
        rcases hor with h | ⟨h1, h2⟩
        · exact h
        · have : l.drop (j + 1) = [] := List.drop_eq_nil_of_le (by omega)
          rw [this, List.flatten_nil, List.length_nil] at hlen
          omega
      refine ⟨j, q, (l.take j).flatten.length + q, row, hv, hmq, by rw [hat, hs]; simp only [Prod.mk.injEq, true_and, and_true]; omega, hr, hqr, by omega, ?_⟩
      conv => lhs; arg 1; rw [hf2]
      rw [List.getElem?_append_right (by omega), Nat.add_sub_cancel_left, List.getElem?_append_left hqr]
  · cases h
theorem find_at {b x : Int} {M : Nat} {l : List (List Int)} (hv : validB b l = true) (h : l.flatten[M]? = some x) : findF b l x = ((M : Int), 0) := by
  have ha := (validB_iff b l).1 hv
  have hx : x ∈ l.flatten := List.mem_of_getElem? h
  have hM : M < l.flatten.length := (List.getElem?_eq_some_iff.1 h).1
  have hs : l.flatten = l.flatten.take M ++ x :: l.flatten.drop (M + 1) := by
    have h6 : l.flatten[M] = x := (List.getElem?_eq_some_iff.1 h).2
    rw [← h6, ← List.drop_eq_getElem_cons hM, List.take_append_drop]
  have hn : x ∉ l.flatten.take M := fun hm => by
    have := ha.nodup
    rw [hs, List.nodup_append] at this
    exact this.2.2 x hm x (by simp) rfl
  have hi : idxF l.flatten x = M := by
    unfold idxF
    conv => lhs; arg 3; rw [hs]
    rw [idxFrom_split x _ _ 0 hn, List.length_take]
    omega
  unfold findF
  rw [if_pos ⟨hv, ha.keys x hx⟩, hi, if_neg (by omega)]
theorem C_rowcell {w : World} {A : Option Addr} {l : List (List Int)} {j q : Nat} {row : List Int} {x : Int} (h : Kd.C (Kd.slice 3 (Kd.int .i64)) w A l.length l) (hr : l[j]? = some row) (hx : row[q]? = some x) :
    ∃ ad ad2 c0, A = some ad ∧ w.cell? (ad.add j) = some (.slice (some ad2) row.length c0) ∧ row.length ≤ c0 ∧ w.cell? (ad2.add q) = some (.int .i64 x) := by
  have hjl : j < l.length := (List.getElem?_eq_some_iff.1 hr).1
  have hql : q < row.length := (List.getElem?_eq_some_iff.1 hx).1
  obtain ⟨ad, A0, c0, row2, hA, hdrop, hcell, hrl, hrowC⟩ := C_row h j hjl
  have hr2 : row2 = row := by
    rw [List.drop_eq_getElem_cons hjl] at hdrop
    injection hdrop with h1 _
    rw [← h1]
    exact (List.getElem?_eq_some_iff.1 hr).2
  subst hr2
  obtain ⟨ad2, y, hA2, hd2, hc2⟩ := C_int hrowC q hql
  have hy : y = x := by
    rw [List.drop_eq_getElem_cons hql] at hd2
    injection hd2 with h1 _
    rw [← h1]
    exact (List.getElem?_eq_some_iff.1 hx).2
  subst hA2 hy
  exact ⟨ad, ad2, c0, hA, hcell, hrl, hc2⟩
theorem drop_get {L r : List Int} {M : Nat} {x y : Int} (h : L.drop M = y :: r) (hx : L[M]? = some x) : y = x := by
  have hM : M < L.length := (List.getElem?_eq_some_iff.1 hx).1
  rw [List.drop_eq_getElem_cons hM] at h
  injection h with h _
  rw [← h]
  exact (List.getElem?_eq_some_iff.1 hx).2
set_option maxRecDepth 100000 in
set_option maxHeartbeats 4000000 in
theorem lawFinds_row (w : World) (b : Int) (_ : (Lit.int .i64 b).wf = true) (A : Option Addr) (c : Nat) (l : List (List Int)) (hr : Kd.C (Kd.slice 3 (Kd.int .i64)) w A l.length l) (_ : ∀ r ∈ l, ∀ n ∈ r, (Lit.int .i64 n).wf = true) (k : Int) (_ : (Lit.int .i64 k).wf = true) (n : Int) (_ : (Lit.int .i64 n).wf = true) :
    Calls Try.prog 5 #[.int .i64 b, .slice A l.length c, .int .i64 k, .int .i64 n] w fun e w' => e = .returned (.bool true) ∧ Below w.heap.size w w' := by
  have HR := Aside0.mk hr
  cases hl : lightF l with
  | false =>
    have HL := fun W h => Aside0.mk (light_calls A c l W h)
    rw [hl] at HL
    clear hr hl
    go_enter Try.func5, Try.ntmps5
    go_wp2_with (first | (go_at_call 16; go_must (refine (HL _ HR.out).out.mono ?_; rintro e w1 ⟨rfl, ⟨m, rfl⟩⟩)) | (go_at_call 9; go_must (refine (awake_calls _).mono ?_; rintro e w2 ⟨rfl, hb2⟩)))
    go_ret
    exact ⟨rfl, (pw_below_drewN (Below.refl _ _) m).trans hb2⟩
  | true =>
    have HL := fun W h => Aside0.mk (light_calls A c l W h)
    rw [hl] at HL
    clear hl
    have HF := fun W h => Aside0.mk (Find_calls b k A c l W h)
    have HRF := fun W h => Aside0.mk (rFind_calls b k A c l W h)
    have HN := fun W h => Aside0.mk (Nth_calls b n A c l W h)
    have HRN := fun W h => Aside0.mk (rNth_calls b n A c l W h)
    have HA := fun W h => Aside0.mk (At_calls b n A c l W h)
    have HRA := fun W h => Aside0.mk (rAt_calls b n A c l W h)
    generalize (findF b l k).1 = F1 at HF HRF
    generalize (findF b l k).2 = F2 at HF HRF
    generalize (nthF b l n).1 = N1 at HN HRN
    generalize (nthF b l n).2 = N2 at HN HRN
    by_cases hE : (atF b l n).2.2 = 0
    · obtain ⟨j, q, M, row, hv, rfl, hat, hrow, hq, hM, hfx⟩ := at_ok hE
      obtain ⟨x, hx⟩ : ∃ x, row[q]? = some x := ⟨row[q], List.getElem?_eq_getElem hq⟩
      rw [hx] at hfx
      have HF2 := fun W h => Aside0.mk (Find_calls b x A c l W h)
      simp only [find_at hv hfx] at HF2
      simp only [hat] at HA HRA
      have hk : keysF b l = l.flatten := by unfold keysF; rw [if_pos hv]
      have HK := fun W h => Aside0.mk (Keys_calls b A c l W h)
      rw [hk, hv] at HK
      obtain ⟨ad, ad2, c0, rfl, hc1, hc0, hc2⟩ := C_rowcell hr hrow hx
      have hjl : j < l.length := (List.getElem?_eq_some_iff.1 hrow).1
      have hj1 : (j : Int) < (l.length : Int) := by omega
      have hq1 : (q : Int) < (row.length : Int) := by omega
      have hfew := valid_few hv
      clear hr hE hat hk hrow hx hv
      generalize l.flatten = L at HK hfx hM hfew
      have hM0 : (M : Int) < (L.length : Int) := by omega
      go_enter Try.func5, Try.ntmps5
      go_wp2_with (first | (go_at_call 16; go_must (refine (HL _ HR.out).out.mono ?_; rintro e w1 ⟨rfl, ⟨m, rfl⟩⟩; have hb1 := pw_below_drewN (Below.refl w.heap.size w) m)) | (go_at_call 22; (with_reducible refine (HF _ (Kd.C_below HR.out hb1)).out.mono ?_); go_must (rintro e w2 ⟨rfl, hb2'⟩; have hb2 := hb1.trans (hb2'.mono hb1.size); clear hb2')) | (go_at_call 23; (with_reducible refine (HRF _ (Kd.C_below HR.out hb2)).out.mono ?_); go_must (rintro e w3 ⟨rfl, hb3'⟩; have hb3 := hb2.trans (hb3'.mono hb2.size); clear hb3')) | (go_at_call 24; (with_reducible refine (HN _ (Kd.C_below HR.out hb3)).out.mono ?_); go_must (rintro e w4 ⟨rfl, hb4'⟩; have hb4 := hb3.trans (hb4'.mono hb3.size); clear hb4')) | (go_at_call 25; (with_reducible refine (HRN _ (Kd.C_below HR.out hb4)).out.mono ?_); go_must (rintro e w5 ⟨rfl, hb5'⟩; have hb5 := hb4.trans (hb5'.mono hb4.size); clear hb5')) | (go_at_call 26; (with_reducible refine (HA _ (Kd.C_below HR.out hb5)).out.mono ?_); go_must (rintro e w6 ⟨rfl, hb6'⟩; have hb6 := hb5.trans (hb6'.mono hb5.size); clear hb6')) | (go_at_call 27; (with_reducible refine (HRA _ (Kd.C_below HR.out hb6)).out.mono ?_); go_must (rintro e w7 ⟨rfl, hb7'⟩; have hb7 := hb6.trans (hb7'.mono hb6.size); clear hb7')) | (go_at_call 13; go_must (refine (HK _ (Kd.C_below HR.out hb7)).out.mono ?_; rintro e w8 ⟨v8, rfl, ho8, hb8'⟩; have hb8 := hb7.trans (hb8'.mono hb7.size); clear hb8'; obtain ⟨A8, c8, e8, _, hC8⟩ := OI_reads ho8; subst e8; have HC8 := Aside0.mk hC8; clear hC8 ho8; have hc18 := pw_cell_below hb8 hc1; have hc28 := pw_cell_below hb8 hc2)) | (go_at_call 22; (with_reducible refine (HF2 _ (Kd.C_below HR.out hb8)).out.mono ?_); go_must (rintro e w9 ⟨rfl, hb9'⟩; have hb9 := hb8.trans (hb9'.mono hb8.size); obtain ⟨ad8, y8, hA8, hd8, hc8⟩ := C_int HC8.out M hM; subst hA8; have hc89 := pw_cell_below hb9' hc8; have hc19 := pw_cell_below hb9' hc18; have hc29 := pw_cell_below hb9' hc28; clear hb9'; have hyx := Aside0.mk (drop_get hd8 hfx); clear hc8 hc18 hc28 hd8)))
      have hy8 := hyx.out
      subst hy8
      go_quiet (fail)
      go_wp2_with (go_at_call 9; go_must (refine (awake_calls _).mono ?_; rintro e w10 ⟨rfl, hb10⟩))
      go_ret
      exact ⟨rfl, (pw_below_drewN hb9 _).trans (hb10.mono hb9.size)⟩
    · have hE3 : ((atF b l n).2.2 == 0) = false := by simpa using hE
      generalize (atF b l n).1 = X1 at HA HRA
      generalize (atF b l n).2.1 = X2 at HA HRA
      generalize (atF b l n).2.2 = X3 at HA HRA hE3
      clear hr hE
      go_enter Try.func5, Try.ntmps5
      go_wp2_with (first | (go_at_call 16; go_must (refine (HL _ HR.out).out.mono ?_; rintro e w1 ⟨rfl, ⟨m, rfl⟩⟩; have hb1 := pw_below_drewN (Below.refl w.heap.size w) m)) | (go_at_call 22; (with_reducible refine (HF _ (Kd.C_below HR.out hb1)).out.mono ?_); go_must (rintro e w2 ⟨rfl, hb2'⟩; have hb2 := hb1.trans (hb2'.mono hb1.size); clear hb2')) | (go_at_call 23; (with_reducible refine (HRF _ (Kd.C_below HR.out hb2)).out.mono ?_); go_must (rintro e w3 ⟨rfl, hb3'⟩; have hb3 := hb2.trans (hb3'.mono hb2.size); clear hb3')) | (go_at_call 24; (with_reducible refine (HN _ (Kd.C_below HR.out hb3)).out.mono ?_); go_must (rintro e w4 ⟨rfl, hb4'⟩; have hb4 := hb3.trans (hb4'.mono hb3.size); clear hb4')) | (go_at_call 25; (with_reducible refine (HRN _ (Kd.C_below HR.out hb4)).out.mono ?_); go_must (rintro e w5 ⟨rfl, hb5'⟩; have hb5 := hb4.trans (hb5'.mono hb4.size); clear hb5')) | (go_at_call 26; (with_reducible refine (HA _ (Kd.C_below HR.out hb5)).out.mono ?_); go_must (rintro e w6 ⟨rfl, hb6'⟩; have hb6 := hb5.trans (hb6'.mono hb5.size); clear hb6')) | (go_at_call 27; (with_reducible refine (HRA _ (Kd.C_below HR.out hb6)).out.mono ?_); go_must (rintro e w7 ⟨rfl, hb7'⟩; have hb7 := hb6.trans (hb7'.mono hb6.size); clear hb7')) | (go_at_call 9; go_must (refine (awake_calls _).mono ?_; rintro e w10 ⟨rfl, hb10⟩)))
      go_ret
      exact ⟨rfl, hb7.trans (hb10.mono hb7.size)⟩
end Go.Proofs.Ytjpobhdgfdeenaa.A
