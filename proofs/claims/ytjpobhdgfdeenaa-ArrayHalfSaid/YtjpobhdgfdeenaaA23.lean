/- At of package array. -/
import Derived.Test.YtjpobhdgfdeenaaProg
import Derived.Below
import Derived.Deep.Draws
import Derived.Deep.AppendLies
import Derived.Maps.AppendAt
import Derived.Maps.OwnSet
import Derived.OwnWalk
import Derived.Laws.BytesArg
import Derived.Laws.MakeOwn
import Derived.Laws.OwnMore
import Derived.Deep.OwnRows
import Derived.Tactics
import Derived.Laws.Slices
import Derived.WalkKit
import Derived.KernelRfl
import Derived.RowKit3
import Derived.Deep.LoopGhost
import Derived.Deep.QuietTactic
import Derived.BigQuiet
import Derived.WideLaws
import Derived.Deep.DeepCutAuto
import Derived.Deep.CutBlock
import Derived.Deep.RegionHeld3
import Derived.Laws.Rows
import Derived.ArgAppend
import Derived.Laws.IdiomCopy
import Derived.OrdersHeld
import Derived.Laws.BitsLemmas
import Derived.Outline
import Derived.WalkSpells
import Derived.Lib.Hide
import Derived.RowKit
import Derived.Deep.DeepMust
import Derived.RangeFuncNested
import Derived.RangeFuncBound
import Derived.RangeFuncCalls
import Derived.RangeFuncLeaves
import Derived.Shelf.Abstract
import Derived.Shelf.RegionOpen
import Derived.OwnWalkIn
import Derived.TacticsInMore
import Derived.LoopNIn
import Derived.LoopIn
import Derived.RangeFuncBox
import Derived.StillTailTactics
import Derived.Test.YtjpobhdgfdeenaaP2
import Derived.Test.YtjpobhdgfdeenaaA9
set_option linter.unusedVariables false
set_option linter.unusedSimpArgs false
namespace Go.Proofs.Ytjpobhdgfdeenaa.A
open Go.RowKit Go.Shelf Go.Proofs.YtjpobhdgfdeenaaW.PrintWords Go.Maps
attribute [local go_sem] Oper.semAt_some

set_option maxHeartbeats 4000000 in
theorem at_in (b m : Int) (A : Option Addr) (c : Nat) (l : List (List Int)) (w : World) (hr : Kd.C (Kd.slice 3 (Kd.int .i64)) w A l.length l) (hv : validB b l = true) :
    Calls Try.prog 26 #[.int .i64 b, .slice A l.length c, .int .i64 m] w fun e w' => Below w.heap.size w w' ∧
      ((e = .returned (.tuple #[.int .i64 0, .int .i64 0, .int .i64 7]) ∧ ∀ p ∈ posAll 0 0 l, p.1 ≠ m) ∨ ∃ pre p, e = .returned (.tuple #[.int .i64 p.2.1, .int .i64 p.2.2.1, .int .i64 0]) ∧ pre ++ [p] <+: posAll 0 0 l ∧ p.1 = m) := by
  have HR := Aside0.mk hr
  have hm := (C_len hr).2
  have HV := Aside0.mk hv
  have HS : Aside0 (l.flatten.length ≤ 1000000) := ⟨by have := ((validB_iff b l).1 hv).few; omega⟩
  clear hr hv
  refine (callsIn_wide (n := 9)).1 ?_
  have hf49 : Fence.wide.fn 49 := trivial
  have hf15 : Fence.wide.fn 15 := trivial
  have mixed : Try.prog.follows .mixedOrders = true := by kernel_rfl
  refine callsIn_of_wp_marks Try.func26 rfl trivial ?_ rfl
  simp only [Try.ntmps26, List.size_toArray, List.length_cons, List.length_nil, Nat.reduceAdd, Nat.reduceSub, Array.replicate_succ, Array.replicate_zero, List.push_toArray, List.append_toArray, List.nil_append, List.cons_append]
  have b5 := (((Boxed.new w 3 (.int .i64 m)).alloc (.cells #[.int .i64 0] 3)).alloc (.cells #[.int .i64 0] 3)).alloc (.cells #[.int .i64 0] 25)
  have b6 := ((Boxed.new (w.alloc (.cells #[.int .i64 m] 3)) 3 (.int .i64 0)).alloc (.cells #[.int .i64 0] 3)).alloc (.cells #[.int .i64 0] 25)
  have b7 := (Boxed.new ((w.alloc (.cells #[.int .i64 m] 3)).alloc (.cells #[.int .i64 0] 3)) 3 (.int .i64 0)).alloc (.cells #[.int .i64 0] 25)
  have b8 := Boxed.new (((w.alloc (.cells #[.int .i64 m] 3)).alloc (.cells #[.int .i64 0] 3)).alloc (.cells #[.int .i64 0] 3)) 25 (.int .i64 0)
  simp only [World.size_alloc] at b5 b6 b7 b8
  have hB0 : Below w.heap.size w ((((w.alloc (.cells #[.int .i64 m] 3)).alloc (.cells #[.int .i64 0] 3)).alloc (.cells #[.int .i64 0] 3)).alloc (.cells #[.int .i64 0] 25)) := ((((Below.refl _ w).alloc (Nat.le_refl _) _).alloc (by simp) _).alloc (by simp; omega) _).alloc (by simp; omega) _
  have hsz : ((((w.alloc (.cells #[.int .i64 m] 3)).alloc (.cells #[.int .i64 0] 3)).alloc (.cells #[.int .i64 0] 3)).alloc (.cells #[.int .i64 0] 25)).heap.size = w.heap.size + 4 := by simp
  gi_wp2_with (first | (gi_at_call 15; go_must (refine (callsIn_wide.2 (valid_is HV.out A c _ (Kd.C_below HR.out hB0))).mono ?_; rintro e W1 ⟨rfl, hb1⟩; replace b5 := boxed_below b5 hb1; replace b6 := boxed_below b6 hb1; replace b7 := boxed_below b7 hb1; replace b8 := boxed_below b8 hb1; have hB1 := hB0.trans (hb1.mono hB0.size); have c5 := b5.cell)) | (gi_at_call 49; go_must (refine (keys_in Fence.wide 8 trivial rfl _ _ _ _).mono ?_; rintro e w2 ⟨rfl, rfl⟩)))
  --LOOP
  have bA := Boxed.new W1 24 (.slice A l.length c)
  replace b5 := b5.alloc (.cells #[.slice A l.length c] 24)
  replace b6 := b6.alloc (.cells #[.slice A l.length c] 24)
  replace b7 := b7.alloc (.cells #[.slice A l.length c] 24)
  replace b8 := b8.alloc (.cells #[.slice A l.length c] 24)
  have hB2 : Below w.heap.size w (W1.alloc (.cells #[.slice A l.length c] 24)) := hB1.alloc hB1.size _
  have hsz2 : (W1.alloc (.cells #[.slice A l.length c] 24)).heap.size = W1.heap.size + 1 := by simp
  have hW1s : w.heap.size + 4 ≤ W1.heap.size := by have := hb1.size; omega
  obtain ⟨W0, hW0⟩ : ∃ W0, W1.alloc (.cells #[.slice A l.length c] 24) = W0 := ⟨_, rfl⟩
  rw [hW0] at bA b5 b6 b7 b8 hB2 hsz2 ⊢
  have hst := keys_stops Fence.wide 8 trivial rfl (by decide) W1.heap.size A c l w W0 HR.out HS.out hB2 (by omega) bA.cell
  clear hW0 c5
  refine wpIn_rangeFunc_ownH (F := Fence.wide) (n := 9) rfl (by decide) (gf := 65) (lb := #[.pointer (some ⟨W1.heap.size, 0, none⟩)]) rfl trivial (enters_of Try.func65 (by kernel_rfl) rfl)
    hst belowK_t (belowK_b (by omega)) (Below.refl _ _) (fun _ => rfl)
    (fun pre W => (((Boxed W w.heap.size 3 (.int .i64 m) ∧ Boxed W (w.heap.size + 1) 3 (.int .i64 0)) ∧ Boxed W (w.heap.size + 1 + 1) 3 (.int .i64 0)) ∧ Boxed W (w.heap.size + 1 + 1 + 1) 25 (.int .i64 0)) ∧ Aside0 (∀ q ∈ pre, q.1 ≠ m) ∧ Below w.heap.size w W)
    (fun c pre W => c = .ret ∧ (∃ p pre0, ((Boxed W (w.heap.size + 1) 3 (.int .i64 p.2.1) ∧ Boxed W (w.heap.size + 1 + 1) 3 (.int .i64 p.2.2.1)) ∧ Boxed W (w.heap.size + 1 + 1 + 1) 25 (.int .i64 0)) ∧ Aside0 (pre = pre0 ++ [p] ∧ p.1 = m)) ∧ Below w.heap.size w W)
    (OwnFrom.and (OwnFrom.and (OwnFrom.and (OwnFrom.and (Own.from (boxed_own _ _ (fun _ => _)) _) (Own.from (boxed_own _ _ (fun _ => _)) _)) (Own.from (boxed_own _ _ (fun _ => _)) _)) (Own.from (boxed_own _ _ (fun _ => _)) _)) (OwnFrom.and (fun _ _ _ _ hs _ _ => hs) (ownFrom_below (Nat.le_refl _) (by omega))))
    (fun c => OwnFrom.and (fun _ _ _ _ hs _ _ => hs) (OwnFrom.and (fun s X Y row hs hg hr => by
      obtain ⟨p, pre0, ⟨⟨h1, h2⟩, h4⟩, h3⟩ := hs
      exact ⟨p, pre0, ⟨⟨boxed_own _ 3 (fun (_ : Unit) => _) () X Y row h1 hg (fun r e => (hr r e).2), boxed_own _ 3 (fun (_ : Unit) => _) () X Y row h2 hg (fun r e => (hr r e).2)⟩, boxed_own _ 25 (fun (_ : Unit) => _) () X Y row h4 hg (fun r e => (hr r e).2)⟩, h3⟩) (ownFrom_below (Nat.le_refl _) (by omega))))
    ⟨⟨⟨⟨b5, b6⟩, b7⟩, b8⟩, ⟨by simp⟩, hB2⟩
    (fun x a' W => ∃ Bx, w.heap.size + 1 + 1 + 1 < Bx ∧ PBox W Bx x ∧ a' = { tmps := #[.int .i64 b, .slice A l.length c, .int .i64 m, undef, undef, .pointer (some ⟨w.heap.size, 0, none⟩), .pointer (some ⟨w.heap.size + 1, 0, none⟩), .pointer (some ⟨w.heap.size + 1 + 1, 0, none⟩), .pointer (some ⟨w.heap.size + 1 + 1 + 1, 0, none⟩), .pointer (some ⟨Bx, 0, none⟩), .int .i64 b, .slice A l.length c, .bool true, .bool false, .slice A l.length c, .func (.func 65) #[] #[.pointer (some ⟨W1.heap.size, 0, none⟩)], encP x, undef, undef, undef, undef, undef, undef, undef, undef], defers := [] })
    (fun x a' _ X Y row hs hg hr => by
      obtain ⟨Bx, h1, h2, h3⟩ := hs
      exact ⟨Bx, h1, pbox_own Bx x () X Y row h2 hg (fun r e => (hr r e).2), h3⟩)
    ?assign ?body ?done ?stop
  case assign =>
    rintro lp pre x W K ⟨⟨⟨⟨c5, c6⟩, c7⟩, c8⟩, hx, hB⟩ hK
    gi_wp2
    exact hK _ _ ((KeepsOthers.alloc _ _).from _) ((Below.refl _ W).alloc hB.size _) ⟨⟨⟨⟨c5.alloc _, c6.alloc _⟩, c7.alloc _⟩, c8.alloc _⟩, hx, hB.alloc hB.size _⟩ ⟨W.heap.size, c8.lt, World.alloc_heap_new W _, rfl⟩
  case body =>
    rintro lp pre x a' W hl _ ⟨⟨⟨⟨c5, c6⟩, c7⟩, c8⟩, hx, hB⟩ ⟨Bx, hBx, bX, rfl⟩ hlt
    have d5 := c5.cell
    have d6 := c6.cell
    have e6 := c6.frozen
    have d7 := c7.cell
    have e7 := c7.frozen
    have d8 := c8.cell
    have e8 := c8.frozen
    obtain ⟨q0, q1, q2, q3⟩ := bX.cell
    by_cases hkx : x.1 = m
    · have hd : (x.1 == m) = true := by simpa using hkx
      have HKX := Aside0.mk hkx
      clear hkx
      have n1 : Bx ≠ w.heap.size + 1 := by omega
      have n2 : Bx ≠ w.heap.size + 1 + 1 := by omega
      have n3 : Bx ≠ w.heap.size + 1 + 1 + 1 := by omega
      have n4 : w.heap.size + 1 ≠ Bx := by omega
      have n5 : w.heap.size + 1 + 1 ≠ Bx := by omega
      have n6 : w.heap.size + 1 + 1 + 1 ≠ Bx := by omega
      gi_wp2
      gi_region_with_o (fail)
      all_goals gi_wp2
      all_goals exact ⟨((((KeepsOthers.setCell _ _ _).trans (KeepsOthers.setCell _ _ _)).trans (KeepsOthers.setCell _ _ _)).trans (KeepsOthers.drew _)).from _, rfl, ⟨x, pre, ⟨⟨((c6.set _).other (by omega) _).other (by omega) _, ((c7.other (by omega) _).set _).other (by omega) _⟩, ((c8.other (by omega) _).other (by omega) _).set _⟩, ⟨rfl, HKX.out⟩⟩, below_drew (((hB.setCell (p := ⟨w.heap.size + 1, 0, none⟩) (by simp) _).setCell (p := ⟨w.heap.size + 1 + 1, 0, none⟩) (by simp; omega) _).setCell (p := ⟨w.heap.size + 1 + 1 + 1, 0, none⟩) (by simp; omega) _)⟩
    · have hd : (x.1 == m) = false := by simpa using hkx
      have HKX := Aside0.mk hkx
      clear hkx
      gi_wp2
      have hall : ∀ q ∈ pre ++ [x], q.1 ≠ m := fun q hq => by
        rcases List.mem_append.1 hq with hq | hq
        · exact hx.out q hq
        · rw [List.mem_singleton.1 hq]
          exact HKX.out
      exact ⟨KeepsFrom.refl _ _, Below.refl _ _, ⟨⟨⟨⟨c5, c6⟩, c7⟩, c8⟩, ⟨hall⟩, hB⟩⟩
  case done =>
    rintro D ys W hD rfl ⟨⟨⟨⟨c5, c6⟩, c7⟩, c8⟩, hx, hB⟩ hK
    have d6 := c6.cell
    have e6 := c6.frozen
    have d7 := c7.cell
    have e7 := c7.frozen
    have d8 := c8.cell
    have e8 := c8.frozen
    gi_wp2
    have hK' := (((KeepsOthers.setCell W ⟨w.heap.size + 1, 0, none⟩ (.int .i64 0)).trans (KeepsOthers.setCell _ ⟨w.heap.size + 1 + 1, 0, none⟩ (.int .i64 0))).trans (KeepsOthers.setCell _ ⟨w.heap.size + 1 + 1 + 1, 0, none⟩ (.int .i64 7))).same D _ hK rfl
    refine ⟨by simp, .inl ⟨_, _, rfl, run_takeDeferred hK', ?_⟩⟩
    have r6 := cell_kept (((c6.set (.int .i64 0)).other (show w.heap.size + 1 ≠ w.heap.size + 1 + 1 by omega) (.int .i64 0)).other (show w.heap.size + 1 ≠ w.heap.size + 1 + 1 + 1 by omega) (.int .i64 7)).cell (grownBy_putObj' _ D (.deferred none)) (fun r e => by cases e; exact ⟨_, hK', rfl⟩)
    have r7 := cell_kept (((c7.other (show w.heap.size + 1 + 1 ≠ w.heap.size + 1 by omega) (.int .i64 0)).set (.int .i64 0)).other (show w.heap.size + 1 + 1 ≠ w.heap.size + 1 + 1 + 1 by omega) (.int .i64 7)).cell (grownBy_putObj' _ D (.deferred none)) (fun r e => by cases e; exact ⟨_, hK', rfl⟩)
    have r8 := cell_kept (((c8.other (show w.heap.size + 1 + 1 + 1 ≠ w.heap.size + 1 by omega) (.int .i64 0)).other (show w.heap.size + 1 + 1 + 1 ≠ w.heap.size + 1 + 1 by omega) (.int .i64 0)).set (.int .i64 7)).cell (grownBy_putObj' _ D (.deferred none)) (fun r e => by cases e; exact ⟨_, hK', rfl⟩)
    refine ⟨.tuple #[.int .i64 0, .int .i64 0, .int .i64 7], ?_, (((hB.setCell (p := ⟨w.heap.size + 1, 0, none⟩) (by simp) _).setCell (p := ⟨w.heap.size + 1 + 1, 0, none⟩) (by simp; omega) _).setCell (p := ⟨w.heap.size + 1 + 1 + 1, 0, none⟩) (by simp; omega) _).trans (belowK_b (w := w) (Nat.le_refl _) _ D _ _ (by omega) hK' rfl rfl), .inl ⟨rfl, hx.out⟩⟩
    simp [results, Try.f26, go_sem, r6, r7, r8]
  case stop =>
    rintro D c pre W hD hpre ⟨rfl, ⟨p, pre0, ⟨⟨c6, c7⟩, c8⟩, h3⟩, hB⟩ hK
    have d6 := c6.cell
    have d7 := c7.cell
    have d8 := c8.cell
    gi_wp2
    refine ⟨by simp, .inl ⟨_, _, rfl, run_takeDeferred hK, ?_⟩⟩
    have r6 := cell_kept c6.cell (grownBy_putObj' _ D (.deferred none)) (fun r e => by cases e; exact ⟨_, hK, rfl⟩)
    have r7 := cell_kept c7.cell (grownBy_putObj' _ D (.deferred none)) (fun r e => by cases e; exact ⟨_, hK, rfl⟩)
    have r8 := cell_kept c8.cell (grownBy_putObj' _ D (.deferred none)) (fun r e => by cases e; exact ⟨_, hK, rfl⟩)
    obtain ⟨h4, h5⟩ := h3.out
    refine ⟨.tuple #[.int .i64 p.2.1, .int .i64 p.2.2.1, .int .i64 0], ?_, hB.trans (belowK_b (w := w) (Nat.le_refl _) _ D _ _ (by omega) hK rfl rfl), .inr ⟨pre0, p, rfl, h4 ▸ hpre, h5⟩⟩
    simp [results, Try.f26, go_sem, r6, r7, r8]
end Go.Proofs.Ytjpobhdgfdeenaa.A
