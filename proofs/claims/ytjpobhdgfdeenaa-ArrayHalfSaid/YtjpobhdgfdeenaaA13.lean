/- insert of package array: a key put at an index of blocks that the call owns. -/
import Derived.Test.YtjpobhdgfdeenaaProg
import Derived.Below
import Derived.Deep.Draws
import Derived.Deep.AppendLies
import Derived.Maps.AppendAt
import Derived.Maps.OwnSet
import Derived.OwnWalk
import Derived.Laws.BytesArg
import Derived.Laws.MakeOwn
import Derived.Laws.OwnMore
import Derived.Deep.OwnRows
import Derived.Tactics
import Derived.Laws.Slices
import Derived.WalkKit
import Derived.KernelRfl
import Derived.RowKit3
import Derived.Deep.LoopGhost
import Derived.Deep.QuietTactic
import Derived.BigQuiet
import Derived.WideLaws
import Derived.Deep.DeepCutAuto
import Derived.Deep.CutBlock
import Derived.Deep.RegionHeld3
import Derived.Laws.Rows
import Derived.ArgAppend
import Derived.Laws.IdiomCopy
import Derived.OrdersHeld
import Derived.Laws.BitsLemmas
import Derived.Outline
import Derived.WalkSpells
import Derived.Lib.Hide
import Derived.RowKit
import Derived.Deep.DeepMust
import Derived.RangeFuncNested
import Derived.RangeFuncBound
import Derived.RangeFuncCalls
import Derived.RangeFuncLeaves
import Derived.Shelf.Abstract
import Derived.Shelf.RegionOpen
import Derived.OwnWalkIn
import Derived.TacticsInMore
import Derived.LoopNIn
import Derived.LoopIn
import Derived.RangeFuncBox
import Derived.StillTailTactics
import Derived.Test.YtjpobhdgfdeenaaA11
set_option linter.unusedVariables false
set_option linter.unusedSimpArgs false
namespace Go.Proofs.Ytjpobhdgfdeenaa.A
open Go.RowKit Go.Shelf Go.Proofs.YtjpobhdgfdeenaaW.PrintWords Go.Maps
attribute [local go_sem] Oper.semAt_some


/-- The loop of insert. -/
noncomputable def loop41 : Code := match seqAt 3 (Try.f41.body.getD .skip) with
  | .seq (.seq _ (.block _ c)) _ => c
  | c => c
theorem insert_loop (b m k : Int) (g c : Nat) (l : List (List Int)) (w W1 : World) (A0 : Option Addr) (row : List Int) (c0 B9 B10 B11 : Nat)
    (HR : Aside0 (Kd.C (Kd.slice 3 (Kd.int .i64)) w (some ⟨g, 0, none⟩) l.length l)) (HS : Aside0 (l.flatten.length ≤ 1000000)) (HNE : Aside0 (l ≠ [])) (hm : 0 ≤ m ∧ m ≤ l.flatten.length) (hlpos : 0 < l.length)
    (HD0 : Aside0 (l.drop (l.length - 1) = row :: l.drop (l.length - 1 + 1))) (hlm : l.length ≤ 9223372036854775807)
    (f9 : Boxed W1 B9 3 (.int .i64 ((l.length : Int) - 1))) (f10 : Boxed W1 B10 3 (.int .i64 row.length)) (f11 : Boxed W1 B11 24 (.slice (some ⟨g, 0, none⟩) l.length c)) (f6 : Boxed W1 w.heap.size 3 (.int .i64 m))
    (hB1 : Below w.heap.size w W1) (hz1 : W1.heap.size = w.heap.size + 4) (hz2 : w.heap.size < B9 ∧ B9 < w.heap.size + 4) (hz3 : w.heap.size < B10 ∧ B10 < w.heap.size + 4) (hz4 : B11 < w.heap.size + 4) (hz5 : w.heap.size < B11) (hne : B9 ≠ B10)
    (K : Act → World → Prop) (Q : Exit → Act → World → Prop)
    (hgo : ∀ (j q D : Nat) (W : World), At l m j q → Boxed W B9 3 (.int .i64 j) → Boxed W B10 3 (.int .i64 q) → W.heap[D]? = some (.deferred (some [])) → w.heap.size ≤ D → Below w.heap.size w W →
      K { tmps := #[.int .i64 b, .slice (some ⟨g, 0, none⟩) l.length c, .int .i64 m, .int .i64 k, undef, undef, .pointer (some ⟨w.heap.size, 0, none⟩), undef, .slice none 0 0, .pointer (some ⟨B9, 0, none⟩), .pointer (some ⟨B10, 0, none⟩), undef, undef, undef, undef, .slice (some ⟨g, 0, none⟩) l.length c, .int .i64 l.length, .bool false, undef, undef, undef, .slice (some ⟨g, 0, none⟩) l.length c, .int .i64 l.length, .int .i64 ((l.length : Int) - 1), .slice (some ⟨g, 0, none⟩) l.length c, .slice (some ⟨g, 0, none⟩) l.length c, .int .i64 l.length, .int .i64 ((l.length : Int) - 1), .pointer (some ⟨g, l.length - 1, none⟩), .slice A0 row.length c0, .int .i64 row.length, .slice (some ⟨g, 0, none⟩) l.length c, .func (.func 65) #[] #[.pointer (some ⟨B11, 0, none⟩)], undef, undef, undef, undef, undef, undef, undef, undef, undef, undef, undef, undef, undef, undef, undef, undef, undef, undef, undef, undef, undef, undef, undef, undef, undef, undef, undef, undef, undef, undef, undef, undef, undef, undef, undef, undef, undef, undef, undef, undef, undef, undef, undef, undef, undef, undef, undef, undef, undef, undef, undef, undef, undef, undef, undef], defers := { target := .collected D, args := #[] } :: [] } W) :
    loop41.wp Try.prog (Exit.inBlock 0 (Exit.then K Q)) { tmps := #[.int .i64 b, .slice (some ⟨g, 0, none⟩) l.length c, .int .i64 m, .int .i64 k, undef, undef, .pointer (some ⟨w.heap.size, 0, none⟩), undef, .slice none 0 0, .pointer (some ⟨B9, 0, none⟩), .pointer (some ⟨B10, 0, none⟩), undef, undef, undef, undef, .slice (some ⟨g, 0, none⟩) l.length c, .int .i64 l.length, .bool false, undef, undef, undef, .slice (some ⟨g, 0, none⟩) l.length c, .int .i64 l.length, .int .i64 ((l.length : Int) - 1), .slice (some ⟨g, 0, none⟩) l.length c, .slice (some ⟨g, 0, none⟩) l.length c, .int .i64 l.length, .int .i64 ((l.length : Int) - 1), .pointer (some ⟨g, l.length - 1, none⟩), .slice A0 row.length c0, .int .i64 row.length, .slice (some ⟨g, 0, none⟩) l.length c, .func (.func 65) #[] #[.pointer (some ⟨B11, 0, none⟩)], undef, undef, undef, undef, undef, undef, undef, undef, undef, undef, undef, undef, undef, undef, undef, undef, undef, undef, undef, undef, undef, undef, undef, undef, undef, undef, undef, undef, undef, undef, undef, undef, undef, undef, undef, undef, undef, undef, undef, undef, undef, undef, undef, undef, undef, undef, undef, undef, undef, undef, undef, undef, undef, undef, undef], defers := [] } W1 := by
  have HGO := Aside0.mk hgo
  clear hgo
  simp only [loop41, seqAt, Try.f41, Option.getD]
  have mixed : Try.prog.follows .mixedOrders = true := by kernel_rfl
  have hst := keys_stops Fence.wide 8 trivial rfl (by decide) B11 (some ⟨g, 0, none⟩) c l w W1 HR.out HS.out hB1 (by omega) f11.cell
  refine (wpIn_wide (n := 9)).1 ?_
  refine wpIn_rangeFunc_ownH (F := Fence.wide) (n := 9) rfl (by decide) (gf := 65) (lb := #[.pointer (some ⟨B11, 0, none⟩)]) rfl trivial (enters_of Try.func65 (by kernel_rfl) rfl)
    hst belowK_t (belowK_b (by omega)) (Below.refl _ _) (fun _ => rfl)
    (fun pre W => ((Boxed W w.heap.size 3 (.int .i64 m) ∧ Boxed W B9 3 (.int .i64 ((l.length : Int) - 1))) ∧ Boxed W B10 3 (.int .i64 row.length)) ∧ Aside0 (∀ q ∈ pre, q.1 ≠ m) ∧ Below w.heap.size w W)
    (fun c pre W => c = .exit 0 ∧ (∃ p pre0, (Boxed W B9 3 (.int .i64 p.2.1) ∧ Boxed W B10 3 (.int .i64 p.2.2.1)) ∧ Aside0 (pre = pre0 ++ [p] ∧ p.1 = m)) ∧ Below w.heap.size w W)
    (OwnFrom.and (OwnFrom.and (OwnFrom.and (Own.from (boxed_own _ _ (fun _ => _)) _) (Own.from (boxed_own _ _ (fun _ => _)) _)) (Own.from (boxed_own _ _ (fun _ => _)) _)) (OwnFrom.and (fun _ _ _ _ hs _ _ => hs) (ownFrom_below (Nat.le_refl _) (by omega))))
    (fun c => OwnFrom.and (fun _ _ _ _ hs _ _ => hs) (OwnFrom.and (fun s X Y row hs hg hr => by
      obtain ⟨p, pre0, ⟨h1, h2⟩, h3⟩ := hs
      exact ⟨p, pre0, ⟨boxed_own _ 3 (fun (_ : Unit) => _) () X Y row h1 hg (fun r e => (hr r e).2), boxed_own _ 3 (fun (_ : Unit) => _) () X Y row h2 hg (fun r e => (hr r e).2)⟩, h3⟩) (ownFrom_below (Nat.le_refl _) (by omega))))
    ⟨⟨⟨f6, f9⟩, f10⟩, ⟨by simp⟩, hB1⟩
    (fun x a' W => ∃ Bx, (B9 < Bx ∧ B10 < Bx) ∧ PBox W Bx x ∧ a' = { tmps := #[.int .i64 b, .slice (some ⟨g, 0, none⟩) l.length c, .int .i64 m, .int .i64 k, undef, undef, .pointer (some ⟨w.heap.size, 0, none⟩), undef, .slice none 0 0, .pointer (some ⟨B9, 0, none⟩), .pointer (some ⟨B10, 0, none⟩), .pointer (some ⟨Bx, 0, none⟩), undef, undef, undef, .slice (some ⟨g, 0, none⟩) l.length c, .int .i64 l.length, .bool false, undef, undef, undef, .slice (some ⟨g, 0, none⟩) l.length c, .int .i64 l.length, .int .i64 ((l.length : Int) - 1), .slice (some ⟨g, 0, none⟩) l.length c, .slice (some ⟨g, 0, none⟩) l.length c, .int .i64 l.length, .int .i64 ((l.length : Int) - 1), .pointer (some ⟨g, l.length - 1, none⟩), .slice A0 row.length c0, .int .i64 row.length, .slice (some ⟨g, 0, none⟩) l.length c, .func (.func 65) #[] #[.pointer (some ⟨B11, 0, none⟩)], encP x, undef, undef, undef, undef, undef, undef, undef, undef, undef, undef, undef, undef, undef, undef, undef, undef, undef, undef, undef, undef, undef, undef, undef, undef, undef, undef, undef, undef, undef, undef, undef, undef, undef, undef, undef, undef, undef, undef, undef, undef, undef, undef, undef, undef, undef, undef, undef, undef, undef, undef, undef, undef, undef, undef], defers := [] })
    (fun x a' _ X Y row hs hg hr => by
      obtain ⟨Bx, h1, h2, h3⟩ := hs
      exact ⟨Bx, h1, pbox_own Bx x () X Y row h2 hg (fun r e => (hr r e).2), h3⟩)
    ?assign ?body ?done ?stop
  case assign =>
    rintro lp pre x W K ⟨⟨⟨c5, c6⟩, c7⟩, hx, hB⟩ hK
    have hsW := hB.size
    gi_wp2
    exact hK _ _ ((KeepsOthers.alloc _ _).from _) ((Below.refl _ W).alloc hB.size _) ⟨⟨⟨c5.alloc _, c6.alloc _⟩, c7.alloc _⟩, hx, hB.alloc hB.size _⟩ ⟨W.heap.size, ⟨c6.lt, c7.lt⟩, World.alloc_heap_new W _, rfl⟩
  case body =>
    rintro lp pre x a' W hl _ ⟨⟨⟨c5, c6⟩, c7⟩, hx, hB⟩ ⟨Bx, hBx, bX, rfl⟩ hlt
    have d5 := c5.cell
    have d6 := c6.cell
    have e6 := c6.frozen
    have d7 := c7.cell
    have e7 := c7.frozen
    obtain ⟨q0, q1, q2, q3⟩ := bX.cell
    by_cases hkx : x.1 = m
    · have hd : (x.1 == m) = true := by simpa using hkx
      have HKX := Aside0.mk hkx
      clear hkx
      have n1 : Bx ≠ B9 := by omega
      have n2 : Bx ≠ B10 := by omega
      have n3 : B9 ≠ Bx := by omega
      have n4 : B10 ≠ Bx := by omega
      have n5 : B9 ≠ B10 := by omega
      have n6 : B10 ≠ B9 := by omega
      gi_wp2
      gi_region_with_o (fail)
      all_goals gi_wp2
      all_goals exact ⟨(((KeepsOthers.setCell _ _ _).trans (KeepsOthers.setCell _ _ _)).trans (KeepsOthers.drew _)).from _, rfl, ⟨x, pre, ⟨(c6.set _).other n5 _, (c7.other n6 _).set _⟩, ⟨rfl, HKX.out⟩⟩, below_drew ((hB.setCell (p := ⟨B9, 0, none⟩) (by show w.heap.size ≤ B9; omega) _).setCell (p := ⟨B10, 0, none⟩) (by show w.heap.size ≤ B10; omega) _)⟩
    · have hd : (x.1 == m) = false := by simpa using hkx
      have HKX := Aside0.mk hkx
      clear hkx
      gi_wp2
      have hall : ∀ q ∈ pre ++ [x], q.1 ≠ m := fun q hq => by
        rcases List.mem_append.1 hq with hq | hq
        · exact hx.out q hq
        · rw [List.mem_singleton.1 hq]
          exact HKX.out
      exact ⟨KeepsFrom.refl _ _, Below.refl _ _, ⟨⟨⟨c5, c6⟩, c7⟩, ⟨fun a a1 a2 a3 hq => hall (a, a1, a2, a3) hq⟩, hB⟩⟩
  case done =>
    rintro D ys W hD rfl ⟨⟨⟨c5, c6⟩, c7⟩, hx, hB⟩ hK
    have hat : ∃ j q : Nat, At l m j q ∧ Boxed W B9 3 (.int .i64 j) ∧ Boxed W B10 3 (.int .i64 q) := by
      obtain ⟨row', hr', ha⟩ := At_end HNE.out
      have hme : m = l.flatten.length := by
        by_cases e : m < 0 + l.flatten.length
        · obtain ⟨p, hp, he⟩ := posAll_all l 0 0 m hm.1 e
          exact absurd he (hx.out p hp)
        · omega
      have hrr : row' = row := by
        have h1 := List.getElem?_eq_getElem (show l.length - 1 < l.length by omega)
        have h2 := HD0.out
        rw [List.drop_eq_getElem_cons (show l.length - 1 < l.length by omega)] at h2
        injection h2 with h2 _
        rw [h1, h2] at hr'
        injection hr' with hr'
        exact hr'.symm
      subst hrr
      refine ⟨l.length - 1, row'.length, by rw [hme]; exact ha, ?_, c7⟩
      rw [show (((l.length - 1 : Nat) : Int)) = (l.length : Int) - 1 by omega]
      exact c6
    clear c6 c7 hx
    obtain ⟨j, q, ha, c6, c7⟩ := hat
    go_wp2
    exact HGO.out j q D W ha c6 c7 hK (by omega) hB
  case stop =>
    rintro D c pre W hD hpre ⟨rfl, ⟨p, pre0, ⟨c6, c7⟩, h3⟩, hB⟩ hK
    have hat : ∃ j q : Nat, At l m j q ∧ Boxed W B9 3 (.int .i64 j) ∧ Boxed W B10 3 (.int .i64 q) := by
      obtain ⟨h4, h5⟩ := h3.out
      subst h4
      obtain ⟨j, q, ha, hj, hq, _⟩ := At_of_pos (hpre.subset (List.mem_append.2 (.inr (List.mem_singleton.2 rfl))))
      rw [h5] at ha
      rw [hj] at c6
      rw [hq] at c7
      exact ⟨j, q, ha, c6, c7⟩
    clear c6 c7 h3 hpre
    obtain ⟨j, q, ha, c6, c7⟩ := hat
    refine wpIn_wide.2 ?_
    go_wp2
    exact HGO.out j q D W ha c6 c7 hK (by omega) hB
end Go.Proofs.Ytjpobhdgfdeenaa.A
