/- remove of package array: the loop. -/
import Derived.Test.YtjpobhdgfdeenaaProg
import Derived.Below
import Derived.Deep.Draws
import Derived.Deep.AppendLies
import Derived.Maps.AppendAt
import Derived.Maps.OwnSet
import Derived.OwnWalk
import Derived.Laws.BytesArg
import Derived.Laws.MakeOwn
import Derived.Laws.OwnMore
import Derived.Deep.OwnRows
import Derived.Tactics
import Derived.Laws.Slices
import Derived.WalkKit
import Derived.KernelRfl
import Derived.RowKit3
import Derived.Deep.LoopGhost
import Derived.Deep.QuietTactic
import Derived.BigQuiet
import Derived.WideLaws
import Derived.Deep.DeepCutAuto
import Derived.Deep.CutBlock
import Derived.Deep.RegionHeld3
import Derived.Laws.Rows
import Derived.ArgAppend
import Derived.Laws.IdiomCopy
import Derived.OrdersHeld
import Derived.Laws.BitsLemmas
import Derived.Outline
import Derived.WalkSpells
import Derived.Lib.Hide
import Derived.RowKit
import Derived.Deep.DeepMust
import Derived.RangeFuncNested
import Derived.RangeFuncBound
import Derived.RangeFuncCalls
import Derived.RangeFuncLeaves
import Derived.Shelf.Abstract
import Derived.Shelf.RegionOpen
import Derived.OwnWalkIn
import Derived.TacticsInMore
import Derived.LoopNIn
import Derived.LoopIn
import Derived.RangeFuncBox
import Derived.StillTailTactics
import Derived.Test.YtjpobhdgfdeenaaA27
import Derived.Test.YtjpobhdgfdeenaaA13
set_option linter.unusedVariables false
set_option linter.unusedSimpArgs false
namespace Go.Proofs.Ytjpobhdgfdeenaa.A
open Go.RowKit Go.Shelf Go.Proofs.YtjpobhdgfdeenaaW.PrintWords Go.Maps
attribute [local go_sem] Oper.semAt_some

theorem blk_setCell {W : World} {g o e : Nat} {cur : List Value} (hB : Blk W g e cur) (z : Value) : Blk (W.setCell ⟨g, o, none⟩ z) g e (cur.set o z) := by
  show (W.setCell ⟨g, o, none⟩ z).heap[g]? = _
  rw [setCell_eq_setRow W g o cur.toArray e (0, 0) z hB]
  have := setRow_heap W g cur.toArray (cur.toArray.setIfInBounds o z) e (0, 0) hB
  rw [this]
  congr 2
  simp
theorem PBox.set4 {W : World} {B : Nat} {p : Pos} (h : PBox W B p) (x : Pos) : PBox ((((W.setCell ⟨B, 0, none⟩ (.int .i64 x.1)).setCell ⟨B, 1, none⟩ (.int .i64 x.2.1)).setCell ⟨B, 2, none⟩ (.int .i64 x.2.2.1)).setCell ⟨B, 3, none⟩ (.int .i64 x.2.2.2)) B x := by
  have h0 : Blk W B 62 [.int .i64 p.1, .int .i64 p.2.1, .int .i64 p.2.2.1, .int .i64 p.2.2.2] := h
  exact blk_setCell (blk_setCell (blk_setCell (blk_setCell h0 (o := 0) (.int .i64 x.1)) (o := 1) (.int .i64 x.2.1)) (o := 2) (.int .i64 x.2.2.1)) (o := 3) (.int .i64 x.2.2.2)
theorem PBox.frozen {W : World} {B : Nat} {p : Pos} (h : PBox W B p) (i : Nat) : W.frozen? ⟨B, i, none⟩ = false := by
  have h' : W.heap[B]? = _ := h
  simp [World.frozen?, h']
def StopR (B : Nat) (m : Int) (pre : List Pos) (W : World) : Prop := ∃ p pre0, PBox W B p ∧ (pre = pre0 ++ [p] ∧ p.1 = m)
/-- The loop of remove. -/
noncomputable def loop56 : Code := match seqAt 2 (Try.f56.body.getD .skip) with
  | .seq (.seq _ (.block _ c)) _ => c
  | c => c
set_option maxHeartbeats 4000000 in
set_option maxRecDepth 100000 in
theorem remove_loop (b m : Int) (g c : Nat) (l : List (List Int)) (w W1 : World) (B11 : Nat)
    (HR : Aside0 (Kd.C (Kd.slice 3 (Kd.int .i64)) w (some ⟨g, 0, none⟩) l.length l)) (HS : Aside0 (l.flatten.length ≤ 1000000)) (hm : 0 ≤ m ∧ m < l.flatten.length) (hlm : l.length ≤ 9223372036854775807)
    (f6 : Boxed W1 w.heap.size 3 (.int .i64 m)) (f8 : PBox W1 (w.heap.size + 1) (0, 0, 0, 0)) (f11 : Boxed W1 B11 24 (.slice (some ⟨g, 0, none⟩) l.length c))
    (hB1 : Below w.heap.size w W1) (hz1 : W1.heap.size = w.heap.size + 3) (hz4 : B11 < w.heap.size + 3) (hz5 : w.heap.size + 1 < B11)
    (K : Act → World → Prop) (Q : Exit → Act → World → Prop)
    (hgo : ∀ (p : Pos) (D : Nat) (W : World), p ∈ posAll 0 0 l → p.1 = m → PBox W (w.heap.size + 1) p → W.heap[D]? = some (.deferred (some [])) → w.heap.size ≤ D → Below w.heap.size w W →
      K { tmps := #[.int .i64 b, .slice (some ⟨g, 0, none⟩) l.length c, .int .i64 m, undef, undef, .pointer (some ⟨w.heap.size, 0, none⟩), .slice none 0 0, .int .i64 0, .pointer (some ⟨w.heap.size + 1, 0, none⟩), undef, undef, undef, undef, .slice (some ⟨g, 0, none⟩) l.length c, .func (.func 65) #[] #[.pointer (some ⟨B11, 0, none⟩)], undef, undef, undef, undef, undef, undef, undef, undef, undef, undef, undef, undef, undef, undef, undef, undef, undef, undef, undef, undef, undef, undef, undef, undef, undef, undef, undef, undef, undef, undef, undef, undef, undef, undef, undef, undef, undef, undef, undef, undef, undef, undef, undef, undef, undef, undef, undef, undef, undef, undef, undef, undef, undef, undef, undef, undef, undef, undef, undef, undef, undef, undef, undef, undef, undef, undef, undef, undef, undef, undef, undef, undef, undef, undef, undef, undef, undef, undef, undef, undef, undef, undef, undef, undef, undef, undef, undef, undef, undef, undef, undef, undef, undef, undef, undef, undef, undef, undef, undef, undef, undef, undef, undef, undef, undef, undef], defers := { target := .collected D, args := #[] } :: [] } W) :
    loop56.wp Try.prog (Exit.inBlock 0 (Exit.then K Q)) { tmps := #[.int .i64 b, .slice (some ⟨g, 0, none⟩) l.length c, .int .i64 m, undef, undef, .pointer (some ⟨w.heap.size, 0, none⟩), .slice none 0 0, .int .i64 0, .pointer (some ⟨w.heap.size + 1, 0, none⟩), undef, undef, undef, undef, .slice (some ⟨g, 0, none⟩) l.length c, .func (.func 65) #[] #[.pointer (some ⟨B11, 0, none⟩)], undef, undef, undef, undef, undef, undef, undef, undef, undef, undef, undef, undef, undef, undef, undef, undef, undef, undef, undef, undef, undef, undef, undef, undef, undef, undef, undef, undef, undef, undef, undef, undef, undef, undef, undef, undef, undef, undef, undef, undef, undef, undef, undef, undef, undef, undef, undef, undef, undef, undef, undef, undef, undef, undef, undef, undef, undef, undef, undef, undef, undef, undef, undef, undef, undef, undef, undef, undef, undef, undef, undef, undef, undef, undef, undef, undef, undef, undef, undef, undef, undef, undef, undef, undef, undef, undef, undef, undef, undef, undef, undef, undef, undef, undef, undef, undef, undef, undef, undef, undef, undef, undef, undef, undef, undef, undef], defers := [] } W1 := by
  have HGO := Aside0.mk hgo
  clear hgo
  simp only [loop56, seqAt, Try.f56, Option.getD]
  have mixed : Try.prog.follows .mixedOrders = true := by kernel_rfl
  have hst := keys_stops Fence.wide 8 trivial rfl (by decide) B11 (some ⟨g, 0, none⟩) c l w W1 HR.out HS.out hB1 (by omega) f11.cell
  refine (wpIn_wide (n := 9)).1 ?_
  refine wpIn_rangeFunc_ownH (F := Fence.wide) (n := 9) rfl (by decide) (gf := 65) (lb := #[.pointer (some ⟨B11, 0, none⟩)]) rfl trivial (enters_of Try.func65 (by kernel_rfl) rfl)
    hst belowK_t (belowK_b (by omega)) (Below.refl _ _) (fun _ => rfl)
    (fun pre W => (Boxed W w.heap.size 3 (.int .i64 m) ∧ PBox W (w.heap.size + 1) (0, 0, 0, 0)) ∧ Aside0 (∀ q ∈ pre, q.1 ≠ m) ∧ Below w.heap.size w W)
    (fun c pre W => c = .exit 0 ∧ StopR (w.heap.size + 1) m pre W ∧ Below w.heap.size w W)
    (OwnFrom.and (OwnFrom.and (Own.from (boxed_own _ _ (fun _ => _)) _) (Own.from (fun s X Y row hs hg hr => pbox_own _ _ () X Y row hs hg hr) _)) (OwnFrom.and (fun _ _ _ _ hs _ _ => hs) (ownFrom_below (Nat.le_refl _) (by omega))))
    (fun c => OwnFrom.and (fun _ _ _ _ hs _ _ => hs) (OwnFrom.and (fun s X Y row hs hg hr => by
      obtain ⟨p, pre0, h1, h3⟩ := hs
      exact ⟨p, pre0, pbox_own _ p () X Y row h1 hg (fun r e => (hr r e).2), h3⟩) (ownFrom_below (Nat.le_refl _) (by omega))))
    ⟨⟨f6, f8⟩, ⟨by simp⟩, hB1⟩
    (fun x a' W => ∃ Bx, w.heap.size + 1 < Bx ∧ PBox W Bx x ∧ a' = { tmps := #[.int .i64 b, .slice (some ⟨g, 0, none⟩) l.length c, .int .i64 m, undef, undef, .pointer (some ⟨w.heap.size, 0, none⟩), .slice none 0 0, .int .i64 0, .pointer (some ⟨w.heap.size + 1, 0, none⟩), .pointer (some ⟨Bx, 0, none⟩), undef, undef, undef, .slice (some ⟨g, 0, none⟩) l.length c, .func (.func 65) #[] #[.pointer (some ⟨B11, 0, none⟩)], encP x, undef, undef, undef, undef, undef, undef, undef, undef, undef, undef, undef, undef, undef, undef, undef, undef, undef, undef, undef, undef, undef, undef, undef, undef, undef, undef, undef, undef, undef, undef, undef, undef, undef, undef, undef, undef, undef, undef, undef, undef, undef, undef, undef, undef, undef, undef, undef, undef, undef, undef, undef, undef, undef, undef, undef, undef, undef, undef, undef, undef, undef, undef, undef, undef, undef, undef, undef, undef, undef, undef, undef, undef, undef, undef, undef, undef, undef, undef, undef, undef, undef, undef, undef, undef, undef, undef, undef, undef, undef, undef, undef, undef, undef, undef, undef, undef, undef, undef, undef, undef, undef, undef, undef, undef, undef], defers := [] })
    (fun x a' _ X Y row hs hg hr => by
      obtain ⟨Bx, h1, h2, h3⟩ := hs
      exact ⟨Bx, h1, pbox_own Bx x () X Y row h2 hg (fun r e => (hr r e).2), h3⟩)
    ?assign ?body ?done ?stop
  case assign =>
    rintro lp pre x W K ⟨⟨c5, c6⟩, hx, hB⟩ hK
    have hsW := hB.size
    have h6 : w.heap.size + 1 < W.heap.size := (Array.getElem?_eq_some_iff.1 c6).1
    gi_wp2
    exact hK _ _ ((KeepsOthers.alloc _ _).from _) ((Below.refl _ W).alloc hB.size _) ⟨⟨c5.alloc _, (Below.heap_alloc W _ _ h6).trans c6⟩, hx, hB.alloc hB.size _⟩ ⟨W.heap.size, h6, World.alloc_heap_new W _, rfl⟩
  case body =>
    rintro lp pre x a' W hl _ ⟨⟨c5, c6⟩, hx, hB⟩ ⟨Bx, hBx, bX, rfl⟩ hlt
    have d5 := c5.cell
    obtain ⟨q0, q1, q2, q3⟩ := bX.cell
    obtain ⟨s0, s1, s2, s3⟩ := c6.cell
    have t0 := c6.frozen 0
    have t1 := c6.frozen 1
    have t2 := c6.frozen 2
    have t3 := c6.frozen 3
    by_cases hkx : x.1 = m
    · have hd : (x.1 == m) = true := by simpa using hkx
      have HKX := Aside0.mk hkx
      clear hkx
      gi_wp2
      exact ⟨((((KeepsOthers.setCell _ _ _).trans (KeepsOthers.setCell _ _ _)).trans (KeepsOthers.setCell _ _ _)).trans (KeepsOthers.setCell _ _ _)).from _, rfl, ⟨x, pre, c6.set4 x, rfl, HKX.out⟩, (((hB.setCell (p := ⟨w.heap.size + 1, 0, none⟩) (by simp) _).setCell (p := ⟨w.heap.size + 1, 1, none⟩) (by simp) _).setCell (p := ⟨w.heap.size + 1, 2, none⟩) (by simp) _).setCell (p := ⟨w.heap.size + 1, 3, none⟩) (by simp) _⟩
    · have hd : (x.1 == m) = false := by simpa using hkx
      have HKX := Aside0.mk hkx
      clear hkx
      gi_wp2
      have hall : ∀ q ∈ pre ++ [x], q.1 ≠ m := fun q hq => by
        rcases List.mem_append.1 hq with hq | hq
        · exact hx.out q hq
        · rw [List.mem_singleton.1 hq]
          exact HKX.out
      exact ⟨KeepsFrom.refl _ _, Below.refl _ _, ⟨⟨c5, c6⟩, ⟨fun a a1 a2 a3 hq => hall (a, a1, a2, a3) hq⟩, hB⟩⟩
  case done =>
    rintro D ys W hD rfl ⟨⟨c5, c6⟩, hx, hB⟩ hK
    obtain ⟨p, hp, he⟩ := posAll_all l 0 0 m hm.1 (by omega)
    exact absurd he (hx.out p hp)
  case stop =>
    rintro D c pre W hD hpre ⟨rfl, ⟨p, pre0, c8, h3⟩, hB⟩ hK
    obtain ⟨h4, h5⟩ := h3
    subst h4
    refine wpIn_wide.2 ?_
    go_wp2
    exact HGO.out p D W (hpre.subset (List.mem_append.2 (.inr (List.mem_singleton.2 rfl)))) h5 c8 hK (by omega) hB
end Go.Proofs.Ytjpobhdgfdeenaa.A
