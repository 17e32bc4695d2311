/- remove of package array: two neighbours made one. -/
import Derived.Below
import Derived.Deep.Draws
import Derived.Deep.AppendLies
import Derived.Maps.AppendAt
import Derived.Maps.OwnSet
import Derived.OwnWalk
import Derived.Laws.BytesArg
import Derived.Laws.MakeOwn
import Derived.Laws.OwnMore
import Derived.Deep.OwnRows
import Derived.Tactics
import Derived.Laws.Slices
import Derived.WalkKit
import Derived.KernelRfl
import Derived.RowKit3
import Derived.Deep.LoopGhost
import Derived.Deep.QuietTactic
import Derived.BigQuiet
import Derived.WideLaws
import Derived.Deep.DeepCutAuto
import Derived.Deep.CutBlock
import Derived.Deep.RegionHeld3
import Derived.Laws.Rows
import Derived.ArgAppend
import Derived.Laws.IdiomCopy
import Derived.OrdersHeld
import Derived.Laws.BitsLemmas
import Derived.Outline
import Derived.WalkSpells
import Derived.Lib.Hide
import Derived.RowKit
import Derived.Deep.DeepMust
import Derived.RangeFuncNested
import Derived.RangeFuncBound
import Derived.RangeFuncCalls
import Derived.RangeFuncLeaves
import Derived.Shelf.Abstract
import Derived.Shelf.RegionOpen
import Derived.OwnWalkIn
import Derived.TacticsInMore
import Derived.LoopNIn
import Derived.LoopIn
import Derived.RangeFuncBox
import Derived.StillTailTactics
import Derived.Deep.DrawnRows
import Derived.Test.YtjpobhdgfdeenaaProg
import Derived.Test.YtjpobhdgfdeenaaM9
import Derived.Test.YtjpobhdgfdeenaaM6
set_option linter.unusedVariables false
set_option linter.unusedSimpArgs false
namespace Go.Proofs.Ytjpobhdgfdeenaa.A
open Go.RowKit Go.Shelf Go.Proofs.YtjpobhdgfdeenaaW.PrintWords Go.Maps
attribute [local go_sem] Oper.semAt_some
attribute [local go_sem ↓] Go.wp_at_zero Go.wp_at_succ

theorem two_rows {w : World} {base g c n : Nat} {vs : List Value} {l : List (List Int)} (h : Own2 w base (.slice (some ⟨g, 0, none⟩) n c) vs l) (f : Nat) (hf : f + 1 < l.length) :
    ∃ (rF : List Int) (gF cF : Nat) (rK : List Int) (gK cK : Nat), l[f]? = some rF ∧ l[f + 1]? = some rK ∧ vs[f]? = some (.slice (some ⟨gF, 0, none⟩) rF.length cF) ∧ vs[f + 1]? = some (.slice (some ⟨gK, 0, none⟩) rK.length cK) ∧
      w.cell? ⟨g, f, none⟩ = some (.slice (some ⟨gF, 0, none⟩) rF.length cF) ∧ w.cell? ⟨g, f + 1, none⟩ = some (.slice (some ⟨gK, 0, none⟩) rK.length cK) ∧ (OwnS w base 3 (.slice (some ⟨gF, 0, none⟩) rF.length cF) (ints rF) ∧ OwnS w base 3 (.slice (some ⟨gK, 0, none⟩) rK.length cK) (ints rK)) := by
  obtain ⟨g5, c5, e5, _, _, _, _, _, hc5⟩ := h.outer.cell
  injection e5 with e5 _ _
  injection e5 with e5
  injection e5 with e5
  subst e5
  have h0 := List.getElem?_eq_getElem (show f < l.length by omega)
  have h1 := List.getElem?_eq_getElem hf
  obtain ⟨u0, hu0, hr0⟩ := h.rows.get f _ h0
  obtain ⟨u1, hu1, hr1⟩ := h.rows.get (f + 1) _ h1
  obtain ⟨gF, cF, e0, _⟩ := own_addr hr0
  obtain ⟨gK, cK, e1, _⟩ := own_addr hr1
  rw [ints_len] at e0 e1
  subst e0 e1
  exact ⟨_, gF, cF, _, gK, cK, h0, h1, hu0, hu1, hc5 f _ hu0, hc5 (f + 1) _ hu1, hr0, hr1⟩
/-- What stands in the loop's inner test. -/
def mergeOf : Code → Code
  | .seq (.seq _ (.block _ (.loop (.seq _ (.seq _ (.seq (.block _ (.seq _ (.seq _ (.cond _ c _)))) _)))))) _ => c
  | c => c
noncomputable def merge56 : Code := mergeOf (seqAt 7 (Try.f56.body.getD .skip))
set_option maxRecDepth 100000 in
set_option maxHeartbeats 4000000 in
theorem merge_rest (b key : Int) (base g c BP D F : Nat) (pm pj pq : Int) (vs : List Value) (l : List (List Int)) (w W : World) (u2 u3 u4 u5 u6 u7 u9 u10 u11 u13 u14 u15 u16 u17 u18 u19 u20 u21 u22 u23 u24 u25 u26 u27 u28 u29 u30 u31 u32 u33 u34 u35 u36 u37 u38 u39 u40 u41 u42 u43 u44 u45 u46 u47 u48 u49 u50 u51 u52 u53 u54 u55 u56 u57 u58 u59 u60 u61 u62 u63 u64 u65 u66 u67 u68 u69 u70 u71 u72 u73 u74 u75 u76 u77 u78 u79 u80 u81 u82 u83 u84 u85 u86 u87 u88 u89 u90 u91 u92 u93 u94 u95 u96 u97 u98 u99 u100 u101 u102 u103 u104 u105 u106 u107 u108 u109 u110 u111 u112 u113 u114 u115 u116 u117 u118 u119 u120 : Value)
    (hown : Own2 W base (.slice (some ⟨g, 0, none⟩) l.length c) vs l) (hbw : Below base w W) (hbase : base ≤ w.heap.size) (hP : PBox W BP (pm, pj, pq, key)) (hD : W.heap[D]? = some (.deferred (some []))) (hDw : w.heap.size ≤ D) (hF : F + 1 < l.length) (hll : l.length ≤ 1000000)
    (hsz : (l.getD F []).length + (l.getD (F + 1) []).length ≤ 1000000) (hne : l.getD F [] ++ l.getD (F + 1) [] ≠ []) (R : Ending → World → Prop)
    (hR : ∀ (v' : Value) (W' : World), OwnA W' base v' ((l.set F (l.getD F [] ++ l.getD (F + 1) [])).eraseIdx (F + 1)) → Below base w W' → R (.returned (.tuple #[v', .int .i64 key])) W')
    (Q0 : Exit → Act → World → Prop) (hQ : ∀ a w, bodyPostM Fence.wide 9 Try.prog Try.f56 R .ret a w → Q0 .ret a w) : merge56.wp Try.prog Q0 { tmps := #[.int .i64 b, .slice (some ⟨g, 0, none⟩) l.length c, u2, u3, u4, u5, u6, u7, .pointer (some ⟨BP, 0, none⟩), u9, u10, u11, .int .i64 F, u13, u14, u15, u16, u17, u18, u19, u20, u21, u22, u23, u24, u25, u26, u27, u28, u29, u30, u31, u32, u33, u34, u35, u36, u37, u38, u39, u40, u41, u42, u43, u44, u45, u46, u47, u48, u49, u50, u51, u52, u53, u54, u55, u56, u57, u58, u59, u60, u61, u62, u63, u64, u65, u66, u67, u68, u69, u70, u71, u72, u73, u74, u75, u76, u77, u78, u79, u80, u81, u82, u83, u84, u85, u86, u87, u88, u89, u90, u91, u92, u93, u94, u95, u96, u97, u98, u99, u100, u101, u102, u103, u104, u105, u106, u107, u108, u109, u110, u111, u112, u113, u114, u115, u116, u117, u118, u119, u120], defers := { target := .collected D, args := #[] } :: [] } W := by
  obtain ⟨rF, gF, cF, rK, gK, cK, e1, e2, e3, e4, e5, e6, e7, e8⟩ := two_rows hown F hF
  have g1 : l.getD F [] = rF := by simp [List.getD_eq_getElem?_getD, e1]
  have g2 : l.getD (F + 1) [] = rK := by simp [List.getD_eq_getElem?_getD, e2]
  rw [g1, g2] at hsz hne hR
  obtain ⟨_, p1, p2, p3⟩ := hP.cell
  dsimp only at p1 p2 p3
  have hj0 : (0 : Int) ≤ (F : Int) := by omega
  have hj1 : (F : Int) < (l.length : Int) := by omega
  have hj2 : (F : Int) + 1 < (l.length : Int) := by omega
  have hj3 : (0 : Int) ≤ (F : Int) + 1 := by omega
  have hw1 : IntKind.i64.wrap ((F : Int) + 1) = (F : Int) + 1 := wrap_small _ (by omega) (by omega)
  have hw2 : IntKind.i64.wrap ((F : Int) + 2) = (F : Int) + 2 := wrap_small _ (by omega) (by omega)
  obtain ⟨WK, hWK⟩ : ∃ WK, WK = (W.alloc (.cells #[.slice (some ⟨gF, 0, none⟩) rF.length cF, .slice (some ⟨gK, 0, none⟩) rK.length cK] 22)).drew := ⟨_, rfl⟩
  have hBK : Below W.heap.size W WK := by rw [hWK]; exact below_drew (below_alloc (Below.refl _ _) _)
  have hcon : Aside0 (Calls Try.prog 64 #[.slice (some ⟨W.heap.size, 0, none⟩) 2 2] (W.alloc (.cells #[.slice (some ⟨gF, 0, none⟩) rF.length cF, .slice (some ⟨gK, 0, none⟩) rK.length cK] 22)).drew fun e w1 => ∃ gN cN, e = .returned (.slice (some ⟨gN, 0, none⟩) (rF.length + rK.length) cN) ∧
      Aside0 (OwnS w1 WK.heap.size 3 (.slice (some ⟨gN, 0, none⟩) (rF.length + rK.length) cN) (ints (rF ++ rK)) ∧ Below WK.heap.size WK w1)) := ⟨by
    have hC := C_rows_new W _ _ rF rK (by obtain ⟨gx, cx, ea, h1, h2⟩ := e7.ints_read; exact ⟨some ⟨gx, 0, none⟩, cx, ea, h1, h2⟩) (by obtain ⟨gx, cx, ea, h1, h2⟩ := e8.ints_read; exact ⟨some ⟨gx, 0, none⟩, cx, ea, h1, h2⟩)
    have := Concat_calls (some ⟨W.heap.size, 0, none⟩) 2 [rF, rK] WK (by rw [hWK]; exact Kd.C_drew hC) (by simp; omega)
    rw [← hWK]
    refine this.mono ?_
    rintro e w1 ⟨v, rfl, ho, hb⟩
    have hfl : [rF, rK].flatten = rF ++ rK := by simp
    rw [hfl] at ho
    have hS := OwnS_of_OI ho hne
    obtain ⟨gN, cN, rfl, _⟩ := own_addr hS
    have hl : (ints (rF ++ rK)).length = rF.length + rK.length := by rw [ints_len, List.length_append]
    rw [hl] at hS ⊢
    exact ⟨gN, cN, rfl, ⟨hS, hb⟩⟩⟩
  have hgne : g ≠ gF ∧ g ≠ gK := ⟨fun e => own_ne hown.outer e7 (by decide) (by rw [e]; rfl), fun e => own_ne hown.outer e8 (by decide) (by rw [e]; rfl)⟩
  obtain ⟨gg, cc, hgg, hbg, hgW, _⟩ := hown.outer.cell
  injection hgg with hgg hx1 hx2
  injection hgg with hgg
  injection hgg with hgg
  subst hgg
  clear hx1 hx2
  have hPs : BP < W.heap.size := (Array.getElem?_eq_some_iff.1 hP).1
  have hPg : g ≠ BP := fun e => by
    obtain ⟨_, _, e5, _, _, _, cells, hc⟩ := own_addr hown.outer
    injection e5 with e5
    injection e5 with e5
    injection e5 with e5
    subst e5
    rw [e, show W.heap[BP]? = _ from hP] at hc
    cases hc
  have hDs : D < W.heap.size := (Array.getElem?_eq_some_iff.1 hD).1
  have hDg : D ≠ g := fun e => hown.outer.not_deferred hD rfl (by rw [e]; rfl)
  have hWs := hbw.size
  have hSk : Aside0 (∀ w1, Below WK.heap.size WK w1 → w1.cell? ⟨g, F, none⟩ = some (.slice (some ⟨gF, 0, none⟩) rF.length cF) ∧ w1.cell? ⟨g, F + 1, none⟩ = some (.slice (some ⟨gK, 0, none⟩) rK.length cK)) := ⟨fun w1 hb => ⟨pw_cell_below hb (pw_cell_below hBK e5), pw_cell_below hb (pw_cell_below hBK e6)⟩⟩
  have hgf : Aside0 (∀ w1, Below WK.heap.size WK w1 → w1.frozen? ⟨g, F, none⟩ = false) := ⟨fun w1 hb => by
    obtain ⟨g5, c5, cur5, e5, _, hB5, _⟩ := hown.outer
    injection e5 with e5 _ _
    injection e5 with e5
    injection e5 with e5
    subst e5
    have h5 : w1.heap[g]? = some (.cells cur5.toArray 22 (0, 0)) := ((hb.block g (by have := hBK.size; omega)).trans (hBK.block g hgW)).trans hB5
    simp [World.frozen?, h5]⟩
  have HO := Aside0.mk hown
  have HP := Aside0.mk hP
  have HD := Aside0.mk hD
  have HBw := Aside0.mk hbw
  have HBK := Aside0.mk hBK
  have HRR := Aside0.mk hR
  have H3 := Aside0.mk e3
  have HSZ := Aside0.mk hsz
  have HPG := Aside0.mk hPg
  have HDG := Aside0.mk hDg
  have HNE := Aside0.mk hne
  have HWK := Aside0.mk hWK
  clear hown hP hD hbw hBK hR e3 e4 e1 e2 g1 g2 hsz e7 e8 hDg hPg hDs hPs hne hgne hWK p1 p2 p3
  have HQ := Aside0.mk hQ
  clear hQ
  simp only [merge56, mergeOf, seqAt, Try.f56, Option.getD]
  go_wp2
  refine wp_region_noPanic ?_
  refine Held.start (fun w' => w'.cell? ⟨g, F, none⟩ = some (.slice (some ⟨gF, 0, none⟩) rF.length cF) ∧ w'.cell? ⟨g, F + 1, none⟩ = some (.slice (some ⟨gK, 0, none⟩) rK.length cK)) 14 (by kernel_rfl) (by decide) (by go_keep) ?_
  refine Held.take 0 (v := ?v0) rfl (by kernel_rfl) (by decide) (by kernel_rfl) (by kernel_rfl) (fun _ _ _ h => h) (Or.inl ⟨by rfl, ?h0⟩) ?r0
  case h0 => intro w hSw; (try dsimp only at hSw); obtain ⟨hS1, hS2⟩ := hSw; go_simp; (try with_reducible rfl)
  try simp only [Act.put, List.setIfInBounds_toArray, List.set_cons_zero, List.set_cons_succ]
  refine Held.take 1 (v := ?v1) rfl (by kernel_rfl) (by decide) (by kernel_rfl) (by kernel_rfl) (fun _ _ _ h => h) (Or.inl ⟨by rfl, ?h1⟩) ?r1
  case h1 => intro w hSw; (try dsimp only at hSw); obtain ⟨hS1, hS2⟩ := hSw; go_simp; (try with_reducible rfl)
  try simp only [Act.put, List.setIfInBounds_toArray, List.set_cons_zero, List.set_cons_succ]
  refine Held.take 2 (v := ?v2) rfl (by kernel_rfl) (by decide) (by kernel_rfl) (by kernel_rfl) (fun _ _ _ h => h) (Or.inl ⟨by rfl, ?h2⟩) ?r2
  case h2 => intro w hSw; (try dsimp only at hSw); obtain ⟨hS1, hS2⟩ := hSw; go_simp; (try with_reducible rfl)
  try simp only [Act.put, List.setIfInBounds_toArray, List.set_cons_zero, List.set_cons_succ]
  refine Held.take 3 (v := ?v3) rfl (by kernel_rfl) (by decide) (by kernel_rfl) (by kernel_rfl) (fun _ _ _ h => h) (Or.inl ⟨by rfl, ?h3⟩) ?r3
  case h3 => intro w hSw; (try dsimp only at hSw); obtain ⟨hS1, hS2⟩ := hSw; go_simp; (try with_reducible rfl)
  try simp only [Act.put, List.setIfInBounds_toArray, List.set_cons_zero, List.set_cons_succ]
  refine Held.take 4 (v := ?v4) rfl (by kernel_rfl) (by decide) (by kernel_rfl) (by kernel_rfl) (fun _ _ _ h => h) (Or.inl ⟨by rfl, ?h4⟩) ?r4
  case h4 => intro w hSw; (try dsimp only at hSw); obtain ⟨hS1, hS2⟩ := hSw; go_simp; (try with_reducible rfl)
  try simp only [Act.put, List.setIfInBounds_toArray, List.set_cons_zero, List.set_cons_succ]
  refine Held.take 5 (v := ?v5) rfl (by kernel_rfl) (by decide) (by kernel_rfl) (by kernel_rfl) (fun _ _ _ h => h) (Or.inl ⟨by rfl, ?h5⟩) ?r5
  case h5 => intro w hSw; (try dsimp only at hSw); obtain ⟨hS1, hS2⟩ := hSw; go_simp; (try with_reducible rfl)
  try simp only [Act.put, List.setIfInBounds_toArray, List.set_cons_zero, List.set_cons_succ]
  refine Held.take 6 (v := ?v6) rfl (by kernel_rfl) (by decide) (by kernel_rfl) (by kernel_rfl) (fun _ _ _ h => h) (Or.inl ⟨by rfl, ?h6⟩) ?r6
  case h6 => intro w hSw; (try dsimp only at hSw); obtain ⟨hS1, hS2⟩ := hSw; go_simp; (try with_reducible rfl)
  try simp only [Act.put, List.setIfInBounds_toArray, List.set_cons_zero, List.set_cons_succ]
  refine Held.take 7 (v := ?v7) rfl (by kernel_rfl) (by decide) (by kernel_rfl) (by kernel_rfl) (fun _ _ _ h => h) (Or.inl ⟨by rfl, ?h7⟩) ?r7
  case h7 => intro w hSw; (try dsimp only at hSw); obtain ⟨hS1, hS2⟩ := hSw; go_simp; (try with_reducible rfl)
  try simp only [Act.put, List.setIfInBounds_toArray, List.set_cons_zero, List.set_cons_succ]
  refine Held.take 8 (v := ?v8) rfl (by kernel_rfl) (by decide) (by kernel_rfl) (by kernel_rfl) (fun _ _ _ h => h) (Or.inl ⟨by rfl, ?h8⟩) ?r8
  case h8 => intro w hSw; (try dsimp only at hSw); obtain ⟨hS1, hS2⟩ := hSw; go_simp; (try with_reducible rfl)
  try simp only [Act.put, List.setIfInBounds_toArray, List.set_cons_zero, List.set_cons_succ]
  refine Held.take 9 (v := ?v9) rfl (by kernel_rfl) (by decide) (by kernel_rfl) (by kernel_rfl) (fun _ _ _ h => h) (Or.inl ⟨by rfl, ?h9⟩) ?r9
  case h9 => intro w hSw; (try dsimp only at hSw); obtain ⟨hS1, hS2⟩ := hSw; go_simp; (try with_reducible rfl)
  try simp only [Act.put, List.setIfInBounds_toArray, List.set_cons_zero, List.set_cons_succ]
  refine Held.take 10 (v := ?v10) rfl (by kernel_rfl) (by decide) (by kernel_rfl) (by kernel_rfl) (fun _ _ _ h => h) (Or.inl ⟨by rfl, ?h10⟩) ?r10
  case h10 => intro w hSw; (try dsimp only at hSw); obtain ⟨hS1, hS2⟩ := hSw; go_simp; (try with_reducible rfl)
  try simp only [Act.put, List.setIfInBounds_toArray, List.set_cons_zero, List.set_cons_succ]
  refine Held.only 11 rfl (by decide) (by kernel_rfl) (fun K8 hK8 => ?_)
  go_simp
  refine hK8.out _ _ (by go_keep) ?_
  clear hK8 K8
  try simp only [Act.put, List.setIfInBounds_toArray, List.set_cons_zero, List.set_cons_succ]
  refine Held.only 12 rfl (by decide) (by kernel_rfl) (fun K9 hK9 => ?_)
  go_simp
  go_at_call 64
  refine hcon.out.mono ?_
  rintro e w1 ⟨gN, cN, rfl, F1⟩
  dsimp only
  refine hK9.out _ _ (hSk.out _ F1.out.2) ?_
  clear hK9 K9
  try simp only [Act.put, List.setIfInBounds_toArray, List.set_cons_zero, List.set_cons_succ]
  refine Held.take 13 (v := ?v13) rfl (by kernel_rfl) (by decide) (by kernel_rfl) (by kernel_rfl) (fun _ _ _ h => h) (Or.inl ⟨by rfl, ?h13⟩) ?r13
  case h13 => intro w hSw; (try dsimp only at hSw); obtain ⟨hS1, hS2⟩ := hSw; go_simp; (try with_reducible rfl)
  try simp only [Act.put, List.setIfInBounds_toArray, List.set_cons_zero, List.set_cons_succ]
  have hcj := (hSk.out _ F1.out.2).1
  have hfz := hgf.out _ F1.out.2
  refine Held.last 14 rfl (by decide) (by kernel_rfl) (by kernel_rfl) (fun K11 hK11 => ?_)
  go_simp
  refine hK11.out _ _ ?_
  clear hK11 K11
  refine NoPanic.normal ?_
  have hF1 := F1.out
  have hOK : Own2 WK base (.slice (some ⟨g, 0, none⟩) l.length c) vs l := HO.out.below HBK.out
  have hb1 := hF1.2
  have hK1 := hb1.size
  have hK2 := HBK.out.size
  have hset := hOK.setRow (row' := rF ++ rK) H3.out (grown_of_below hb1 _) (hF1.1.low (by omega)) (.inr ⟨gN, rfl, by have := hF1.1.info; obtain ⟨g9, c9, _, h9, _⟩ := hF1.1.cell; injection ‹Value.slice _ _ _ = _› with h10 _ _; injection h10 with h10; injection h10 with h10; omega⟩)
  obtain ⟨W2, hW2⟩ : ∃ W2, W2 = w1.setCell ⟨g, F, none⟩ (.slice (some ⟨gN, 0, none⟩) (rF.length + rK.length) cN) := ⟨_, rfl⟩
  rw [← hW2] at hset ⊢
  have hb2 : Below base w W2 := by
    rw [hW2]
    refine Below.setCell ?_ (by simpa using hbg) _
    exact HBw.out.trans ((HBK.out.mono (by omega)).trans (hb1.mono (by omega)))
  have hDs : D < W.heap.size := (Array.getElem?_eq_some_iff.1 HD.out).1
  have hPs : BP < W.heap.size := (Array.getElem?_eq_some_iff.1 HP.out).1
  have hold : ∀ k, k < W.heap.size → k ≠ g → W2.heap[k]? = W.heap[k]? := fun k hk hkg => by
    rw [hW2, Below.heap_setCell _ _ _ _ hkg, hb1.block k (by omega), HBK.out.block k hk]
  have hD2 : W2.heap[D]? = some (.deferred (some [])) := (hold D hDs HDG.out).trans HD.out
  have hP2 : PBox W2 BP (pm, pj, pq, key) := (hold BP hPs (fun e => HPG.out e.symm)).trans HP.out
  obtain ⟨_, _, _, t3⟩ := hP2.cell
  dsimp only at t3
  have HS2 := Aside0.mk hset
  have HD2 := Aside0.mk hD2
  have HB2 := Aside0.mk hb2
  have hcon9 : Aside0 (Calls Try.prog 69 #[.slice (some ⟨g, 0, none⟩) l.length c, .int .i64 ((F : Int) + 1), .int .i64 ((F : Int) + 2)] W2.drew fun e w3 => ∃ v', e = .returned v' ∧ Aside0 (OwnA w3 base v' ((l.set F (rF ++ rK)).eraseIdx (F + 1)) ∧ Below base w w3 ∧ w3.heap[D]? = some (.deferred (some [])) ∧ W2.drew.grownBy w3 (some g))) := ⟨by
    have hset := HS2.out.below (below_drew (Below.refl _ W2))
    have hl2 := hset.rows.len
    rw [List.length_set, List.length_set] at hl2
    have hou := hset.outer
    have hd := del69 hou (F + 1) (by rw [List.length_set]; omega) (by rw [List.length_set]; omega)
    rw [show (((F + 1 : Nat) : Int)) = (F : Int) + 1 by omega, show (F : Int) + 1 + 1 = (F : Int) + 2 by omega] at hd
    refine hd.mono ?_
    rintro e w3 ⟨v', rfl, ho, hg, _⟩
    have h3 := hset.eraseRow (F + 1) hg ho
    refine ⟨v', rfl, ⟨h3.toA, ?_, ?_, hg⟩⟩
    · exact Below.grown (below_drew HB2.out) hg (show base ≤ W2.heap.size by have := HB2.out.size; omega) (by intro k hk; injection hk with hk; replace hk : g = k := hk; omega)
    · rw [hg.block D (by have := (Array.getElem?_eq_some_iff.1 HD2.out).1; exact this) (by intro e; injection e with e; exact HDG.out e)]
      exact HD2.out⟩
  have hk9 : Aside0 (∀ w3, W2.drew.grownBy w3 (some g) → w3.cell? ⟨BP, 3, none⟩ = some (.int .i64 key)) := ⟨fun w3 hg => hg.cell t3 (by intro e; injection e with e; exact HPG.out e.symm)⟩
  clear hF1 F1 hOK hb1 hK1 hK2 hset hW2 hb2 hold hD2 hP2 hcj hfz hcon hSk hgf e5 e6 hDs hPs
  go_wp2
  go_region_held3 (fun w' => w'.cell? ⟨BP, 3, none⟩ = some (.int .i64 key)) (first | go_keep | exact hk9.out _ F3.out.2.2.2) (first | (go_at_call 69; refine hcon9.out.mono ?_; rintro e w3 ⟨v3, rfl, F3⟩))
  obtain ⟨h31, h32, h33, _⟩ := F3.out
  clear F3
  go_wp2
  refine HQ.out _ _ ?_
  refine ⟨by simp, .inl ⟨_, _, rfl, run_takeDeferred h33, ?_⟩⟩
  refine ⟨.tuple #[v3, .int .i64 key], by simp [results, Try.f56, go_sem], ?_⟩
  exact HRR.out _ _ (h31.ended h33 rfl) (h32.trans (belowK_b hbase _ D _ _ hDw h33 rfl rfl))
end Go.Proofs.Ytjpobhdgfdeenaa.A

/- remove of package array behind its loop. -/
set_option linter.unusedVariables false
set_option linter.unusedSimpArgs false
namespace Go.Proofs.Ytjpobhdgfdeenaa.A
open Go.RowKit Go.Shelf Go.Proofs.YtjpobhdgfdeenaaW.PrintWords Go.Maps
attribute [local go_sem] Oper.semAt_some
attribute [local go_sem ↓] Go.wp_at_zero Go.wp_at_succ

theorem row_le' (l : List (List Int)) : ∀ x ∈ l, x.length ≤ l.flatten.length := fun x hx => by
  obtain ⟨i, hi, rfl⟩ := List.getElem_of_mem hx
  have h1 := flat_len l (i + 1)
  rw [flat_drop l i l[i] (List.drop_eq_getElem_cons hi), List.length_append] at h1
  omega
theorem idx82_0 (x y : Int) (w : World) : (Instr.index 82 (.agg #[.int .i64 x, .int .i64 y]) (.int .i64 0)).run Try.prog w = .ok (.int .i64 x) w := by kernel_rfl
theorem idx82_1 (x y : Int) (w : World) : (Instr.index 82 (.agg #[.int .i64 x, .int .i64 y]) (.int .i64 1)).run Try.prog w = .ok (.int .i64 y) w := by kernel_rfl
noncomputable def tail56 : Code := seqAt 3 (Try.f56.body.getD .skip)
set_option maxRecDepth 100000 in
set_option maxHeartbeats 4000000 in
theorem remove_rest (b m key : Int) (base g c : Nat) (vs : List Value) (l : List (List Int)) (w W : World) (B11 D j q : Nat) (rj : List Int)
    (hown0 : Own2 w base (.slice (some ⟨g, 0, none⟩) l.length c) vs l) (hb : 2 ≤ b ∧ b ≤ 50) (hs : l.flatten.length ≤ 1000000) (hll0 : l.length ≤ 1000000) (hbase : base ≤ w.heap.size) (hB : Below w.heap.size w W)
    (hP : PBox W (w.heap.size + 1) (m, (j : Int), (q : Int), key)) (hD : W.heap[D]? = some (.deferred (some []))) (hDw : w.heap.size ≤ D) (hlj : l[j]? = some rj) (hq : q < rj.length) (hrl : rj.length ≤ 1000000) (R : Ending → World → Prop)
    (hR : ∀ (v' : Value) (W' : World), OwnA W' base v' (remL b l j (rj.eraseIdx q)) → Below base w W' → R (.returned (.tuple #[v', .int .i64 key])) W') :
    tail56.wp Try.prog (bodyPostM Fence.wide 9 Try.prog Try.f56 R)
      { tmps := #[.int .i64 b, .slice (some ⟨g, 0, none⟩) l.length c, .int .i64 m, undef, undef, .pointer (some ⟨w.heap.size, 0, none⟩), .slice none 0 0, .int .i64 0, .pointer (some ⟨w.heap.size + 1, 0, none⟩), undef, undef, undef, undef, .slice (some ⟨g, 0, none⟩) l.length c, .func (.func 65) #[] #[.pointer (some ⟨B11, 0, none⟩)], undef, undef, undef, undef, undef, undef, undef, undef, undef, undef, undef, undef, undef, undef, undef, undef, undef, undef, undef, undef, undef, undef, undef, undef, undef, undef, undef, undef, undef, undef, undef, undef, undef, undef, undef, undef, undef, undef, undef, undef, undef, undef, undef, undef, undef, undef, undef, undef, undef, undef, undef, undef, undef, undef, undef, undef, undef, undef, undef, undef, undef, undef, undef, undef, undef, undef, undef, undef, undef, undef, undef, undef, undef, undef, undef, undef, undef, undef, undef, undef, undef, undef, undef, undef, undef, undef, undef, undef, undef, undef, undef, undef, undef, undef, undef, undef, undef, undef, undef, undef, undef, undef, undef, undef, undef, undef], defers := { target := .collected D, args := #[] } :: [] } W := by
  have hown := hown0.below hB
  have hjl : j < l.length := (List.getElem?_eq_some_iff.1 hlj).1
  obtain ⟨u, hu, hru⟩ := hown.rows.get j rj hlj
  obtain ⟨gj, cj, hgj, hbj, _, hcj1, hcj2, hcj3, _⟩ := hru.cell
  rw [ints_len] at hgj hcj1
  subst hgj
  have hgjw : gj < w.heap.size := (hown0.lt _ (List.mem_of_getElem? hu) gj rfl).1
  obtain ⟨gg, cc, hgg, hbg, _, hcg1, hcg2, hcg3, hcellg⟩ := hown.outer.cell
  injection hgg with hgg hll hcc
  injection hgg with hgg
  injection hgg with hgg
  subst hgg hcc
  have hgw : g < w.heap.size := by
    obtain ⟨g5, c5, e5, _, _, hlt5, _⟩ := own_addr hown0.outer
    injection e5 with e5 _ _
    injection e5 with e5
    injection e5 with e5
    omega
  have hcell := hcellg j _ hu
  obtain ⟨BP, hBP⟩ : ∃ BP, BP = w.heap.size + 1 := ⟨_, rfl⟩
  rw [← hBP] at hP ⊢
  obtain ⟨_, p1, p2, p3⟩ := hP.cell
  dsimp only at p1 p2 p3
  have hPg : g ≠ BP ∧ gj ≠ BP := by omega
  have HBP := Aside0.mk hBP
  clear hBP
  have hj0 : (0 : Int) ≤ (j : Int) := by omega
  have hj1 : (j : Int) < (l.length : Int) := by omega
  have hgne : g ≠ gj := fun e => own_ne hown.outer hru (by decide) (by rw [e]; rfl)
  have hWsz := hB.size
  have hql : IntKind.i64.wrap ((q : Int) + 1) = (q : Int) + 1 := wrap_small _ (by omega) (by omega)
  have hcon : Aside0 (Calls Try.prog 68 #[.slice (some ⟨gj, 0, none⟩) rj.length cj, .int .i64 q, .int .i64 ((q : Int) + 1)] W.drew fun e w1 => ∃ c', e = .returned (.slice (some ⟨gj, 0, none⟩) (rj.length - 1) c') ∧
      Aside0 (OwnS w1 base 3 (.slice (some ⟨gj, 0, none⟩) (rj.length - 1) c') (ints (rj.eraseIdx q)) ∧ W.drew.grownBy w1 (some gj))) := ⟨by
    have hru' : OwnS W.drew base 3 (.slice (some ⟨gj, 0, none⟩) rj.length cj) (ints rj) := hru.kept (drew_grown (World.grownBy.refl W none)) (by simp [Value.ownBlock])
    refine (del68 hru' q (by rw [ints_len]; exact hq) (by rw [ints_len]; exact hrl)).mono ?_
    rintro e w1 ⟨v', rfl, ho, hg, hor⟩
    rw [← ints_erase] at ho
    obtain ⟨g', c', rfl, eo, _, _, _⟩ := own_addr ho
    have hgg : g' = gj := by simp only [Value.ownBlock] at hor; injection hor
    subst hgg
    have hl1 : (ints (rj.eraseIdx q)).length = rj.length - 1 := by rw [ints_len, List.length_eraseIdx_of_lt hq]
    rw [hl1] at ho ⊢
    exact ⟨c', rfl, ⟨ho, hg⟩⟩⟩
  have hSk : Aside0 (∀ w1, W.drew.grownBy w1 (some gj) → (w1.cell? ⟨BP, 1, none⟩ = some (.int .i64 j) ∧ w1.cell? ⟨BP, 2, none⟩ = some (.int .i64 q)) ∧ w1.cell? ⟨g, j, none⟩ = some (.slice (some ⟨gj, 0, none⟩) rj.length cj)) := ⟨fun w1 hg =>
    ⟨⟨hg.cell p1 (by intro e; injection e with e; exact hPg.2 e.symm), hg.cell p2 (by intro e; injection e with e; exact hPg.2 e.symm)⟩, hg.cell hcell (by intro e; injection e with e; exact hgne e)⟩⟩
  have hgf : Aside0 (∀ w1, W.drew.grownBy w1 (some gj) → w1.frozen? ⟨g, j, none⟩ = false) := ⟨fun w1 hg => by
    obtain ⟨g5, c5, cur5, e5, _, hB5, _⟩ := hown.outer
    injection e5 with e5 _ _
    injection e5 with e5
    injection e5 with e5
    subst e5
    have h5 : w1.heap[g]? = some (.cells cur5.toArray 22 (0, 0)) := (hg.block g (show g < W.heap.size by omega) (fun e => hgne (by injection e))).trans hB5
    simp [World.frozen?, h5]⟩
  have HO := Aside0.mk hown
  have HRU := Aside0.mk hru
  have HBl := Aside0.mk hB
  have HD := Aside0.mk hD
  have HP := Aside0.mk hP
  have HU := Aside0.mk hu
  have HLJ := Aside0.mk hlj
  have HR := Aside0.mk hR
  have HHB := Aside0.mk hb
  clear hown hown0 hru hcellg hlj hu hll hD hR hB hP hb
  generalize hQ0 : bodyPostM Fence.wide 9 Try.prog Try.f56 R = Q0
  have HLE : Aside0 (∀ x ∈ l.set j (rj.eraseIdx q), x.length ≤ 1000000) := ⟨fun x hx => by
    rcases List.mem_or_eq_of_mem_set hx with hx | rfl
    · have := row_le' l x hx; omega
    · have := List.length_eraseIdx_of_lt hq; omega⟩
  simp only [tail56, seqAt, Try.f56, Option.getD]
  go_wp2
  refine wp_region_noPanic ?_
  refine Held.start (fun w' => (w'.cell? ⟨BP, 1, none⟩ = some (.int .i64 j) ∧ w'.cell? ⟨BP, 2, none⟩ = some (.int .i64 q)) ∧ w'.cell? ⟨g, j, none⟩ = some (.slice (some ⟨gj, 0, none⟩) rj.length cj)) 15 (by kernel_rfl) (by decide) (by go_keep) ?_
  refine Held.take 0 (v := ?v0) rfl (by kernel_rfl) (by decide) (by kernel_rfl) (by kernel_rfl) (fun _ _ _ h => h) (Or.inl ⟨by rfl, ?h0⟩) ?r0
  case h0 => intro w hSw; (try dsimp only at hSw); obtain ⟨⟨hS1, hS2⟩, hS3⟩ := hSw; go_simp; (try with_reducible rfl)
  try simp only [Act.put, List.setIfInBounds_toArray, List.set_cons_zero, List.set_cons_succ]
  refine Held.take 1 (v := ?v1) rfl (by kernel_rfl) (by decide) (by kernel_rfl) (by kernel_rfl) (fun _ _ _ h => h) (Or.inl ⟨by rfl, ?h1⟩) ?r1
  case h1 => intro w hSw; (try dsimp only at hSw); obtain ⟨⟨hS1, hS2⟩, hS3⟩ := hSw; go_simp; (try with_reducible rfl)
  try simp only [Act.put, List.setIfInBounds_toArray, List.set_cons_zero, List.set_cons_succ]
  refine Held.take 2 (v := ?v2) rfl (by kernel_rfl) (by decide) (by kernel_rfl) (by kernel_rfl) (fun _ _ _ h => h) (Or.inl ⟨by rfl, ?h2⟩) ?r2
  case h2 => intro w hSw; (try dsimp only at hSw); obtain ⟨⟨hS1, hS2⟩, hS3⟩ := hSw; go_simp; (try with_reducible rfl)
  try simp only [Act.put, List.setIfInBounds_toArray, List.set_cons_zero, List.set_cons_succ]
  refine Held.take 3 (v := ?v3) rfl (by kernel_rfl) (by decide) (by kernel_rfl) (by kernel_rfl) (fun _ _ _ h => h) (Or.inl ⟨by rfl, ?h3⟩) ?r3
  case h3 => intro w hSw; (try dsimp only at hSw); obtain ⟨⟨hS1, hS2⟩, hS3⟩ := hSw; go_simp; (try with_reducible rfl)
  try simp only [Act.put, List.setIfInBounds_toArray, List.set_cons_zero, List.set_cons_succ]
  refine Held.take 4 (v := ?v4) rfl (by kernel_rfl) (by decide) (by kernel_rfl) (by kernel_rfl) (fun _ _ _ h => h) (Or.inl ⟨by rfl, ?h4⟩) ?r4
  case h4 => intro w hSw; (try dsimp only at hSw); obtain ⟨⟨hS1, hS2⟩, hS3⟩ := hSw; go_simp; (try with_reducible rfl)
  try simp only [Act.put, List.setIfInBounds_toArray, List.set_cons_zero, List.set_cons_succ]
  refine Held.take 5 (v := ?v5) rfl (by kernel_rfl) (by decide) (by kernel_rfl) (by kernel_rfl) (fun _ _ _ h => h) (Or.inl ⟨by rfl, ?h5⟩) ?r5
  case h5 => intro w hSw; (try dsimp only at hSw); obtain ⟨⟨hS1, hS2⟩, hS3⟩ := hSw; go_simp; (try with_reducible rfl)
  try simp only [Act.put, List.setIfInBounds_toArray, List.set_cons_zero, List.set_cons_succ]
  refine Held.take 6 (v := ?v6) rfl (by kernel_rfl) (by decide) (by kernel_rfl) (by kernel_rfl) (fun _ _ _ h => h) (Or.inl ⟨by rfl, ?h6⟩) ?r6
  case h6 => intro w hSw; (try dsimp only at hSw); obtain ⟨⟨hS1, hS2⟩, hS3⟩ := hSw; go_simp; (try with_reducible rfl)
  try simp only [Act.put, List.setIfInBounds_toArray, List.set_cons_zero, List.set_cons_succ]
  refine Held.take 7 (v := ?v7) rfl (by kernel_rfl) (by decide) (by kernel_rfl) (by kernel_rfl) (fun _ _ _ h => h) (Or.inl ⟨by rfl, ?h7⟩) ?r7
  case h7 => intro w hSw; (try dsimp only at hSw); obtain ⟨⟨hS1, hS2⟩, hS3⟩ := hSw; go_simp; (try with_reducible rfl)
  try simp only [Act.put, List.setIfInBounds_toArray, List.set_cons_zero, List.set_cons_succ]
  refine Held.take 8 (v := ?v8) rfl (by kernel_rfl) (by decide) (by kernel_rfl) (by kernel_rfl) (fun _ _ _ h => h) (Or.inl ⟨by rfl, ?h8⟩) ?r8
  case h8 => intro w hSw; (try dsimp only at hSw); obtain ⟨⟨hS1, hS2⟩, hS3⟩ := hSw; go_simp; (try with_reducible rfl)
  try simp only [Act.put, List.setIfInBounds_toArray, List.set_cons_zero, List.set_cons_succ]
  refine Held.take 9 (v := ?v9) rfl (by kernel_rfl) (by decide) (by kernel_rfl) (by kernel_rfl) (fun _ _ _ h => h) (Or.inl ⟨by rfl, ?h9⟩) ?r9
  case h9 => intro w hSw; (try dsimp only at hSw); obtain ⟨⟨hS1, hS2⟩, hS3⟩ := hSw; go_simp; (try with_reducible rfl)
  try simp only [Act.put, List.setIfInBounds_toArray, List.set_cons_zero, List.set_cons_succ]
  refine Held.take 10 (v := ?v10) rfl (by kernel_rfl) (by decide) (by kernel_rfl) (by kernel_rfl) (fun _ _ _ h => h) (Or.inl ⟨by rfl, ?h10⟩) ?r10
  case h10 => intro w hSw; (try dsimp only at hSw); obtain ⟨⟨hS1, hS2⟩, hS3⟩ := hSw; go_simp; (try with_reducible rfl)
  try simp only [Act.put, List.setIfInBounds_toArray, List.set_cons_zero, List.set_cons_succ]
  refine Held.take 11 (v := ?v11) rfl (by kernel_rfl) (by decide) (by kernel_rfl) (by kernel_rfl) (fun _ _ _ h => h) (Or.inl ⟨by rfl, ?h11⟩) ?r11
  case h11 => intro w hSw; (try dsimp only at hSw); obtain ⟨⟨hS1, hS2⟩, hS3⟩ := hSw; go_simp; (try with_reducible rfl)
  try simp only [Act.put, List.setIfInBounds_toArray, List.set_cons_zero, List.set_cons_succ]
  refine Held.take 12 (v := ?v12) rfl (by kernel_rfl) (by decide) (by kernel_rfl) (by kernel_rfl) (fun _ _ _ h => h) (Or.inl ⟨by rfl, ?h12⟩) ?r12
  case h12 => intro w hSw; (try dsimp only at hSw); obtain ⟨⟨hS1, hS2⟩, hS3⟩ := hSw; go_simp; (try with_reducible rfl)
  try simp only [Act.put, List.setIfInBounds_toArray, List.set_cons_zero, List.set_cons_succ]
  refine Held.only 13 rfl (by decide) (by kernel_rfl) (fun K9 hK9 => ?_)
  go_simp
  go_at_call 68
  refine hcon.out.mono ?_
  rintro e w1 ⟨c', rfl, F1⟩
  dsimp only
  refine hK9.out _ _ (hSk.out _ F1.out.2) ?_
  clear hK9 K9
  try simp only [Act.put, List.setIfInBounds_toArray, List.set_cons_zero, List.set_cons_succ]
  refine Held.take 14 (v := ?v14) rfl (by kernel_rfl) (by decide) (by kernel_rfl) (by kernel_rfl) (fun _ _ _ h => h) (Or.inl ⟨by rfl, ?h14⟩) ?r14
  case h14 => intro w hSw; (try dsimp only at hSw); obtain ⟨⟨hS1, hS2⟩, hS3⟩ := hSw; go_simp; (try with_reducible rfl)
  try simp only [Act.put, List.setIfInBounds_toArray, List.set_cons_zero, List.set_cons_succ]
  have hcj := (hSk.out _ F1.out.2).2
  have hfz := hgf.out _ F1.out.2
  refine Held.last 15 rfl (by decide) (by kernel_rfl) (by kernel_rfl) (fun K11 hK11 => ?_)
  go_simp
  refine hK11.out _ _ ?_
  clear hK11 K11
  refine NoPanic.normal ?_
  obtain ⟨r', hr'⟩ : ∃ r', r' = rj.eraseIdx q := ⟨_, rfl⟩
  have hF1 := F1.out
  rw [← hr'] at hF1
  have hOK : Own2 W.drew base (.slice (some ⟨g, 0, none⟩) l.length c) vs l := HO.out.below (below_drew (Below.refl _ _))
  obtain ⟨W2, hW2⟩ : ∃ W2, W2 = w1.setCell ⟨g, j, none⟩ (.slice (some ⟨gj, 0, none⟩) (rj.length - 1) c') := ⟨_, rfl⟩
  have hset := hOK.setRow HU.out hF1.2 hF1.1 (.inl rfl)
  rw [← hW2] at hset ⊢
  have hb2 : Below base w W2 := by
    rw [hW2]
    refine Below.setCell ?_ (by simpa using hbg) _
    exact Below.grown (below_drew (HBl.out.mono hbase)) hF1.2 (show base ≤ W.heap.size by omega) (by intro k hk; injection hk with hk; omega)
  have hDg : D ≠ gj ∧ D ≠ g := ⟨fun e => HRU.out.not_deferred HD.out rfl (by rw [e]; rfl), fun e => HO.out.outer.not_deferred HD.out rfl (by rw [e]; rfl)⟩
  have hDs : D < W.heap.size := (Array.getElem?_eq_some_iff.1 HD.out).1
  have hD2 : W2.heap[D]? = some (.deferred (some [])) := by
    rw [hW2, Below.heap_setCell _ _ _ _ hDg.2, hF1.2.block D hDs (by intro e; injection e with e; exact hDg.1 e)]
    exact HD.out
  have hPs : BP < W.heap.size := (Array.getElem?_eq_some_iff.1 HP.out).1
  have hP2 : PBox W2 BP (m, (j : Int), (q : Int), key) := by
    show W2.heap[BP]? = _
    rw [hW2, Below.heap_setCell _ _ _ _ (show BP ≠ g from fun e => hPg.1 e.symm), hF1.2.block BP hPs (by intro e; injection e with e; exact hPg.2 e.symm)]
    exact HP.out
  have hcell2 : W2.cell? ⟨g, j, none⟩ = some (.slice (some ⟨gj, 0, none⟩) (rj.length - 1) c') := by
    obtain ⟨g5, c5, e5, _, _, _, _, _, hc5⟩ := hset.outer.cell
    injection e5 with e5
    injection e5 with e5
    injection e5 with e5
    subst e5
    refine hc5 j _ ?_
    rw [List.getElem?_set_self]
    exact (List.getElem?_eq_some_iff.1 HU.out).1
  have hrl' : r'.length = rj.length - 1 := by rw [hr', List.length_eraseIdx_of_lt hq]
  have HS2 := Aside0.mk hset
  have HB2 := Aside0.mk hb2
  have HD2 := Aside0.mk hD2
  have HP2 := Aside0.mk hP2
  have HRL := Aside0.mk hrl'
  have HRW := Aside0.mk hr'
  rw [← hr'] at HLE
  have HDG := Aside0.mk hDg
  obtain ⟨_, t1, t2, t3⟩ := hP2.cell
  dsimp only at t1 t2 t3
  clear hset hb2 hD2 hF1 F1 hfz hcj hSk hgf hcon p1 p2 p3 hcell hOK hW2 HO HRU HBl HP hP2 hrl' hr' hDg
  by_cases hn0 : rj.length - 1 = 0
  · have hrn : r' = [] := List.eq_nil_of_length_eq_zero (by rw [HRL.out]; exact hn0)
    have hcon9 : Aside0 (Calls Try.prog 69 #[.slice (some ⟨g, 0, none⟩) l.length c, .int .i64 j, .int .i64 ((j : Int) + 1)] W2.drew fun e w3 => ∃ v', e = .returned v' ∧ Aside0 (OwnA w3 base v' (remL b l j r') ∧ Below base w w3 ∧ w3.heap[D]? = some (.deferred (some [])) ∧ W2.drew.grownBy w3 (some g))) := ⟨by
      have hset := HS2.out.below (below_drew (Below.refl _ W2))
      have hl2 := hset.rows.len
      rw [List.length_set, List.length_set] at hl2
      have hou := hset.outer
      refine (del69 hou j (by rw [List.length_set]; omega) (by rw [List.length_set]; omega)).mono ?_
      rintro e w3 ⟨v', rfl, ho, hg, _⟩
      have h3 := hset.eraseRow j hg ho
      refine ⟨v', rfl, ⟨?_, ?_, ?_, hg⟩⟩
      · have : remL b l j r' = (l.set j r').eraseIdx j := by
          unfold remL
          rw [if_pos hrn, List.eraseIdx_set_eq]
        rw [this]
        exact h3.toA
      · exact Below.grown (below_drew HB2.out) hg (show base ≤ W2.heap.size by have := HB2.out.size; omega) (by intro k hk; injection hk with hk; replace hk : g = k := hk; omega)
      · rw [hg.block D (by have := (Array.getElem?_eq_some_iff.1 HD2.out).1; exact this) (by intro e; injection e with e; exact HDG.out.2 e)]
        exact HD2.out⟩
    have hjw : IntKind.i64.wrap ((j : Int) + 1) = (j : Int) + 1 := wrap_small _ (by omega) (by omega)
    have hk9 : Aside0 (∀ w3, W2.drew.grownBy w3 (some g) → w3.cell? ⟨BP, 1, none⟩ = some (.int .i64 j) ∧ w3.cell? ⟨BP, 3, none⟩ = some (.int .i64 key)) := ⟨fun w3 hg => ⟨hg.cell t1 (by intro e; injection e with e; exact hPg.1 e.symm), hg.cell t3 (by intro e; injection e with e; exact hPg.1 e.symm)⟩⟩
    go_wp2
    go_region_held3 (fun w' => w'.cell? ⟨BP, 1, none⟩ = some (.int .i64 j) ∧ w'.cell? ⟨BP, 3, none⟩ = some (.int .i64 key)) (first | go_keep | exact hk9.out _ F3.out.2.2.2) (first | (go_at_call 69; refine hcon9.out.mono ?_; rintro e w3 ⟨v3, rfl, F3⟩))
    obtain ⟨h31, h32, h33, _⟩ := F3.out
    clear F3
    go_wp2
    rw [← hQ0]
    refine ⟨by simp, .inl ⟨_, _, rfl, run_takeDeferred h33, ?_⟩⟩
    refine ⟨.tuple #[v3, .int .i64 key], by simp [results, Try.f56, go_sem], ?_⟩
    exact HR.out _ _ (by rw [HRW.out] at h31; exact h31.ended h33 rfl) (h32.trans (belowK_b hbase _ D _ _ hDw h33 rfl rfl))
  · obtain ⟨H, hH⟩ : ∃ H : Nat, H = ((b + 1) / 2).toNat := ⟨_, rfl⟩
    have hHi : (b + 1) / 2 = (H : Int) := by have := HHB.out; rw [hH]; omega
    have hhalf := half_calls (b + 1) W2 (by have := HHB.out; omega)
    rw [hHi] at hhalf
    have HHH := Aside0.mk hHi
    have hwb : IntKind.i64.wrap (b + 1) = b + 1 := wrap_small _ (by have := HHB.out; omega) (by have := HHB.out; omega)
    have hrn : r' ≠ [] := fun e => by have := HRL.out; rw [e] at this; simp at this; omega
    have hnz : ((rj.length - 1 : Nat) : Int) ≠ 0 := by omega
    have hnz2 : (((rj.length - 1 : Nat) : Int) == 0) = false := by simpa using hnz
    clear hH hHi hn0 hnz
    obtain ⟨n, hn⟩ : ∃ n, n = rj.length - 1 := ⟨_, rfl⟩
    rw [← hn] at hcell2 hnz2 ⊢
    have HN := Aside0.mk hn
    clear hn
    have hset2 := HS2.out
    by_cases hge : (H : Int) ≤ (n : Int)
    · have hrem : remL b l j r' = l.set j r' := by
        unfold remL
        rw [if_neg hrn, if_pos (by rw [HHH.out, HRL.out, ← HN.out]; exact hge)]
      have HREM := Aside0.mk hrem
      clear hrem hset2
      go_wp2_with (go_at_call 61; refine hhalf.mono ?_; rintro e w' ⟨rfl, rfl⟩)
      go_quiet (fail)
      go_wp2
      have hbq := pw_below_drewN (Below.refl W2.heap.size W2) nq
      rw [← hQ0]
      refine ⟨by simp, .inl ⟨_, _, rfl, run_takeDeferred (show (W2.drewN nq).heap[D]? = _ from HD2.out), ?_⟩⟩
      refine ⟨.tuple #[.slice (some ⟨g, 0, none⟩) l.length c, .int .i64 key], by simp [results, Try.f56, go_sem], ?_⟩
      exact HR.out _ _ (by rw [← HRW.out, HREM.out]; exact (HS2.out.below hbq).toA.ended (show (W2.drewN nq).heap[D]? = _ from HD2.out) rfl) ((pw_below_drewN HB2.out nq).trans (belowK_b hbase _ D _ _ hDw (show (W2.drewN nq).heap[D]? = _ from HD2.out) rfl rfl))
    · have hlt : ¬ ((H : Int) ≤ (n : Int)) := hge
      have hj3 : IntKind.i64.wrap ((j : Int) - 1) = (j : Int) - 1 := by rw [IntKind.wrap_i64]; omega
      go_wp2_with (go_at_call 61; refine hhalf.mono ?_; rintro e w' ⟨rfl, rfl⟩)
      have hd57 : decide (H ≤ n) = false := decide_eq_false (by omega)
      rw [hd57]
      go_loopg [67] 2 (fun gm v67 wr => ∃ (i : Nat), gm = 2 - i ∧ i ≤ 2 ∧ v67 = .int .i64 i ∧ Aside0 ((1 ≤ i → mergeL b (l.set j r') j = none) ∧ (2 ≤ i → j = 0 ∨ mergeL b (l.set j r') (j - 1) = none)) ∧ Aside0 (∃ k, wr = W2.drewN k))
      case atStart => exact ⟨0, rfl, by omega, rfl, ⟨by omega, by omega⟩, ⟨0, rfl⟩⟩
      case round =>
        obtain ⟨i, hgm, hi, rfl, HM, HW⟩ := hrel
        have HG := Aside0.mk hgm
        clear hgm
        obtain ⟨kd, hkd⟩ := HW.out
        have hbw : Below W2.heap.size W2 wr := by rw [hkd]; exact pw_below_drewN (Below.refl _ _) kd
        have hDr : wr.heap[D]? = some (.deferred (some [])) := by rw [hkd]; exact HD2.out
        have hPr : PBox wr BP (m, (j : Int), (q : Int), key) := by rw [hkd]; exact HP2.out
        have hb2r : Below base w wr := HB2.out.trans (hbw.mono (by have := HB2.out.size; omega))
        have HOr := Aside0.mk (HS2.out.below hbw)
        have HDr := Aside0.mk hDr
        have HPr := Aside0.mk hPr
        have HBr := Aside0.mk hb2r
        have hll2 : (l.set j r').length = l.length := List.length_set
        have HKD := Aside0.mk hkd
        clear hbw hDr hPr hb2r hkd HW
        have ix0 := fun W => idx82_0 (j : Int) ((j : Int) - 1) W
        have ix1 := fun W => idx82_1 (j : Int) ((j : Int) - 1) W
        obtain ⟨_, r1, r2, r3⟩ := HPr.out.cell
        dsimp only at r1 r2 r3
        by_cases h2 : i < 2
        · by_cases hi0 : i = 0
          · subst hi0
            by_cases hnb : j + 1 < l.length
            · have hn1 : (j : Int) + 1 < (l.length : Int) := by omega
              have hjw : IntKind.i64.wrap ((j : Int) + 1) = (j : Int) + 1 := wrap_small _ (by omega) (by omega)
              obtain ⟨rF, gF, cF, rK, gK, cK, e1, e2, e3, e4, e5, e6, e7⟩ := two_rows HOr.out j (by rw [hll2]; exact hnb)
              have hsm : rF.length ≤ 1000000 ∧ rK.length ≤ 1000000 := ⟨HLE.out _ (List.mem_of_getElem? e1), HLE.out _ (List.mem_of_getElem? e2)⟩
              have hwr : IntKind.i64.wrap ((rF.length : Int) + (rK.length : Int)) = (rF.length : Int) + (rK.length : Int) := by rw [IntKind.wrap_i64]; omega
              have hj11 : (0 : Int) ≤ (j : Int) + 1 := by omega
              by_cases hsum : (rF.length : Int) + (rK.length : Int) ≤ b
              · go_wp2
                go_quiet (fail)
                rename_i KK hKK
                have hbq := pw_below_drewN (Below.refl wr.heap.size wr) nq
                have hgF : (l.set j r').getD j [] = rF := by simp [List.getD_eq_getElem?_getD, e1]
                have hgK : (l.set j r').getD (j + 1) [] = rK := by simp [List.getD_eq_getElem?_getD, e2]
                have hmj : mergeL b (l.set j r') j = some (((l.set j r').set j (rF ++ rK)).eraseIdx (j + 1)) := by
                  unfold mergeL
                  rw [hgF, hgK, if_pos ⟨by rw [hll2]; exact hnb, by omega⟩]
                have hown' : Own2 (wr.drewN nq) base (.slice (some ⟨g, 0, none⟩) l.length c) (vs.set j (.slice (some ⟨gj, 0, none⟩) (rj.length - 1) c')) (l.set j r') := HOr.out.below hbq
                rw [← hll2] at hown' ⊢
                refine hKK _ _ (wp_cond_true (by first | rfl | simp [hsum]) (merge_rest b key base g c BP D j m (j : Int) (q : Int) _ (l.set j r') w (wr.drewN nq) _ _ _ _ _ _ _ _ _ _ _ _ _ _ _ _ _ _ _ _ _ _ _ _ _ _ _ _ _ _ _ _ _ _ _ _ _ _ _ _ _ _ _ _ _ _ _ _ _ _ _ _ _ _ _ _ _ _ _ _ _ _ _ _ _ _ _ _ _ _ _ _ _ _ _ _ _ _ _ _ _ _ _ _ _ _ _ _ _ _ _ _ _ _ _ _ _ _ _ _ _ _ _ _ _ _ _ _ _ _ _ _ _ _ _ _ _ hown' (pw_below_drewN HBr.out nq) hbase HPr.out HDr.out hDw (by rw [hll2]; exact hnb) (by rw [hll2]; exact hll0) (by have := HHB.out; rw [hgF, hgK]; omega) (by rw [hgF, hgK]; intro e; have e9 : rF = r' := (by rw [List.getElem?_set_self hjl] at e1; injection e1 with e1; exact e1.symm); rw [e9] at e; exact hrn (List.append_eq_nil_iff.1 e).1) R ?_ _ (fun a w h => by rw [← hQ0]; exact h)))
                intro v' W' ho hbe
                refine HR.out v' W' ?_ hbe
                rw [hgF, hgK] at ho
                have hrem : remL b l j r' = ((l.set j r').set j (rF ++ rK)).eraseIdx (j + 1) := by
                  unfold remL
                  rw [if_neg hrn, if_neg (by rw [HHH.out, HRL.out, ← HN.out]; omega), hmj]
                rw [← HRW.out, hrem]
                exact ho
              · go_wp2
                go_quiet (fail)
                go_wp2
                go_roundg 1
                case measure => have := HG.out; omega
                case rel =>
                  refine ⟨1, rfl, by omega, by go_num, ⟨fun _ => ?_, by omega⟩, ⟨⟨kd + nq, by rw [HKD.out]; simp [World.drewN, Nat.add_assoc]⟩⟩⟩
                  unfold mergeL
                  have hgF : (l.set j r').getD j [] = rF := by simp [List.getD_eq_getElem?_getD, e1]
                  have hgK : (l.set j r').getD (j + 1) [] = rK := by simp [List.getD_eq_getElem?_getD, e2]
                  rw [hgF, hgK, if_neg (by omega)]
            · have hn1 : ¬ ((j : Int) + 1 < (l.length : Int)) := by omega
              have hjw : IntKind.i64.wrap ((j : Int) + 1) = (j : Int) + 1 := wrap_small _ (by omega) (by omega)
              have hdn : decide ((j : Int) + 1 < (l.length : Int)) = false := decide_eq_false hn1
              go_wp2
              go_quiet (fail)
              go_wp2
              go_roundg 1
              case measure => have := HG.out; omega
              case rel =>
                refine ⟨1, rfl, by omega, by go_num, ⟨fun _ => ?_, by omega⟩, ⟨⟨kd + nq, by rw [HKD.out]; simp [World.drewN, Nat.add_assoc]⟩⟩⟩
                unfold mergeL
                rw [if_neg (by rw [hll2]; omega)]
          · have hi1 : i = 1 := by omega
            subst hi1
            clear ix0 ix1
            have hM1 := HM.out.1 (by omega)
            have HM1 := Aside0.mk hM1
            clear hM1 HM
            by_cases hjz : j = 0
            · have ix1 : ∀ W, (Instr.index 82 (.agg #[.int .i64 (j : Int), .int .i64 ((j : Int) - 1)]) (.int .i64 1)).run Try.prog W = .ok (.int .i64 (-1)) W := fun W => by rw [idx82_1, show (j : Int) - 1 = -1 by omega]
              have HJZ := Aside0.mk hjz
              clear hjz
              go_wp2
              go_quiet (fail)
              go_wp2
              go_roundg 0
              case measure => have := HG.out; omega
              case rel =>
                exact ⟨2, rfl, by omega, by go_num, ⟨fun _ => HM1.out, fun _ => .inl HJZ.out⟩, ⟨⟨kd + nq, by rw [HKD.out]; simp [World.drewN, Nat.add_assoc]⟩⟩⟩
            · obtain ⟨F, hjF⟩ : ∃ F, j = F + 1 := ⟨j - 1, by omega⟩
              have ix1 : ∀ W, (Instr.index 82 (.agg #[.int .i64 (j : Int), .int .i64 ((j : Int) - 1)]) (.int .i64 1)).run Try.prog W = .ok (.int .i64 (F : Int)) W := fun W => by rw [idx82_1, show (j : Int) - 1 = (F : Int) by omega]
              have hF0 : (0 : Int) ≤ (F : Int) := by omega
              have hF1 : (F : Int) < (l.length : Int) := by omega
              have hn1 : (F : Int) + 1 < (l.length : Int) := by omega
              have hjw : IntKind.i64.wrap ((F : Int) + 1) = (F : Int) + 1 := wrap_small _ (by omega) (by omega)
              obtain ⟨rF, gF, cF, rK, gK, cK, e1, e2, e3, e4, e5, e6, e7⟩ := two_rows HOr.out F (by rw [hll2]; omega)
              have hsm : rF.length ≤ 1000000 ∧ rK.length ≤ 1000000 := ⟨HLE.out _ (List.mem_of_getElem? e1), HLE.out _ (List.mem_of_getElem? e2)⟩
              have hwr : IntKind.i64.wrap ((rF.length : Int) + (rK.length : Int)) = (rF.length : Int) + (rK.length : Int) := by rw [IntKind.wrap_i64]; omega
              have hj11 : (0 : Int) ≤ (F : Int) + 1 := by omega
              have HJZ := Aside0.mk hjz
              have HJF := Aside0.mk hjF
              have hgF : (l.set j r').getD F [] = rF := by simp [List.getD_eq_getElem?_getD, e1]
              have hgK : (l.set j r').getD (F + 1) [] = rK := by simp [List.getD_eq_getElem?_getD, e2]
              have HGF := Aside0.mk hgF
              have HGK := Aside0.mk hgK
              have e9 : rK = r' := by rw [← hjF, List.getElem?_set_self hjl] at e2; injection e2 with e2; exact e2.symm
              have HE9 := Aside0.mk e9
              clear hjz hjF hgF hgK e9
              by_cases hsum : (rF.length : Int) + (rK.length : Int) ≤ b
              · go_wp2
                go_quiet (fail)
                rename_i KK hKK
                have hbq := pw_below_drewN (Below.refl wr.heap.size wr) nq
                have hgF := HGF.out
                have hgK := HGK.out
                have hmj : mergeL b (l.set j r') (j - 1) = some (((l.set j r').set F (rF ++ rK)).eraseIdx (F + 1)) := by
                  rw [show j - 1 = F by have := HJF.out; omega]
                  unfold mergeL
                  rw [hgF, hgK, if_pos ⟨by rw [hll2]; omega, by omega⟩]
                have hown' : Own2 (wr.drewN nq) base (.slice (some ⟨g, 0, none⟩) l.length c) (vs.set j (.slice (some ⟨gj, 0, none⟩) (rj.length - 1) c')) (l.set j r') := HOr.out.below hbq
                rw [← hll2] at hown' ⊢
                refine hKK _ _ (wp_cond_true (by first | rfl | simp [hsum]) (merge_rest b key base g c BP D F m (j : Int) (q : Int) _ (l.set j r') w (wr.drewN nq) _ _ _ _ _ _ _ _ _ _ _ _ _ _ _ _ _ _ _ _ _ _ _ _ _ _ _ _ _ _ _ _ _ _ _ _ _ _ _ _ _ _ _ _ _ _ _ _ _ _ _ _ _ _ _ _ _ _ _ _ _ _ _ _ _ _ _ _ _ _ _ _ _ _ _ _ _ _ _ _ _ _ _ _ _ _ _ _ _ _ _ _ _ _ _ _ _ _ _ _ _ _ _ _ _ _ _ _ _ _ _ _ _ _ _ _ _ hown' (pw_below_drewN HBr.out nq) hbase HPr.out HDr.out hDw (by rw [hll2]; omega) (by rw [hll2]; exact hll0) (by have := HHB.out; rw [hgF, hgK]; omega) (by rw [hgF, hgK]; intro e; rw [HE9.out] at e; exact hrn (List.append_eq_nil_iff.1 e).2) R ?_ _ (fun a w h => by rw [← hQ0]; exact h)))
                intro v' W' ho hbe
                refine HR.out v' W' ?_ hbe
                rw [hgF, hgK] at ho
                have hrem : remL b l j r' = ((l.set j r').set F (rF ++ rK)).eraseIdx (F + 1) := by
                  unfold remL
                  rw [if_neg hrn, if_neg (by rw [HHH.out, HRL.out, ← HN.out]; omega), HM1.out]
                  simp only [if_neg HJZ.out, hmj]
                rw [← HRW.out, hrem]
                exact ho
              · go_wp2
                go_quiet (fail)
                go_wp2
                go_roundg 0
                case measure => have := HG.out; omega
                case rel =>
                  refine ⟨2, rfl, by omega, by go_num, ⟨fun _ => HM1.out, fun _ => .inr ?_⟩, ⟨⟨kd + nq, by rw [HKD.out]; simp [World.drewN, Nat.add_assoc]⟩⟩⟩
                  rw [show j - 1 = F by have := HJF.out; omega]
                  unfold mergeL
                  rw [HGF.out, HGK.out, if_neg (by omega)]
        · have hi2 : i = 2 := by omega
          subst hi2
          go_wp2
          go_quiet (fail)
          go_wp2
          have hbq := pw_below_drewN (Below.refl wr.heap.size wr) nq
          have hrem : remL b l j r' = l.set j r' := by
            have h1 := HM.out.1 (by omega)
            have h2 := HM.out.2 (by omega)
            unfold remL
            rw [if_neg hrn, if_neg (by rw [HHH.out, HRL.out, ← HN.out]; omega), h1]
            rcases h2 with h2 | h2
            · rw [if_pos h2]
            · by_cases hj00 : j = 0
              · rw [if_pos hj00]
              · rw [if_neg hj00, h2]
          rw [← hQ0]
          refine ⟨by simp, .inl ⟨_, _, rfl, run_takeDeferred (show (wr.drewN nq).heap[D]? = _ from HDr.out), ?_⟩⟩
          refine ⟨.tuple #[.slice (some ⟨g, 0, none⟩) l.length c, .int .i64 key], by simp [results, Try.f56, go_sem], ?_⟩
          exact HR.out _ _ (by rw [← HRW.out, hrem]; exact (HOr.out.below hbq).toA.ended (show (wr.drewN nq).heap[D]? = _ from HDr.out) rfl) ((pw_below_drewN HBr.out nq).trans (belowK_b hbase _ D _ _ hDw (show (wr.drewN nq).heap[D]? = _ from HDr.out) rfl rfl))
end Go.Proofs.Ytjpobhdgfdeenaa.A
