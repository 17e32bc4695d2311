/- insert of package array behind its loop. -/
import Derived.Below
import Derived.Deep.Draws
import Derived.Deep.AppendLies
import Derived.Maps.AppendAt
import Derived.Maps.OwnSet
import Derived.OwnWalk
import Derived.Laws.BytesArg
import Derived.Laws.MakeOwn
import Derived.Laws.OwnMore
import Derived.Deep.OwnRows
import Derived.Tactics
import Derived.Laws.Slices
import Derived.WalkKit
import Derived.KernelRfl
import Derived.RowKit3
import Derived.Deep.LoopGhost
import Derived.Deep.QuietTactic
import Derived.BigQuiet
import Derived.WideLaws
import Derived.Deep.DeepCutAuto
import Derived.Deep.CutBlock
import Derived.Deep.RegionHeld3
import Derived.Laws.Rows
import Derived.ArgAppend
import Derived.Laws.IdiomCopy
import Derived.OrdersHeld
import Derived.Laws.BitsLemmas
import Derived.Outline
import Derived.WalkSpells
import Derived.Lib.Hide
import Derived.RowKit
import Derived.Deep.DeepMust
import Derived.RangeFuncNested
import Derived.RangeFuncBound
import Derived.RangeFuncCalls
import Derived.RangeFuncLeaves
import Derived.Shelf.Abstract
import Derived.Shelf.RegionOpen
import Derived.OwnWalkIn
import Derived.TacticsInMore
import Derived.LoopNIn
import Derived.LoopIn
import Derived.RangeFuncBox
import Derived.StillTailTactics
import Derived.Deep.DrawnRows
import Derived.Test.YtjpobhdgfdeenaaProg
import Derived.Test.YtjpobhdgfdeenaaM4
set_option linter.unusedVariables false
set_option linter.unusedSimpArgs false
namespace Go.Proofs.Ytjpobhdgfdeenaa.A
open Go.RowKit Go.Shelf Go.Proofs.YtjpobhdgfdeenaaW.PrintWords Go.Maps
attribute [local go_sem] Oper.semAt_some
attribute [local go_sem ↓] Go.wp_at_zero Go.wp_at_succ

/-- What stands behind the first n statements. -/
def seqAt : Nat → Code → Code
  | 0, c => c
  | n + 1, .seq _ b => seqAt n b
  | _, c => c
noncomputable def tail41 : Code := seqAt 4 (Try.f41.body.getD .skip)
def halfN (b : Int) : Nat := ((b + 2) / 2).toNat
/-- A row put back into a list of rows: in its place, or split. -/
def insF (b : Int) (l : List (List Int)) (j : Nat) (row : List Int) : List (List Int) :=
  if (row.length : Int) ≤ b then l.set j row else l.take j ++ row.take (halfN b) :: row.drop (halfN b) :: l.drop (j + 1)
theorem ints_ins (r : List Int) (q : Nat) (k : Int) : ints (r.take q ++ k :: r.drop q) = (ints r).take q ++ .int .i64 k :: (ints r).drop q := by simp [ints, List.map_take, List.map_drop]

set_option maxRecDepth 100000 in
set_option maxHeartbeats 2000000 in
theorem insert_rest (b m k : Int) (base g c : Nat) (vs : List Value) (l : List (List Int)) (w W : World) (A0 : Option Addr) (row : List Int) (c0 B9 B10 B11 D j q : Nat)
    (hown0 : Own2 w base (.slice (some ⟨g, 0, none⟩) l.length c) vs l) (hb : 2 ≤ b ∧ b ≤ 50) (hs : l.flatten.length ≤ 1000000) (hll0 : l.length ≤ 1000000) (hbase : base ≤ w.heap.size) (hB : Below w.heap.size w W)
    (h9 : Boxed W B9 3 (.int .i64 j)) (h10 : Boxed W B10 3 (.int .i64 q)) (hk9 : w.heap.size ≤ B9) (hk10 : w.heap.size ≤ B10) (hD : W.heap[D]? = some (.deferred (some []))) (hDw : w.heap.size ≤ D) (hat : At l m j q) (R : Ending → World → Prop)
    (hR : ∀ (v' : Value) (vs' : List Value) (row' : List Int) (W' : World), (∃ rj, l[j]? = some rj ∧ row' = rj.take q ++ k :: rj.drop q) → Own2 W' base v' vs' (insF b l j row') → Below base w W' → R (.returned v') W') :
    tail41.wp Try.prog (bodyPostM Fence.wide 9 Try.prog Try.f41 R)
      { tmps := #[.int .i64 b, .slice (some ⟨g, 0, none⟩) l.length c, .int .i64 m, .int .i64 k, undef, undef, .pointer (some ⟨w.heap.size, 0, none⟩), undef, .slice none 0 0, .pointer (some ⟨B9, 0, none⟩), .pointer (some ⟨B10, 0, none⟩), undef, undef, undef, undef, .slice (some ⟨g, 0, none⟩) l.length c, .int .i64 l.length, .bool false, undef, undef, undef, .slice (some ⟨g, 0, none⟩) l.length c, .int .i64 l.length, .int .i64 ((l.length : Int) - 1), .slice (some ⟨g, 0, none⟩) l.length c, .slice (some ⟨g, 0, none⟩) l.length c, .int .i64 l.length, .int .i64 ((l.length : Int) - 1), .pointer (some ⟨g, l.length - 1, none⟩), .slice A0 row.length c0, .int .i64 row.length, .slice (some ⟨g, 0, none⟩) l.length c, .func (.func 65) #[] #[.pointer (some ⟨B11, 0, none⟩)], undef, undef, undef, undef, undef, undef, undef, undef, undef, undef, undef, undef, undef, undef, undef, undef, undef, undef, undef, undef, undef, undef, undef, undef, undef, undef, undef, undef, undef, undef, undef, undef, undef, undef, undef, undef, undef, undef, undef, undef, undef, undef, undef, undef, undef, undef, undef, undef, undef, undef, undef, undef, undef, undef, undef], defers := { target := .collected D, args := #[] } :: [] } W := by
  obtain ⟨rj, hlj, hmj, hqj⟩ := hat
  have hown := hown0.below hB
  have hjl : j < l.length := (List.getElem?_eq_some_iff.1 hlj).1
  obtain ⟨u, hu, hru⟩ := hown.rows.get j rj hlj
  obtain ⟨gj, cj, hgj, hbj, _, hcj1, hcj2, hcj3, _⟩ := hru.cell
  rw [ints_len] at hgj hcj1
  subst hgj
  have hgjw : gj < w.heap.size := (hown0.lt _ (List.mem_of_getElem? hu) gj rfl).1
  have hrl : rj.length ≤ 1000000 := by
    have h1 := flat_len l (j + 1)
    have h2 : (l.take (j + 1)).flatten = (l.take j).flatten ++ rj := flat_drop l j rj (by rw [List.drop_eq_getElem_cons hjl]; congr 1; have := List.getElem?_eq_getElem hjl; rw [this] at hlj; injection hlj)
    rw [h2, List.length_append] at h1
    omega
  obtain ⟨gg, cc, hgg, hbg, _, hcg1, hcg2, hcg3, hcellg⟩ := hown.outer.cell
  injection hgg with hgg hll hcc
  injection hgg with hgg
  injection hgg with hgg
  subst hgg hcc
  have hgw : g < w.heap.size := by
    obtain ⟨g5, c5, e5, _, _, hlt5, _⟩ := own_addr hown0.outer
    injection e5 with e5 _ _
    injection e5 with e5
    injection e5 with e5
    omega
  have hcell := hcellg j _ hu
  have e9 := h9.cell
  have e10 := h10.cell
  have hj0 : (0 : Int) ≤ (j : Int) := by omega
  have hj1 : (j : Int) < (l.length : Int) := by omega
  have hgne : g ≠ gj := fun e => own_ne hown.outer hru (by decide) (by rw [e]; rfl)
  have hWsz := hB.size
  obtain ⟨WK, hWK⟩ : ∃ WK, WK = (W.alloc (.cells #[.int .i64 k] 3)).drew := ⟨_, rfl⟩
  have hBK : Below W.heap.size W WK := by rw [hWK]; exact below_drew (below_alloc (Below.refl _ _) _)
  have hruK : OwnS WK base 3 (.slice (some ⟨gj, 0, none⟩) rj.length cj) (ints rj) := hru.kept (grown_of_below hBK none) (by simp [Value.ownBlock])
  have hil : (rj.take q ++ k :: rj.drop q).length = rj.length + 1 := ins_len rj q (by rcases hqj with h | ⟨_, h⟩ <;> omega) k
  have hcon : Aside0 (Calls Try.prog 60 #[.slice (some ⟨gj, 0, none⟩) rj.length cj, .int .i64 q, .slice (some ⟨W.heap.size, 0, none⟩) 1 1] (W.alloc (.cells #[.int .i64 k] 3)).drew fun e w1 => ∃ g' c', e = .returned (.slice (some ⟨g', 0, none⟩) (rj.length + 1 : Nat) c') ∧
      Aside0 (OwnS w1 base 3 (.slice (some ⟨g', 0, none⟩) (rj.length + 1) c') (ints (rj.take q ++ k :: rj.drop q)) ∧ WK.grownBy w1 (some gj) ∧ (g' = gj ∨ WK.heap.size ≤ g'))) := ⟨by
    rw [← hWK]
    refine (ins60 hruK q W.heap.size (by rw [ints_len]; rcases hqj with h | ⟨_, h⟩ <;> omega) (.int .i64 k) (by rw [ints_len]; exact hrl) (by rw [hWK]; exact heap_alloc_new W _) (by simp only [Value.ownBlock]; intro e; injection e; omega) rfl (by have := hBK.size; omega)).mono ?_
    rintro e w1 ⟨v', rfl, ho, hg, hor⟩
    rw [← ints_ins] at ho
    obtain ⟨g', c', rfl, eo, _, _, _⟩ := own_addr ho
    have hl1 : (ints (rj.take q ++ k :: rj.drop q)).length = rj.length + 1 := by rw [ints_len, hil]
    rw [hl1] at ho ⊢
    refine ⟨g', c', rfl, ⟨ho, hg, ?_⟩⟩
    rcases hor with h | ⟨b', h, hle⟩
    · simp only [Value.ownBlock] at h
      injection h with h
      exact .inl h
    · simp only [Value.ownBlock] at h
      injection h with h
      have := hBK.size
      exact .inr (by omega)⟩
  have hSk : Aside0 (∀ w1, WK.grownBy w1 (some gj) → w1.cell? ⟨B9, 0, none⟩ = some (.int .i64 j) ∧ w1.cell? ⟨B10, 0, none⟩ = some (.int .i64 q) ∧ w1.cell? ⟨g, j, none⟩ = some (.slice (some ⟨gj, 0, none⟩) rj.length cj)) := ⟨fun w1 hg => by
    have c9 : WK.cell? ⟨B9, 0, none⟩ = some (.int .i64 j) := pw_cell_below hBK e9
    have c10 : WK.cell? ⟨B10, 0, none⟩ = some (.int .i64 q) := pw_cell_below hBK e10
    have cg : WK.cell? ⟨g, j, none⟩ = some (.slice (some ⟨gj, 0, none⟩) rj.length cj) := pw_cell_below hBK hcell
    exact ⟨hg.cell c9 (by intro e; injection e with e; have : B9 = gj := e; omega), hg.cell c10 (by intro e; injection e with e; have : B10 = gj := e; omega), hg.cell cg (by intro e; injection e with e; exact hgne e)⟩⟩
  have hgf : Aside0 (∀ w1, WK.grownBy w1 (some gj) → w1.frozen? ⟨g, j, none⟩ = false) := ⟨fun w1 hg => by
    obtain ⟨g5, c5, cur5, e5, _, hB5, _⟩ := hown.outer
    injection e5 with e5 _ _
    injection e5 with e5
    injection e5 with e5
    subst e5
    have h5 : w1.heap[g]? = some (.cells cur5.toArray 22 (0, 0)) := (hg.block g (by have := hBK.size; omega) (fun e => hgne (by injection e))).trans ((hBK.block g (by omega)).trans hB5)
    simp [World.frozen?, h5]⟩
  have HO := Aside0.mk hown
  have HRU := Aside0.mk hru
  have HBl := Aside0.mk hB
  have HBK := Aside0.mk hBK
  have HD := Aside0.mk hD
  have H9 := Aside0.mk h9
  have H10 := Aside0.mk h10
  have HU := Aside0.mk hu
  have HLJ := Aside0.mk hlj
  have HQ := Aside0.mk hqj
  have HIL := Aside0.mk hil
  have HR := Aside0.mk hR
  have HWK := Aside0.mk hWK
  clear hown hown0 hru hcellg hmj hlj hu hll hqj hD h9 h10 hR hBK hruK hil hWK hB
  generalize hQ0 : bodyPostM Fence.wide 9 Try.prog Try.f41 R = Q0
  simp only [tail41, seqAt, Try.f41, Option.getD]
  go_wp2
  refine wp_region_noPanic ?_
  refine Held.start (fun w' => w'.cell? ⟨B9, 0, none⟩ = some (.int .i64 j) ∧ w'.cell? ⟨B10, 0, none⟩ = some (.int .i64 q) ∧ w'.cell? ⟨g, j, none⟩ = some (.slice (some ⟨gj, 0, none⟩) rj.length cj)) 11 (by kernel_rfl) (by decide) (by go_keep) ?_
  refine Held.take 0 (v := ?v0) rfl (by kernel_rfl) (by decide) (by kernel_rfl) (by kernel_rfl) (fun _ _ _ h => h) (Or.inl ⟨by rfl, ?h0⟩) ?r0
  case h0 => intro w hSw; (try dsimp only at hSw); obtain ⟨hS1, hS2, hS3⟩ := hSw; go_simp; (try with_reducible rfl)
  try simp only [Act.put, List.setIfInBounds_toArray, List.set_cons_zero, List.set_cons_succ]
  refine Held.take 1 (v := ?v1) rfl (by kernel_rfl) (by decide) (by kernel_rfl) (by kernel_rfl) (fun _ _ _ h => h) (Or.inl ⟨by rfl, ?h1⟩) ?r1
  case h1 => intro w hSw; (try dsimp only at hSw); obtain ⟨hS1, hS2, hS3⟩ := hSw; go_simp; (try with_reducible rfl)
  try simp only [Act.put, List.setIfInBounds_toArray, List.set_cons_zero, List.set_cons_succ]
  refine Held.take 2 (v := ?v2) rfl (by kernel_rfl) (by decide) (by kernel_rfl) (by kernel_rfl) (fun _ _ _ h => h) (Or.inl ⟨by rfl, ?h2⟩) ?r2
  case h2 => intro w hSw; (try dsimp only at hSw); obtain ⟨hS1, hS2, hS3⟩ := hSw; go_simp; (try with_reducible rfl)
  try simp only [Act.put, List.setIfInBounds_toArray, List.set_cons_zero, List.set_cons_succ]
  refine Held.take 3 (v := ?v3) rfl (by kernel_rfl) (by decide) (by kernel_rfl) (by kernel_rfl) (fun _ _ _ h => h) (Or.inl ⟨by rfl, ?h3⟩) ?r3
  case h3 => intro w hSw; (try dsimp only at hSw); obtain ⟨hS1, hS2, hS3⟩ := hSw; go_simp; (try with_reducible rfl)
  try simp only [Act.put, List.setIfInBounds_toArray, List.set_cons_zero, List.set_cons_succ]
  refine Held.take 4 (v := ?v4) rfl (by kernel_rfl) (by decide) (by kernel_rfl) (by kernel_rfl) (fun _ _ _ h => h) (Or.inl ⟨by rfl, ?h4⟩) ?r4
  case h4 => intro w hSw; (try dsimp only at hSw); obtain ⟨hS1, hS2, hS3⟩ := hSw; go_simp; (try with_reducible rfl)
  try simp only [Act.put, List.setIfInBounds_toArray, List.set_cons_zero, List.set_cons_succ]
  refine Held.take 5 (v := ?v5) rfl (by kernel_rfl) (by decide) (by kernel_rfl) (by kernel_rfl) (fun _ _ _ h => h) (Or.inl ⟨by rfl, ?h5⟩) ?r5
  case h5 => intro w hSw; (try dsimp only at hSw); obtain ⟨hS1, hS2, hS3⟩ := hSw; go_simp; (try with_reducible rfl)
  try simp only [Act.put, List.setIfInBounds_toArray, List.set_cons_zero, List.set_cons_succ]
  refine Held.take 6 (v := ?v6) rfl (by kernel_rfl) (by decide) (by kernel_rfl) (by kernel_rfl) (fun _ _ _ h => h) (Or.inl ⟨by rfl, ?h6⟩) ?r6
  case h6 => intro w hSw; (try dsimp only at hSw); obtain ⟨hS1, hS2, hS3⟩ := hSw; go_simp; (try with_reducible rfl)
  try simp only [Act.put, List.setIfInBounds_toArray, List.set_cons_zero, List.set_cons_succ]
  refine Held.take 7 (v := ?v7) rfl (by kernel_rfl) (by decide) (by kernel_rfl) (by kernel_rfl) (fun _ _ _ h => h) (Or.inl ⟨by rfl, ?h7⟩) ?r7
  case h7 => intro w hSw; (try dsimp only at hSw); obtain ⟨hS1, hS2, hS3⟩ := hSw; go_simp; (try with_reducible rfl)
  try simp only [Act.put, List.setIfInBounds_toArray, List.set_cons_zero, List.set_cons_succ]
  refine Held.only 8 rfl (by decide) (by kernel_rfl) (fun K8 hK8 => ?_)
  go_simp
  refine hK8.out _ _ (by go_keep) ?_
  clear hK8 K8
  try simp only [Act.put, List.setIfInBounds_toArray, List.set_cons_zero, List.set_cons_succ]
  refine Held.only 9 rfl (by decide) (by kernel_rfl) (fun K9 hK9 => ?_)
  go_simp
  go_at_call 60
  refine hcon.out.mono ?_
  rintro e w1 ⟨g', c', rfl, F1⟩
  dsimp only
  refine hK9.out _ _ (hSk.out _ F1.out.2.1) ?_
  clear hK9 K9
  try simp only [Act.put, List.setIfInBounds_toArray, List.set_cons_zero, List.set_cons_succ]
  refine Held.take 10 (v := ?v10) rfl (by kernel_rfl) (by decide) (by kernel_rfl) (by kernel_rfl) (fun _ _ _ h => h) (Or.inl ⟨by rfl, ?h10⟩) ?r10
  case h10 => intro w hSw; (try dsimp only at hSw); obtain ⟨hS1, hS2, hS3⟩ := hSw; go_simp; (try with_reducible rfl)
  try simp only [Act.put, List.setIfInBounds_toArray, List.set_cons_zero, List.set_cons_succ]
  have hcj := (hSk.out _ F1.out.2.1).2.2
  have hfz := hgf.out _ F1.out.2.1
  refine Held.last 11 rfl (by decide) (by kernel_rfl) (by kernel_rfl) (fun K11 hK11 => ?_)
  go_simp
  refine hK11.out _ _ ?_
  clear hK11 K11
  refine NoPanic.normal ?_
  obtain ⟨row', hrow'⟩ : ∃ row', row' = rj.take q ++ k :: rj.drop q := ⟨_, rfl⟩
  have hF1 := F1.out
  rw [← hrow'] at hF1
  have hOK : Own2 WK base (.slice (some ⟨g, 0, none⟩) l.length c) vs l := HO.out.below HBK.out
  obtain ⟨W2, hW2⟩ : ∃ W2, W2 = w1.setCell ⟨g, j, none⟩ (.slice (some ⟨g', 0, none⟩) (rj.length + 1) c') := ⟨_, rfl⟩
  have hset := hOK.setRow HU.out hF1.2.1 hF1.1 (by rcases hF1.2.2 with h | h; exact .inl (by rw [h]; rfl); exact .inr ⟨g', rfl, h⟩)
  rw [← hW2] at hset ⊢
  have hb2 : Below base w W2 := by
    rw [hW2]
    refine Below.setCell ?_ (by simpa using hbg) _
    exact Below.grown ((HBl.out.mono hbase).trans (HBK.out.mono (by omega))) hF1.2.1 (by have := HBK.out.size; omega) (by intro k hk; injection hk with hk; omega)
  have hDg : D ≠ gj ∧ D ≠ g := ⟨fun e => HRU.out.not_deferred HD.out rfl (by rw [e]; rfl), fun e => HO.out.outer.not_deferred HD.out rfl (by rw [e]; rfl)⟩
  have hDs : D < W.heap.size := (Array.getElem?_eq_some_iff.1 HD.out).1
  have hD2 : W2.heap[D]? = some (.deferred (some [])) := by
    rw [hW2, Below.heap_setCell _ _ _ _ hDg.2, hF1.2.1.block D (by have := HBK.out.size; omega) (by intro e; injection e with e; exact hDg.1 e), HBK.out.block D hDs]
    exact HD.out
  have hcell2 : W2.cell? ⟨g, j, none⟩ = some (.slice (some ⟨g', 0, none⟩) (rj.length + 1) c') := by
    obtain ⟨g5, c5, e5, _, _, _, _, _, hc5⟩ := hset.outer.cell
    injection e5 with e5
    injection e5 with e5
    injection e5 with e5
    subst e5
    refine hc5 j _ ?_
    rw [List.getElem?_set_self]
    exact (List.getElem?_eq_some_iff.1 HU.out).1
  have c92 : W2.cell? ⟨B9, 0, none⟩ = some (.int .i64 j) := by
    rw [hW2, World.cell?_setCell_far _ _ _ _ (show g ≠ B9 by omega)]
    exact (hSk.out _ hF1.2.1).1
  have c102 : W2.cell? ⟨B10, 0, none⟩ = some (.int .i64 q) := by
    rw [hW2, World.cell?_setCell_far _ _ _ _ (show g ≠ B10 by omega)]
    exact (hSk.out _ hF1.2.1).2.1
  have hfz2 : W2.frozen? ⟨g, j, none⟩ = false := by
    obtain ⟨_, _, e5, _, _, _, _, hB5⟩ := own_addr hset.outer
    injection e5 with e5
    injection e5 with e5
    injection e5 with e5
    subst e5
    exact blk_free hB5 _
  have hV2 : OwnS W2 base 3 (.slice (some ⟨g', 0, none⟩) (rj.length + 1) c') (ints row') := by
    obtain ⟨u5, hu5, hr5⟩ := hset.rows.get j row' (by rw [List.getElem?_set_self hjl])
    rw [List.getElem?_set_self (List.getElem?_eq_some_iff.1 HU.out).1] at hu5
    injection hu5 with hu5
    rw [hu5]
    exact hr5
  have HS2 := Aside0.mk hset
  have HB2 := Aside0.mk hb2
  have HD2 := Aside0.mk hD2
  have HV2 := Aside0.mk hV2
  have HDG := Aside0.mk hDg
  have hrl' : row'.length = rj.length + 1 := by rw [hrow']; exact HIL.out
  have HRL := Aside0.mk hrl'
  have HRW := Aside0.mk hrow'
  clear hset hb2 hD2 hF1 F1 hfz hcj hSk hgf hcon e9 e10 hcell hOK hW2 HO HRU HBl HBK HWK hV2 hDg hrl' hrow'
  by_cases hlen : (rj.length : Int) + 1 ≤ b
  · go_wp2
    have hins : insF b l j row' = l.set j row' := by
      unfold insF
      rw [if_pos (by rw [HRL.out]; omega)]
    rw [← hQ0]
    refine ⟨by simp, .inl ⟨_, _, rfl, run_takeDeferred HD2.out, ?_⟩⟩
    refine ⟨.slice (some ⟨g, 0, none⟩) l.length c, by simp [results, Try.f41, go_sem], ?_⟩
    refine HR.out _ _ row' _ ⟨rj, HLJ.out, HRW.out⟩ (by rw [hins]; exact HS2.out.ended HD2.out rfl) (HB2.out.trans (belowK_b hbase _ D _ _ hDw HD2.out rfl rfl))
  · obtain ⟨N, hN⟩ : ∃ N, N = halfN b := ⟨_, rfl⟩
    have hNi : (b + 2) / 2 = (N : Int) := by rw [hN]; unfold halfN; omega
    have hhalf := half_calls (b + 2) W2 (by omega)
    rw [hNi] at hhalf
    have hw : IntKind.i64.wrap (b + 2) = b + 2 := wrap_small _ (by omega) (by omega)
    have hN1 : 0 < N := by omega
    have hN2 : N < rj.length + 1 := by omega
    have hV3 := HV2.out.info.2.1
    have hV4 := HV2.out.info.2.2.1
    rw [HRL.out] at hV3
    have hcl : Aside0 (Calls Try.prog 52 #[.slice (some ⟨g', N, none⟩) (rj.length + 1 - N) (c' - N)] W2.drew fun e w3 => ∃ v, e = .returned v ∧ Aside0 (OI w3 W2.heap.size v (row'.drop N) ∧ Below W2.heap.size W2 w3)) := ⟨by
      have h := HV2.out.suf N (by rw [HRL.out]; omega) (by omega)
      have hl : (row'.drop N).length = rj.length + 1 - N := by rw [List.length_drop, HRL.out]
      have := Clone_calls (some ⟨g', N, none⟩) (c' - N) (row'.drop N) W2.drew (Kd.C_drew h) (by intro e; rw [e] at hl; simp at hl; omega) (by rw [hl]; omega)
      rw [hl] at this
      refine this.mono ?_
      rintro e w3 ⟨v, rfl, ho, hb3⟩
      exact ⟨v, rfl, ⟨ho, (below_drew (Below.refl _ _)).trans hb3⟩⟩⟩
    have hn0 : (0 : Int) ≤ (N : Int) := by omega
    have HN := Aside0.mk hN
    have HV3 := Aside0.mk hV3
    have HV4 := Aside0.mk hV4
    clear hN hV3 hV4
    have hn1 : (N : Int) ≤ (rj.length : Int) + 1 := by omega
    have hn2 : (N : Int) ≤ (c' : Int) := by have := HV3.out; omega
    have hn3 : ¬ (c' = N) := by have := HV3.out; omega
    have hn4 : ¬ (c' - N = 0) := by omega
    have hn5 : ¬ (c' ≤ N) := by omega
    go_wp2_with (go_at_call 61; refine hhalf.mono ?_; rintro e w' ⟨rfl, rfl⟩)
    go_region_held3 (fun w' => w'.cell? ⟨B9, 0, none⟩ = some (.int .i64 j) ∧ w'.cell? ⟨g, j, none⟩ = some (.slice (some ⟨g', 0, none⟩) (rj.length + 1) c')) (first | go_keep | exact ⟨pw_cell_below F3.out.2 c92, pw_cell_below F3.out.2 hcell2⟩) (first | (go_at_call 52; refine hcl.out.mono ?_; rintro e w3 ⟨v, rfl, F3⟩))
    obtain ⟨hoi3, hb3⟩ := F3.out
    have hdl : (row'.drop N).length = rj.length + 1 - N := by rw [List.length_drop, HRL.out]
    have hv3 : OwnS w3 W2.heap.size 3 v (ints (row'.drop N)) := OwnS_of_OI hoi3 (by intro e; rw [e] at hdl; simp at hdl; omega)
    obtain ⟨gv, cv, ev, ebv, hgv1, hgv2, cellv, hgv3⟩ := own_addr hv3
    obtain ⟨nv, hnv⟩ : ∃ nv, nv = (ints (row'.drop N)).length := ⟨_, rfl⟩
    rw [← hnv] at ev
    have HNV := Aside0.mk hnv
    clear hnv
    subst ev
    have hW2s := HB2.out.size
    have hgW2 : g < W2.heap.size := by
      obtain ⟨_, _, e5, _, _, hlt5, _⟩ := own_addr HS2.out.outer
      injection e5 with e5 _ _
      injection e5 with e5
      injection e5 with e5
      omega
    have hown3 : Own2 w3 base (.slice (some ⟨g, 0, none⟩) (l.set j row').length c) (vs.set j (.slice (some ⟨g', 0, none⟩) (rj.length + 1) c')) (l.set j row') := by
      rw [List.length_set]
      exact HS2.out.below hb3
    have hP3 : OwnS w3 base 3 (.slice (some ⟨g', 0, none⟩) N N) (ints (row'.take N)) := by
      have h1 : OwnS w3 base 3 (.slice (some ⟨g', 0, none⟩) (rj.length + 1) c') (ints row') := by
        obtain ⟨g5, c5, cur5, e5, b5, B5, r5⟩ := HV2.out
        refine ⟨g5, c5, cur5, e5, b5, ?_, r5⟩
        exact (hb3.block g5 (blk_lt B5)).trans B5
      exact h1.pre N hN1 (by rw [HRL.out]; omega)
    have hset4 := hown3.setRow (j := j) (u := .slice (some ⟨g', 0, none⟩) (rj.length + 1) c') (List.getElem?_set_self (List.getElem?_eq_some_iff.1 HU.out).1) (World.grownBy.refl w3 _) hP3 (.inl rfl)
    rw [List.set_set, List.set_set, List.length_set] at hset4
    obtain ⟨w4, hw4⟩ : ∃ w4, w4 = w3.setCell ⟨g, j, none⟩ (.slice (some ⟨g', 0, none⟩) N N) := ⟨_, rfl⟩
    rw [← hw4] at hset4
    have hsz4 : w4.heap.size = w3.heap.size := by rw [hw4]; simp
    have hs3 := hb3.size
    have hblk4 : ∀ i, i ≠ g → w4.heap[i]? = w3.heap[i]? := fun i hi => by rw [hw4]; exact Below.heap_setCell w3 ⟨g, j, none⟩ _ i hi
    obtain ⟨w5, hw5⟩ : ∃ w5, w5 = w4.alloc (.cells #[(.slice (some ⟨gv, 0, none⟩) nv cv)] 22) := ⟨_, rfl⟩
    have hB5 : Below w4.heap.size w4 w5 := by rw [hw5]; exact below_alloc (Below.refl _ _) _
    have hset5 := hset4.below hB5
    have hv5 : OwnS w5 base 3 (.slice (some ⟨gv, 0, none⟩) nv cv) (ints (row'.drop N)) := by
      obtain ⟨g5, c5, cur5, e5, b5, B5, r5⟩ := hv3
      have hg5 := blk_lt B5
      refine ⟨g5, c5, cur5, e5, by omega, ?_, r5⟩
      exact ((hB5.block g5 (by omega)).trans (hblk4 g5 (by omega))).trans B5
    have hb45 : Below base w w5 := by
      refine Below.trans (HB2.out.trans (hb3.mono (by omega))) ?_
      refine Below.trans (b := w4) ?_ (hB5.mono (by omega))
      rw [hw4]
      exact Below.setCell (Below.refl _ _) (by simpa using hbg) _
    have hD5 : w5.heap[D]? = some (.deferred (some [])) := by
      have hDs2 : D < W2.heap.size := (Array.getElem?_eq_some_iff.1 HD2.out).1
      rw [hB5.block D (by omega), hblk4 D HDG.out.2, hb3.block D hDs2]
      exact HD2.out
    have hvsl : vs.length = l.length := by have := HS2.out.rows.len; simpa using this
    have hins : ∃ vs', Aside0 (OwnS w5 base 22 (.slice (some ⟨g, 0, none⟩) l.length c) vs' ∧ vs'.length = l.length ∧ vs' = vs.set j (.slice (some ⟨g', 0, none⟩) N N)) := ⟨_, ⟨hset5.outer, by simpa using hvsl, rfl⟩⟩
    obtain ⟨vs', hvs'⟩ := hins
    have hins : insF b l j row' = (l.set j (row'.take N)).take (j + 1) ++ row'.drop N :: (l.set j (row'.take N)).drop (j + 1) := by
      unfold insF
      rw [if_neg (by rw [HRL.out]; omega), ← HN.out, set_take _ _ _ hjl, set_drop]
      simp
    have hcon : Aside0 (Calls Try.prog 62 #[.slice (some ⟨g, 0, none⟩) l.length c, .int .i64 ((j : Int) + 1), .slice (some ⟨w3.heap.size, 0, none⟩) 1 1] w5 fun e w6 => ∃ v', e = .returned v' ∧ Aside0 (∃ vs6, Own2 w6 base v' vs6 (insF b l j row') ∧ Below base w w6 ∧ w6.heap[D]? = some (.deferred (some [])))) := ⟨by
      obtain ⟨ho5, hl5, he5⟩ := hvs'.out
      rw [← hsz4]
      have := ins62 ho5 (j + 1) w4.heap.size (by omega) (.slice (some ⟨gv, 0, none⟩) nv cv) (by omega) (by rw [hw5]; exact heap_alloc_new w4 _) (by simp only [Value.ownBlock]; intro e; injection e; omega) rfl (by have := hB5.size; omega)
      refine this.mono ?_
      rintro e w6 ⟨v', rfl, ho6, hg6, _⟩
      have hne5 : ∀ u ∈ vs.set j (.slice (some ⟨g', 0, none⟩) N N), u.ownBlock ≠ (Value.slice (some ⟨gv, 0, none⟩) nv cv).ownBlock := by
        intro u hu5
        rw [ebv]
        intro heq
        obtain ⟨i5, hi5, rfl⟩ := List.getElem_of_mem hu5
        rw [List.length_set] at hi5
        rw [List.getElem_set] at heq
        split at heq
        · have := HV2.out.info.2.2.2.2
          injection heq with heq
          replace heq : g' = gv := heq
          omega
        · rename_i hij
          have := (HS2.out.lt vs[i5] (by
            have h6 : (vs.set j (Value.slice (some ⟨g', 0, none⟩) (rj.length + 1) c'))[i5]? = some vs[i5] := by
              rw [List.getElem?_set_ne hij, List.getElem?_eq_getElem hi5]
            exact List.mem_of_getElem? h6) gv heq).1
          omega
      have h61 := hset5.insertRow (j + 1) hg6 (by rw [← he5]; exact ho6) hv5 hne5
      rw [← hins] at h61
      refine ⟨v', rfl, ⟨⟨_, h61, ?_, ?_⟩⟩⟩
      · exact hb45.grown hg6 (by have := hB5.size; omega) (by intro k hk; injection hk with hk; replace hk : g = k := hk; omega)
      · rw [hg6.block D (by have := (Array.getElem?_eq_some_iff.1 hD5).1; exact this) (by intro e; injection e with e; exact HDG.out.2 e)]
        exact hD5⟩
    have hwj : IntKind.i64.wrap ((j : Int) + 1) = (j : Int) + 1 := wrap_small _ (by omega) (by omega)
    have hc94 : w4.cell? ⟨B9, 0, none⟩ = some (.int .i64 j) := by
      rw [hw4, World.cell?_setCell_far _ _ _ _ (show g ≠ B9 by omega)]
      exact pw_cell_below hb3 c92
    have hfz3 : w3.frozen? ⟨g, j, none⟩ = false := by
      obtain ⟨_, _, e5, _, _, _, _, hB5⟩ := own_addr hown3.outer
      injection e5 with e5
      injection e5 with e5
      injection e5 with e5
      subst e5
      exact blk_free hB5 _
    subst hw5
    have HSZ := Aside0.mk hsz4
    subst hw4
    clear hset4 hset5 hown3 hP3 hv3 hv5 hb45 hD5 hB5 hblk4 hdl hoi3 hb3 F3 hsz4 ebv hgv3
    go_wp2_with (go_at_call 62; refine hcon.out.mono ?_; rintro e w6 ⟨v', rfl, F6⟩)
    obtain ⟨vs6, h61, h62, h63⟩ := F6.out
    rw [← hQ0]
    refine ⟨by simp, .inl ⟨_, _, rfl, run_takeDeferred h63, ?_⟩⟩
    refine ⟨v', by simp [results, Try.f41, go_sem], ?_⟩
    refine HR.out _ _ row' _ ⟨rj, HLJ.out, HRW.out⟩ (h61.ended h63 rfl) (h62.trans (belowK_b hbase _ D _ _ hDw h63 rfl rfl))
end Go.Proofs.Ytjpobhdgfdeenaa.A

/- insert of package array: a key put at an index of blocks that the call owns. -/
set_option linter.unusedVariables false
set_option linter.unusedSimpArgs false
namespace Go.Proofs.Ytjpobhdgfdeenaa.A
open Go.RowKit Go.Shelf Go.Proofs.YtjpobhdgfdeenaaW.PrintWords Go.Maps
attribute [local go_sem] Oper.semAt_some


/-- The loop of insert. -/
noncomputable def loop41 : Code := match seqAt 3 (Try.f41.body.getD .skip) with
  | .seq (.seq _ (.block _ c)) _ => c
  | c => c
theorem insert_loop (b m k : Int) (g c : Nat) (l : List (List Int)) (w W1 : World) (A0 : Option Addr) (row : List Int) (c0 B9 B10 B11 : Nat)
    (HR : Aside0 (Kd.C (Kd.slice 3 (Kd.int .i64)) w (some ⟨g, 0, none⟩) l.length l)) (HS : Aside0 (l.flatten.length ≤ 1000000)) (HNE : Aside0 (l ≠ [])) (hm : 0 ≤ m ∧ m ≤ l.flatten.length) (hlpos : 0 < l.length)
    (HD0 : Aside0 (l.drop (l.length - 1) = row :: l.drop (l.length - 1 + 1))) (hlm : l.length ≤ 9223372036854775807)
    (f9 : Boxed W1 B9 3 (.int .i64 ((l.length : Int) - 1))) (f10 : Boxed W1 B10 3 (.int .i64 row.length)) (f11 : Boxed W1 B11 24 (.slice (some ⟨g, 0, none⟩) l.length c)) (f6 : Boxed W1 w.heap.size 3 (.int .i64 m))
    (hB1 : Below w.heap.size w W1) (hz1 : W1.heap.size = w.heap.size + 4) (hz2 : w.heap.size < B9 ∧ B9 < w.heap.size + 4) (hz3 : w.heap.size < B10 ∧ B10 < w.heap.size + 4) (hz4 : B11 < w.heap.size + 4) (hz5 : w.heap.size < B11) (hne : B9 ≠ B10)
    (K : Act → World → Prop) (Q : Exit → Act → World → Prop)
    (hgo : ∀ (j q D : Nat) (W : World), At l m j q → Boxed W B9 3 (.int .i64 j) → Boxed W B10 3 (.int .i64 q) → W.heap[D]? = some (.deferred (some [])) → w.heap.size ≤ D → Below w.heap.size w W →
      K { tmps := #[.int .i64 b, .slice (some ⟨g, 0, none⟩) l.length c, .int .i64 m, .int .i64 k, undef, undef, .pointer (some ⟨w.heap.size, 0, none⟩), undef, .slice none 0 0, .pointer (some ⟨B9, 0, none⟩), .pointer (some ⟨B10, 0, none⟩), undef, undef, undef, undef, .slice (some ⟨g, 0, none⟩) l.length c, .int .i64 l.length, .bool false, undef, undef, undef, .slice (some ⟨g, 0, none⟩) l.length c, .int .i64 l.length, .int .i64 ((l.length : Int) - 1), .slice (some ⟨g, 0, none⟩) l.length c, .slice (some ⟨g, 0, none⟩) l.length c, .int .i64 l.length, .int .i64 ((l.length : Int) - 1), .pointer (some ⟨g, l.length - 1, none⟩), .slice A0 row.length c0, .int .i64 row.length, .slice (some ⟨g, 0, none⟩) l.length c, .func (.func 65) #[] #[.pointer (some ⟨B11, 0, none⟩)], undef, undef, undef, undef, undef, undef, undef, undef, undef, undef, undef, undef, undef, undef, undef, undef, undef, undef, undef, undef, undef, undef, undef, undef, undef, undef, undef, undef, undef, undef, undef, undef, undef, undef, undef, undef, undef, undef, undef, undef, undef, undef, undef, undef, undef, undef, undef, undef, undef, undef, undef, undef, undef, undef, undef], defers := { target := .collected D, args := #[] } :: [] } W) :
    loop41.wp Try.prog (Exit.inBlock 0 (Exit.then K Q)) { tmps := #[.int .i64 b, .slice (some ⟨g, 0, none⟩) l.length c, .int .i64 m, .int .i64 k, undef, undef, .pointer (some ⟨w.heap.size, 0, none⟩), undef, .slice none 0 0, .pointer (some ⟨B9, 0, none⟩), .pointer (some ⟨B10, 0, none⟩), undef, undef, undef, undef, .slice (some ⟨g, 0, none⟩) l.length c, .int .i64 l.length, .bool false, undef, undef, undef, .slice (some ⟨g, 0, none⟩) l.length c, .int .i64 l.length, .int .i64 ((l.length : Int) - 1), .slice (some ⟨g, 0, none⟩) l.length c, .slice (some ⟨g, 0, none⟩) l.length c, .int .i64 l.length, .int .i64 ((l.length : Int) - 1), .pointer (some ⟨g, l.length - 1, none⟩), .slice A0 row.length c0, .int .i64 row.length, .slice (some ⟨g, 0, none⟩) l.length c, .func (.func 65) #[] #[.pointer (some ⟨B11, 0, none⟩)], undef, undef, undef, undef, undef, undef, undef, undef, undef, undef, undef, undef, undef, undef, undef, undef, undef, undef, undef, undef, undef, undef, undef, undef, undef, undef, undef, undef, undef, undef, undef, undef, undef, undef, undef, undef, undef, undef, undef, undef, undef, undef, undef, undef, undef, undef, undef, undef, undef, undef, undef, undef, undef, undef, undef], defers := [] } W1 := by
  have HGO := Aside0.mk hgo
  clear hgo
  simp only [loop41, seqAt, Try.f41, Option.getD]
  have mixed : Try.prog.follows .mixedOrders = true := by kernel_rfl
  have hst := keys_stops Fence.wide 8 trivial rfl (by decide) B11 (some ⟨g, 0, none⟩) c l w W1 HR.out HS.out hB1 (by omega) f11.cell
  refine (wpIn_wide (n := 9)).1 ?_
  refine wpIn_rangeFunc_ownH (F := Fence.wide) (n := 9) rfl (by decide) (gf := 65) (lb := #[.pointer (some ⟨B11, 0, none⟩)]) rfl trivial (enters_of Try.func65 (by kernel_rfl) rfl)
    hst belowK_t (belowK_b (by omega)) (Below.refl _ _) (fun _ => rfl)
    (fun pre W => ((Boxed W w.heap.size 3 (.int .i64 m) ∧ Boxed W B9 3 (.int .i64 ((l.length : Int) - 1))) ∧ Boxed W B10 3 (.int .i64 row.length)) ∧ Aside0 (∀ q ∈ pre, q.1 ≠ m) ∧ Below w.heap.size w W)
    (fun c pre W => c = .exit 0 ∧ (∃ p pre0, (Boxed W B9 3 (.int .i64 p.2.1) ∧ Boxed W B10 3 (.int .i64 p.2.2.1)) ∧ Aside0 (pre = pre0 ++ [p] ∧ p.1 = m)) ∧ Below w.heap.size w W)
    (OwnFrom.and (OwnFrom.and (OwnFrom.and (Own.from (boxed_own _ _ (fun _ => _)) _) (Own.from (boxed_own _ _ (fun _ => _)) _)) (Own.from (boxed_own _ _ (fun _ => _)) _)) (OwnFrom.and (fun _ _ _ _ hs _ _ => hs) (ownFrom_below (Nat.le_refl _) (by omega))))
    (fun c => OwnFrom.and (fun _ _ _ _ hs _ _ => hs) (OwnFrom.and (fun s X Y row hs hg hr => by
      obtain ⟨p, pre0, ⟨h1, h2⟩, h3⟩ := hs
      exact ⟨p, pre0, ⟨boxed_own _ 3 (fun (_ : Unit) => _) () X Y row h1 hg (fun r e => (hr r e).2), boxed_own _ 3 (fun (_ : Unit) => _) () X Y row h2 hg (fun r e => (hr r e).2)⟩, h3⟩) (ownFrom_below (Nat.le_refl _) (by omega))))
    ⟨⟨⟨f6, f9⟩, f10⟩, ⟨by simp⟩, hB1⟩
    (fun x a' W => ∃ Bx, (B9 < Bx ∧ B10 < Bx) ∧ PBox W Bx x ∧ a' = { tmps := #[.int .i64 b, .slice (some ⟨g, 0, none⟩) l.length c, .int .i64 m, .int .i64 k, undef, undef, .pointer (some ⟨w.heap.size, 0, none⟩), undef, .slice none 0 0, .pointer (some ⟨B9, 0, none⟩), .pointer (some ⟨B10, 0, none⟩), .pointer (some ⟨Bx, 0, none⟩), undef, undef, undef, .slice (some ⟨g, 0, none⟩) l.length c, .int .i64 l.length, .bool false, undef, undef, undef, .slice (some ⟨g, 0, none⟩) l.length c, .int .i64 l.length, .int .i64 ((l.length : Int) - 1), .slice (some ⟨g, 0, none⟩) l.length c, .slice (some ⟨g, 0, none⟩) l.length c, .int .i64 l.length, .int .i64 ((l.length : Int) - 1), .pointer (some ⟨g, l.length - 1, none⟩), .slice A0 row.length c0, .int .i64 row.length, .slice (some ⟨g, 0, none⟩) l.length c, .func (.func 65) #[] #[.pointer (some ⟨B11, 0, none⟩)], encP x, undef, undef, undef, undef, undef, undef, undef, undef, undef, undef, undef, undef, undef, undef, undef, undef, undef, undef, undef, undef, undef, undef, undef, undef, undef, undef, undef, undef, undef, undef, undef, undef, undef, undef, undef, undef, undef, undef, undef, undef, undef, undef, undef, undef, undef, undef, undef, undef, undef, undef, undef, undef, undef, undef], defers := [] })
    (fun x a' _ X Y row hs hg hr => by
      obtain ⟨Bx, h1, h2, h3⟩ := hs
      exact ⟨Bx, h1, pbox_own Bx x () X Y row h2 hg (fun r e => (hr r e).2), h3⟩)
    ?assign ?body ?done ?stop
  case assign =>
    rintro lp pre x W K ⟨⟨⟨c5, c6⟩, c7⟩, hx, hB⟩ hK
    have hsW := hB.size
    gi_wp2
    exact hK _ _ ((KeepsOthers.alloc _ _).from _) ((Below.refl _ W).alloc hB.size _) ⟨⟨⟨c5.alloc _, c6.alloc _⟩, c7.alloc _⟩, hx, hB.alloc hB.size _⟩ ⟨W.heap.size, ⟨c6.lt, c7.lt⟩, World.alloc_heap_new W _, rfl⟩
  case body =>
    rintro lp pre x a' W hl _ ⟨⟨⟨c5, c6⟩, c7⟩, hx, hB⟩ ⟨Bx, hBx, bX, rfl⟩ hlt
    have d5 := c5.cell
    have d6 := c6.cell
    have e6 := c6.frozen
    have d7 := c7.cell
    have e7 := c7.frozen
    obtain ⟨q0, q1, q2, q3⟩ := bX.cell
    by_cases hkx : x.1 = m
    · have hd : (x.1 == m) = true := by simpa using hkx
      have HKX := Aside0.mk hkx
      clear hkx
      have n1 : Bx ≠ B9 := by omega
      have n2 : Bx ≠ B10 := by omega
      have n3 : B9 ≠ Bx := by omega
      have n4 : B10 ≠ Bx := by omega
      have n5 : B9 ≠ B10 := by omega
      have n6 : B10 ≠ B9 := by omega
      gi_wp2
      gi_region_with_o (fail)
      all_goals gi_wp2
      all_goals exact ⟨(((KeepsOthers.setCell _ _ _).trans (KeepsOthers.setCell _ _ _)).trans (KeepsOthers.drew _)).from _, rfl, ⟨x, pre, ⟨(c6.set _).other n5 _, (c7.other n6 _).set _⟩, ⟨rfl, HKX.out⟩⟩, below_drew ((hB.setCell (p := ⟨B9, 0, none⟩) (by show w.heap.size ≤ B9; omega) _).setCell (p := ⟨B10, 0, none⟩) (by show w.heap.size ≤ B10; omega) _)⟩
    · have hd : (x.1 == m) = false := by simpa using hkx
      have HKX := Aside0.mk hkx
      clear hkx
      gi_wp2
      have hall : ∀ q ∈ pre ++ [x], q.1 ≠ m := fun q hq => by
        rcases List.mem_append.1 hq with hq | hq
        · exact hx.out q hq
        · rw [List.mem_singleton.1 hq]
          exact HKX.out
      exact ⟨KeepsFrom.refl _ _, Below.refl _ _, ⟨⟨⟨c5, c6⟩, c7⟩, ⟨fun a a1 a2 a3 hq => hall (a, a1, a2, a3) hq⟩, hB⟩⟩
  case done =>
    rintro D ys W hD rfl ⟨⟨⟨c5, c6⟩, c7⟩, hx, hB⟩ hK
    have hat : ∃ j q : Nat, At l m j q ∧ Boxed W B9 3 (.int .i64 j) ∧ Boxed W B10 3 (.int .i64 q) := by
      obtain ⟨row', hr', ha⟩ := At_end HNE.out
      have hme : m = l.flatten.length := by
        by_cases e : m < 0 + l.flatten.length
        · obtain ⟨p, hp, he⟩ := posAll_all l 0 0 m hm.1 e
          exact absurd he (hx.out p hp)
        · omega
      have hrr : row' = row := by
        have h1 := List.getElem?_eq_getElem (show l.length - 1 < l.length by omega)
        have h2 := HD0.out
        rw [List.drop_eq_getElem_cons (show l.length - 1 < l.length by omega)] at h2
        injection h2 with h2 _
        rw [h1, h2] at hr'
        injection hr' with hr'
        exact hr'.symm
      subst hrr
      refine ⟨l.length - 1, row'.length, by rw [hme]; exact ha, ?_, c7⟩
      rw [show (((l.length - 1 : Nat) : Int)) = (l.length : Int) - 1 by omega]
      exact c6
    clear c6 c7 hx
    obtain ⟨j, q, ha, c6, c7⟩ := hat
    go_wp2
    exact HGO.out j q D W ha c6 c7 hK (by omega) hB
  case stop =>
    rintro D c pre W hD hpre ⟨rfl, ⟨p, pre0, ⟨c6, c7⟩, h3⟩, hB⟩ hK
    have hat : ∃ j q : Nat, At l m j q ∧ Boxed W B9 3 (.int .i64 j) ∧ Boxed W B10 3 (.int .i64 q) := by
      obtain ⟨h4, h5⟩ := h3.out
      subst h4
      obtain ⟨j, q, ha, hj, hq, _⟩ := At_of_pos (hpre.subset (List.mem_append.2 (.inr (List.mem_singleton.2 rfl))))
      rw [h5] at ha
      rw [hj] at c6
      rw [hq] at c7
      exact ⟨j, q, ha, c6, c7⟩
    clear c6 c7 h3 hpre
    obtain ⟨j, q, ha, c6, c7⟩ := hat
    refine wpIn_wide.2 ?_
    go_wp2
    exact HGO.out j q D W ha c6 c7 hK (by omega) hB
end Go.Proofs.Ytjpobhdgfdeenaa.A

/- insert of package array: a key put at an index of blocks that the call owns. -/
set_option linter.unusedVariables false
set_option linter.unusedSimpArgs false
namespace Go.Proofs.Ytjpobhdgfdeenaa.A
open Go.RowKit Go.Shelf Go.Proofs.YtjpobhdgfdeenaaW.PrintWords Go.Maps
attribute [local go_sem] Oper.semAt_some

/-- The place of an index for a key that is put there; the key put there. -/
def putF (b : Int) (l : List (List Int)) (m k : Int) : List (List Int) :=
  if l = [] then [[k]] else insF b l (spotF l m).1.toNat ((l.getD (spotF l m).1.toNat []).take (m - (spotF l m).2).toNat ++ k :: (l.getD (spotF l m).1.toNat []).drop (m - (spotF l m).2).toNat)
theorem putF_at {b m k : Int} {l : List (List Int)} {j q : Nat} {rj : List Int} (h : At l m j q) (hj : l[j]? = some rj) : putF b l m k = insF b l j (rj.take q ++ k :: rj.drop q) := by
  have h1 := spotF_at h
  obtain ⟨row, h0, h2, _⟩ := h
  have hne : l ≠ [] := by rintro rfl; simp at hj
  unfold putF
  rw [if_neg hne, h1]
  have e1 : ((j : Int), (((l.take j).flatten.length : Nat) : Int)).1.toNat = j := by simp
  have e2 : (m - ((j : Int), (((l.take j).flatten.length : Nat) : Int)).2).toNat = q := by simp only [h2]; omega
  rw [e1, e2]
  have e3 : l.getD j [] = rj := by simp [List.getD_eq_getElem?_getD, hj]
  rw [e3]
set_option maxRecDepth 100000 in
set_option maxHeartbeats 2000000 in
theorem insert_in (b m k : Int) (base : Nat) (v : Value) (vs : List Value) (l : List (List Int)) (w : World) (hown : Own2 w base v vs l) (hb : 2 ≤ b ∧ b ≤ 50) (hs : l.flatten.length ≤ 1000000) (hll : l.length ≤ 1000000) (hne : l ≠ []) (hm : 0 ≤ m ∧ m ≤ l.flatten.length) (hbase : base ≤ w.heap.size) :
    Calls Try.prog 41 #[.int .i64 b, v, .int .i64 m, .int .i64 k] w fun e w' => ∃ v' vs', e = .returned v' ∧ Own2 w' base v' vs' (putF b l m k) ∧ Below base w w' := by
  obtain ⟨g, c, hv, hvl, hlc, hread⟩ := hown.reads
  subst hv
  have HO := Aside0.mk hown
  have HHL := Aside0.mk hll
  have HHB := Aside0.mk hb
  have HR := Aside0.mk hread
  have HS := Aside0.mk hs
  have HNE := Aside0.mk hne
  have hlpos : 0 < l.length := List.length_pos_iff.2 hne
  have hlm := (C_len hread).2
  obtain ⟨ad, A0, c0, row, hA, hdrop, hcell, hrl, hrow⟩ := C_row hread (l.length - 1) (by omega)
  injection hA with hA
  subst hA
  rw [Addr.add_lit, Nat.zero_add] at hcell
  have hn1 : ((l.length : Int) - 1).toNat = l.length - 1 := by omega
  have hn2 : (0 : Int) ≤ (l.length : Int) - 1 := by omega
  have hn3 : (l.length : Int) - 1 < (l.length : Int) := by omega
  have hn0 : ((l.length : Int) == 0) = false := by simpa using (show ¬ (l.length : Int) = 0 by omega)
  have HD0 := Aside0.mk hdrop
  clear hown hread hs hne hrow hdrop hll hb
  refine (callsIn_wide (n := 9)).1 ?_
  refine callsIn_of_wp_marks Try.func41 rfl trivial ?_ rfl
  simp only [Try.ntmps41, List.size_toArray, List.length_cons, List.length_nil, Nat.reduceAdd, Nat.reduceSub, Array.replicate_succ, Array.replicate_zero, List.push_toArray, List.append_toArray, List.nil_append, List.cons_append]
  refine wpIn_wide.2 ?_
  go_wp2
  have hca : ∀ o, (w.alloc o).cell? ⟨g, l.length - 1, none⟩ = some (.slice A0 row.length c0) := fun o => pw_cell_below (below_alloc (Below.refl _ _) o) hcell
  obtain ⟨W0, hW0⟩ : ∃ W0, w.alloc (.cells #[.int .i64 m] 3) = W0 := ⟨_, rfl⟩
  have hcw : W0.cell? ⟨g, l.length - 1, none⟩ = some (.slice A0 row.length c0) := by rw [← hW0]; exact hca _
  have hgW : g ≠ W0.heap.size := by
    have := World.block_lt_of_cell? W0 _ hcw
    have h2 : g < W0.heap.size := this
    omega
  rw [hW0]
  have HW0 := Aside0.mk hW0
  clear hW0 hca hcell
  have hnew := World.new_ne W0 _ hcw
  have h1l : (1 : Int) ≤ (l.length : Int) := by omega
  have h1n : 1 ≤ l.length := by omega
  have hwr : IntKind.i64.wrap ((l.length : Int) - 1) = (l.length : Int) - 1 := by rw [IntKind.wrap_i64]; omega
  go_region_held3 (fun w' => w'.cell? ⟨g, l.length - 1, none⟩ = some (.slice A0 row.length c0)) (go_keep) (fail)
  all_goals go_wp2_with (go_at_call 49; refine (callsIn_wide.1 (keys_in Fence.wide 9 trivial rfl _ _ _ _)).mono ?_; rintro e w' ⟨rfl, rfl⟩)
  all_goals have hB6 : Boxed W0 w.heap.size 3 (.int .i64 m) := by rw [← HW0.out]; exact Boxed.new w 3 _
  all_goals have hBW : Below w.heap.size w W0 := by rw [← HW0.out]; exact (Below.refl _ w).alloc (Nat.le_refl _) _
  all_goals have hzW : W0.heap.size = w.heap.size + 1 := by rw [← HW0.out]; simp
  · have f9 : Boxed (((W0.alloc (.cells #[.int .i64 ((l.length : Int) - 1)] 3)).alloc (.cells #[.int .i64 row.length] 3)).alloc (.cells #[.slice (some ⟨g, 0, none⟩) l.length c] 24)).drew W0.heap.size 3 (.int .i64 ((l.length : Int) - 1)) := ((Boxed.new W0 3 _).alloc _).alloc _
    have f10 : Boxed (((W0.alloc (.cells #[.int .i64 ((l.length : Int) - 1)] 3)).alloc (.cells #[.int .i64 row.length] 3)).alloc (.cells #[.slice (some ⟨g, 0, none⟩) l.length c] 24)).drew (W0.heap.size + 1) 3 (.int .i64 row.length) := by
      have := (Boxed.new (W0.alloc (.cells #[.int .i64 ((l.length : Int) - 1)] 3)) 3 (.int .i64 row.length)).alloc (.cells #[.slice (some ⟨g, 0, none⟩) l.length c] 24)
      rw [World.size_alloc] at this
      exact this
    have f11 : Boxed (((W0.alloc (.cells #[.int .i64 ((l.length : Int) - 1)] 3)).alloc (.cells #[.int .i64 row.length] 3)).alloc (.cells #[.slice (some ⟨g, 0, none⟩) l.length c] 24)).drew (W0.heap.size + 1 + 1) 24 (.slice (some ⟨g, 0, none⟩) l.length c) := by
      have := Boxed.new ((W0.alloc (.cells #[.int .i64 ((l.length : Int) - 1)] 3)).alloc (.cells #[.int .i64 row.length] 3)) 24 (.slice (some ⟨g, 0, none⟩) l.length c)
      rw [World.size_alloc, World.size_alloc] at this
      exact this
    have f6 : Boxed (((W0.alloc (.cells #[.int .i64 ((l.length : Int) - 1)] 3)).alloc (.cells #[.int .i64 row.length] 3)).alloc (.cells #[.slice (some ⟨g, 0, none⟩) l.length c] 24)).drew w.heap.size 3 (.int .i64 m) := ((hB6.alloc _).alloc _).alloc _
    have hB1 : Below w.heap.size w (((W0.alloc (.cells #[.int .i64 ((l.length : Int) - 1)] 3)).alloc (.cells #[.int .i64 row.length] 3)).alloc (.cells #[.slice (some ⟨g, 0, none⟩) l.length c] 24)).drew := below_drew (below_alloc (below_alloc (below_alloc hBW _) _) _)
    have hz1 : (((W0.alloc (.cells #[.int .i64 ((l.length : Int) - 1)] 3)).alloc (.cells #[.int .i64 row.length] 3)).alloc (.cells #[.slice (some ⟨g, 0, none⟩) l.length c] 24)).drew.heap.size = w.heap.size + 4 := by
      show (((W0.alloc (.cells #[.int .i64 ((l.length : Int) - 1)] 3)).alloc (.cells #[.int .i64 row.length] 3)).alloc (.cells #[.slice (some ⟨g, 0, none⟩) l.length c] 24)).heap.size = _
      rw [World.size_alloc, World.size_alloc, World.size_alloc, hzW]
    generalize (((W0.alloc (.cells #[.int .i64 ((l.length : Int) - 1)] 3)).alloc (.cells #[.int .i64 row.length] 3)).alloc (.cells #[.slice (some ⟨g, 0, none⟩) l.length c] 24)).drew = W1 at f9 f10 f11 f6 hB1 hz1 ⊢
    have hz2 : w.heap.size < W0.heap.size ∧ W0.heap.size < w.heap.size + 4 := by omega
    have hz3 : w.heap.size < W0.heap.size + 1 ∧ W0.heap.size + 1 < w.heap.size + 4 := by omega
    have hz4 : W0.heap.size + 1 + 1 < w.heap.size + 4 := by omega
    have hz5 : w.heap.size < W0.heap.size + 1 + 1 := by omega
    have hne : W0.heap.size ≠ W0.heap.size + 1 := by omega
    generalize hB11 : W0.heap.size + 1 + 1 = B11 at f11 hz4 hz5 ⊢
    generalize hB10 : W0.heap.size + 1 = B10 at f10 hz3 hne ⊢
    generalize hB9 : W0.heap.size = B9 at f9 hz2 hne ⊢
    clear hB9 hB10 hB11
    have mixed : Try.prog.follows .mixedOrders = true := by kernel_rfl
    have hst := keys_stops Fence.wide 8 trivial rfl (by decide) B11 (some ⟨g, 0, none⟩) c l w W1 HR.out HS.out hB1 (by omega) f11.cell
    rename_i KK hKK
    refine insert_loop b m k g c l w W1 A0 row c0 B9 B10 B11 HR HS HNE hm hlpos HD0 hlm f9 f10 f11 f6 hB1 hz1 hz2 hz3 hz4 hz5 hne _ _ ?_
    intro j q D W hat h9 h10 hD hDw hBw
    refine hKK _ _ (insert_rest b m k base g c vs l w W A0 row c0 B9 B10 B11 D j q HO.out HHB.out HS.out HHL.out hbase hBw h9 h10 (by omega) (by omega) hD hDw hat _ ?_)
    rintro v' vs' row' W' ⟨rj, hrj, rfl⟩ ho hb'
    exact ⟨v', vs', rfl, by rw [putF_at hat hrj]; exact ho, hb'⟩
  · have f10 : Boxed (((W0.alloc (.cells #[.int .i64 row.length] 3)).alloc (.cells #[.int .i64 ((l.length : Int) - 1)] 3)).alloc (.cells #[.slice (some ⟨g, 0, none⟩) l.length c] 24)).drew W0.heap.size 3 (.int .i64 row.length) := ((Boxed.new W0 3 _).alloc _).alloc _
    have f9 : Boxed (((W0.alloc (.cells #[.int .i64 row.length] 3)).alloc (.cells #[.int .i64 ((l.length : Int) - 1)] 3)).alloc (.cells #[.slice (some ⟨g, 0, none⟩) l.length c] 24)).drew (W0.heap.size + 1) 3 (.int .i64 ((l.length : Int) - 1)) := by
      have := (Boxed.new (W0.alloc (.cells #[.int .i64 row.length] 3)) 3 (.int .i64 ((l.length : Int) - 1))).alloc (.cells #[.slice (some ⟨g, 0, none⟩) l.length c] 24)
      rw [World.size_alloc] at this
      exact this
    have f11 : Boxed (((W0.alloc (.cells #[.int .i64 row.length] 3)).alloc (.cells #[.int .i64 ((l.length : Int) - 1)] 3)).alloc (.cells #[.slice (some ⟨g, 0, none⟩) l.length c] 24)).drew (W0.heap.size + 1 + 1) 24 (.slice (some ⟨g, 0, none⟩) l.length c) := by
      have := Boxed.new ((W0.alloc (.cells #[.int .i64 row.length] 3)).alloc (.cells #[.int .i64 ((l.length : Int) - 1)] 3)) 24 (.slice (some ⟨g, 0, none⟩) l.length c)
      rw [World.size_alloc, World.size_alloc] at this
      exact this
    have f6 : Boxed (((W0.alloc (.cells #[.int .i64 row.length] 3)).alloc (.cells #[.int .i64 ((l.length : Int) - 1)] 3)).alloc (.cells #[.slice (some ⟨g, 0, none⟩) l.length c] 24)).drew w.heap.size 3 (.int .i64 m) := ((hB6.alloc _).alloc _).alloc _
    have hB1 : Below w.heap.size w (((W0.alloc (.cells #[.int .i64 row.length] 3)).alloc (.cells #[.int .i64 ((l.length : Int) - 1)] 3)).alloc (.cells #[.slice (some ⟨g, 0, none⟩) l.length c] 24)).drew := below_drew (below_alloc (below_alloc (below_alloc hBW _) _) _)
    have hz1 : (((W0.alloc (.cells #[.int .i64 row.length] 3)).alloc (.cells #[.int .i64 ((l.length : Int) - 1)] 3)).alloc (.cells #[.slice (some ⟨g, 0, none⟩) l.length c] 24)).drew.heap.size = w.heap.size + 4 := by
      show (((W0.alloc (.cells #[.int .i64 row.length] 3)).alloc (.cells #[.int .i64 ((l.length : Int) - 1)] 3)).alloc (.cells #[.slice (some ⟨g, 0, none⟩) l.length c] 24)).heap.size = _
      rw [World.size_alloc, World.size_alloc, World.size_alloc, hzW]
    generalize (((W0.alloc (.cells #[.int .i64 row.length] 3)).alloc (.cells #[.int .i64 ((l.length : Int) - 1)] 3)).alloc (.cells #[.slice (some ⟨g, 0, none⟩) l.length c] 24)).drew = W1 at f10 f9 f11 f6 hB1 hz1 ⊢
    have hz3 : w.heap.size < W0.heap.size ∧ W0.heap.size < w.heap.size + 4 := by omega
    have hz2 : w.heap.size < W0.heap.size + 1 ∧ W0.heap.size + 1 < w.heap.size + 4 := by omega
    have hz4 : W0.heap.size + 1 + 1 < w.heap.size + 4 := by omega
    have hz5 : w.heap.size < W0.heap.size + 1 + 1 := by omega
    have hne : W0.heap.size ≠ W0.heap.size + 1 := by omega
    generalize hB11 : W0.heap.size + 1 + 1 = B11 at f11 hz4 hz5 ⊢
    generalize hB9 : W0.heap.size + 1 = B9 at f9 hz2 hne ⊢
    generalize hB10 : W0.heap.size = B10 at f10 hz3 hne ⊢
    clear hB10 hB9 hB11
    have mixed : Try.prog.follows .mixedOrders = true := by kernel_rfl
    have hst := keys_stops Fence.wide 8 trivial rfl (by decide) B11 (some ⟨g, 0, none⟩) c l w W1 HR.out HS.out hB1 (by omega) f11.cell
    rename_i KK hKK
    refine insert_loop b m k g c l w W1 A0 row c0 B9 B10 B11 HR HS HNE hm hlpos HD0 hlm f9 f10 f11 f6 hB1 hz1 hz2 hz3 hz4 hz5 hne.symm _ _ ?_
    intro j q D W hat h9 h10 hD hDw hBw
    refine hKK _ _ (insert_rest b m k base g c vs l w W A0 row c0 B9 B10 B11 D j q HO.out HHB.out HS.out HHL.out hbase hBw h9 h10 (by omega) (by omega) hD hDw hat _ ?_)
    rintro v' vs' row' W' ⟨rj, hrj, rfl⟩ ho hb'
    exact ⟨v', vs', rfl, by rw [putF_at hat hrj]; exact ho, hb'⟩

/-- Blocks of the call's own, or none. -/
def OwnA (w : World) (base : Nat) (v : Value) (l : List (List Int)) : Prop := (l = [] ∧ ∃ A c, v = .slice A 0 c) ∨ (l ≠ [] ∧ ∃ vs, Own2 w base v vs l)
set_option maxRecDepth 100000 in
set_option maxHeartbeats 2000000 in
theorem insert_nil (b m k : Int) (base : Nat) (A : Option Addr) (c : Nat) (w : World) (hbase : base ≤ w.heap.size) :
    Calls Try.prog 41 #[.int .i64 b, .slice A 0 c, .int .i64 m, .int .i64 k] w fun e w' => ∃ v' vs', e = .returned v' ∧ Own2 w' base v' vs' [[k]] ∧ Below base w w' := by
  refine (callsIn_wide (n := 9)).1 ?_
  refine callsIn_of_wp_marks Try.func41 rfl trivial ?_ rfl
  simp only [Try.ntmps41, List.size_toArray, List.length_cons, List.length_nil, Nat.reduceAdd, Nat.reduceSub, Array.replicate_succ, Array.replicate_zero, List.push_toArray, List.append_toArray, List.nil_append, List.cons_append]
  refine wpIn_wide.2 ?_
  go_wp2
  refine ⟨.slice (some ⟨w.heap.size + 1 + 1, 0, none⟩) 1 1, by simp [results, Try.f41, go_sem], .slice (some ⟨w.heap.size + 1 + 1, 0, none⟩) 1 1, [.slice (some ⟨w.heap.size + 1, 0, none⟩) 1 1], rfl, ?_, (below_alloc (below_alloc (below_alloc (Below.refl _ _) _) _) _).mono hbase⟩
  refine ⟨⟨w.heap.size + 1 + 1, 1, [.slice (some ⟨w.heap.size + 1, 0, none⟩) 1 1], rfl, by omega, ?_, by simp, by simp, by simp, rfl, by omega, by simp [Value.oneCell']⟩, ⟨?_, trivial⟩, by simp⟩
  · have := heap_alloc_new ((w.alloc (.cells #[.int .i64 m] 3)).alloc (.cells #[.int .i64 k] 3)) (.cells #[.slice (some ⟨w.heap.size + 1, 0, none⟩) 1 1] 22)
    simpa [Blk] using this
  · refine ⟨w.heap.size + 1, 1, [.int .i64 k], rfl, by omega, ?_, by simp [ints], by simp, by simp, rfl, by omega, by simp [ints, Value.oneCell']⟩
    have h1 := heap_alloc_new (w.alloc (.cells #[.int .i64 m] 3)) (.cells #[.int .i64 k] 3)
    show (World.alloc _ _).heap[w.heap.size + 1]? = _
    rw [Below.heap_alloc _ _ _ (by simp)]
    simpa [Blk] using h1
theorem insert_calls (b m k : Int) (base : Nat) (v : Value) (l : List (List Int)) (w : World) (hown : OwnA w base v l) (hb : 2 ≤ b ∧ b ≤ 50) (hs : l.flatten.length ≤ 1000000) (hll : l.length ≤ 1000000) (hm : 0 ≤ m ∧ m ≤ l.flatten.length) (hbase : base ≤ w.heap.size) :
    Calls Try.prog 41 #[.int .i64 b, v, .int .i64 m, .int .i64 k] w fun e w' => ∃ v' vs', e = .returned v' ∧ Own2 w' base v' vs' (putF b l m k) ∧ Below base w w' := by
  rcases hown with ⟨rfl, A, c, rfl⟩ | ⟨hne, vs, ho⟩
  · exact insert_nil b m k base A c w hbase
  · exact insert_in b m k base v vs l w ho hb hs hll hne hm hbase
end Go.Proofs.Ytjpobhdgfdeenaa.A
