/- How a value is written: written of package item. -/
import Derived.Test.YtibgjfeifpanhaaDoorProg
import Derived.Below
import Derived.Deep.Draws
import Derived.Deep.AppendLies
import Derived.Maps.AppendAt
import Derived.Maps.OwnSet
import Derived.OwnWalk
import Derived.Laws.BytesArg
import Derived.Laws.MakeOwn
import Derived.Laws.OwnMore
import Derived.Deep.OwnRows
import Derived.Tactics
import Derived.Laws.Slices
import Derived.WalkKit
import Derived.KernelRfl
import Derived.RowKit3
import Derived.Deep.LoopGhost
import Derived.Deep.QuietTactic
import Derived.BigQuiet
import Derived.WideLaws
import Derived.Deep.DeepCutAuto
import Derived.Deep.CutBlock
import Derived.Deep.RegionHeld3
import Derived.Laws.Rows
import Derived.ArgAppend
import Derived.Laws.IdiomCopy
import Derived.OrdersHeld
import Derived.Laws.BitsLemmas
import Derived.Outline
import Derived.WalkSpells
import Derived.Lib.Hide
import Derived.RowKit
import Derived.Deep.DeepMust
import Derived.Laws.EntriesVeiled
import Derived.Test.YtibgjfeifpanhaaDoorE1
import Derived.Test.YtibgjfeifpanhaaDoorShelf
import Derived.Lib.SmallJoins
import Derived.Lib.AppendIntMem
set_option linter.unusedVariables false
set_option linter.unusedSimpArgs false
namespace Go.Proofs.YtibgjfeifpanhaaDoor.B
open Go.RowKit Go.Shelf Go.Proofs.YtibgjfeifpanhaaDoorW.PrintWords Go.Maps PItemValid
attribute [local go_sem] Oper.semAt_some

def TabOk (w : World) : Prop := Lib.TabIs Tryd.prog w "internal/strconv.uint64pow10" .u64 Lib.pow10Tab
theorem TabOk.below {w w' : World} (h : TabOk w) (hb : Below w.heap.size w w') : TabOk w' :=
  Go.Joins.tab_stays (P := Tryd.prog) (g := 3) (by kernel_rfl) h hb (Nat.le_refl _)
theorem itoa_calls (n : Int) (h0 : -9223372036854775808 ≤ n) (h1 : n ≤ 9223372036854775807) (w : World) (htab : TabOk w) :
    Calls Tryd.prog 82 #[.int .i64 n] w fun e w' => e = .returned (.string ⟨(Lib.itoa n).toArray⟩) ∧ Below w.heap.size w w' := by
  refine (Tryd.strconv_Itoa n h0 h1 w htab).mono ?_
  rintro e w' ⟨rfl, k, os, rfl⟩
  exact ⟨rfl, Lib.below_grow _ _ (Nat.le_refl _) _ _⟩
/-- A text's bytes as they are written. -/
def escL (l : List UInt8) : List UInt8 := l.flatMap fun c => (escB c).data.toList
def wrV (x : S29) : ByteArray := if x.f0 = 1 then ⟨(Lib.itoa x.f1).toArray⟩ else ⟨(34 :: (escL x.f2.data.toList ++ [34])).toArray⟩
theorem written_int (x : S29) (w : World) (h : x.f0 = 1) (h0 : -9223372036854775808 ≤ x.f1) (h1 : x.f1 ≤ 9223372036854775807) (htab : TabOk w) :
    Calls Tryd.prog 75 #[vV x] w fun e w' => e = .returned (.string (wrV x)) ∧ Below w.heap.size w w' := by
  have HI := fun W h => Aside0.mk (itoa_calls x.f1 h0 h1 W h)
  have hw : wrV x = ⟨(Lib.itoa x.f1).toArray⟩ := by unfold wrV; rw [if_pos h]
  have hd : (x.f0 == 1) = true := by simpa using h
  have HT := Aside0.mk (htab.below (below_alloc (Below.refl _ _) (.cells #[.int .i64 x.f0, .int .i64 x.f1, .string x.f2] 29)))
  rw [hw]
  clear h h0 h1 hw htab
  unfold vV
  go_enter Tryd.func75, Tryd.ntmps75
  go_wp2_with (go_at_call 82; go_must (refine (HI _ HT.out).out.mono ?_; rintro e w2 ⟨rfl, hb⟩))
  go_ret
  exact ⟨rfl, below_then (below_alloc (Below.refl _ _) _) hb⟩
/-- What the loop's rounds keep: the text's box, and all below. -/
def EKeep (s0 Bs : Nat) (s : ByteArray) (X Y : World) : Prop := Below s0 X Y ∧ (Boxed X Bs 9 (.string s) → Boxed Y Bs 9 (.string s))
theorem esc_stops (Bs : Nat) (s : ByteArray) (hs : s.size ≤ 1000000) (s0 : Nat) (w : World) (hI : Boxed w Bs 9 (.string s)) :
    SeqStopsK Fence.wide 8 Tryd.prog 113 #[.pointer (some ⟨Bs, 0, none⟩)] (fun x : UInt8 => #[.string (escB x)]) (EKeep s0 Bs s) (fun ys => ys = s.data.toList) (fun pre => pre <+: s.data.toList) s.size w := fun lp J Jx W hW hJ _ hY h0 =>
  esc1_in 8 (by decide) lp Bs s hs (EKeep s0 Bs s) (fun X Y hk h => hk.2 h) J Jx W.heap.size hJ hY W ((hW.block Bs hI.lt).trans hI) h0
theorem builder_own (B b B0 : Nat) (p : Value) (f : List UInt8 → List Value) : OwnFrom B0 (fun pre W => Lib.BuilderAtF 110 5 B b p (f pre) W) := fun pre X Y row h hg hr => by
  obtain ⟨hB, v, hbk, hown, hne⟩ := h
  refine ⟨hB, v, ?_, hown.kept hg ?_, hne⟩
  · rw [hg.block b (Array.getElem?_eq_some_iff.1 hbk).1 (fun e => by
      obtain ⟨_, o, ho, hc⟩ := hr b e.symm
      rw [hbk] at ho; cases ho; cases hc)]
    exact hbk
  · cases hv : v.ownBlock with
    | none => exact .inl rfl
    | some g =>
      refine .inr (fun e => ?_)
      obtain ⟨c, fz, hc⟩ := Lib.ownsRowF_kind hown g hv
      obtain ⟨_, o, ho, hcc⟩ := hr g e.symm
      rw [hc] at ho; cases ho; cases hcc
theorem escB_size (c : UInt8) : (escB c).size ≤ 4 := by
  unfold escB
  split
  · show 2 ≤ 4; omega
  · split
    · show 4 ≤ 4; omega
    · show 1 ≤ 4; omega
theorem escL_len : ∀ l : List UInt8, (escL l).length ≤ 4 * l.length
  | [] => by simp [escL]
  | c :: r => by
    have h1 := escL_len r
    have h2 : (escB c).data.toList.length ≤ 4 := escB_size c
    unfold escL at h1 ⊢
    rw [List.flatMap_cons, List.length_append, List.length_cons]
    omega
theorem escL_snoc (l : List UInt8) (c : UInt8) : Lib.byteCells (34 :: escL (l ++ [c])) = Lib.byteCells (34 :: escL l) ++ Lib.strCells (escB c) := by
  simp [escL, Lib.byteCells, Lib.strCells]
theorem keeps_others {B b : Nat} {bs : List Value} {X Y : World} {p : Value} (h : Lib.OthersKept 5 (some b) X Y) (hb : Lib.BuilderAtF 110 5 B b p bs X) (hs : X.heap.size ≤ Y.heap.size) : KeepsOthers X Y := by
  obtain ⟨hB, v, hbk, hown, hne⟩ := hb
  exact ⟨hs, fun k o hk ho => h k o hk (fun e => by cases e; rw [hbk] at hk; cases hk; cases ho) (fun c fz e => by subst e; cases ho)⟩
set_option maxRecDepth 100000 in
set_option maxHeartbeats 4000000 in
theorem written_text (x : S29) (w : World) (h : x.f0 ≠ 1) (hs : x.f2.size ≤ 1000000) :
    Calls Tryd.prog 75 #[vV x] w fun e w' => e = .returned (.string (wrV x)) ∧ Below w.heap.size w w' := by
  have hw : wrV x = ⟨(34 :: (escL x.f2.data.toList ++ [34])).toArray⟩ := by unfold wrV; rw [if_neg h]
  have hd : (x.f0 == 1) = false := by simpa using h
  rw [hw]
  clear h hw
  unfold vV
  generalize x.f0 = k at hd
  generalize x.f1 = m
  generalize x.f2 = s at hs ⊢
  refine (callsIn_wide (n := 9)).1 ?_
  have hf98 : Fence.wide.fn 98 := trivial
  have hf99 : Fence.wide.fn 99 := trivial
  have hf100 : Fence.wide.fn 100 := trivial
  have hf101 : Fence.wide.fn 101 := trivial
  refine callsIn_of_wp_marks Tryd.func75 rfl trivial ?_ rfl
  simp only [Tryd.ntmps75, List.size_toArray, List.length_cons, List.length_nil, Nat.reduceAdd, Nat.reduceSub, Array.replicate_succ, Array.replicate_zero, List.push_toArray, List.append_toArray, List.nil_append, List.cons_append]
  have hB0 : Below w.heap.size w (w.alloc (.cells #[.int .i64 k, .int .i64 m, .string s] 29)) := below_alloc (Below.refl _ _) _
  have hbl : Lib.IsBuilderF 110 5 w.heap.size (w.heap.size + 1) [] ((w.alloc (.cells #[.int .i64 k, .int .i64 m, .string s] 29)).alloc (.cells #[.pointer none, .slice none 0 0] 110)) := by
    refine .inl ⟨by omega, _, ?_, World.ownsRowF_nil _ _ _ _, by simp [Value.ownBlock]⟩
    have := World.alloc_heap_new (w.alloc (.cells #[.int .i64 k, .int .i64 m, .string s] 29)) (.cells #[.pointer none, .slice none 0 0] 110)
    rwa [World.size_alloc] at this
  have HW := Aside0.mk (S.WriteByte _ _ _ 34 _ hbl (by simp) (by simp; omega))
  clear hbl
  gi_wp2_with (first | (gi_at_call 98; go_must (refine (callsIn_wide.2 HW.out).mono ?_; rintro e W1 ⟨rfl, hb1, hbb1, hk1⟩; have hq1 : W1.heap[w.heap.size]? = some (.cells #[.int .i64 k, .int .i64 m, .string s] 29 (0, 0)) := (hk1 _ _ ((Lib.alloc_old _ _ _ (by simp)).trans (World.alloc_heap_new w _)) (by simp) (by intro c fz e; cases e)); have c2 : W1.cell? ⟨w.heap.size, 2, none⟩ = some (.string s) := (by rw [Lib.cell_of_heap hq1]; rfl))) | (gi_at_call 99; go_must (refine (escaped_in Fence.wide _ trivial rfl s _).mono ?_; rintro e w' ⟨rfl, rfl⟩)))
  have hz1 : w.heap.size + 2 ≤ W1.heap.size := by have := hbb1.size; simpa using this
  have hbw1 : Below w.heap.size w W1 := (below_alloc hB0 _).trans hbb1
  obtain ⟨W0, hW0⟩ : ∃ W0, W0 = W1.alloc (.cells #[.string s] 9) := ⟨_, rfl⟩
  have hbx : Boxed W0 W1.heap.size 9 (.string s) := by rw [hW0]; exact Boxed.new _ _ _
  have hz0 : W0.heap.size = W1.heap.size + 1 := by rw [hW0]; simp
  have hbw0 : Below w.heap.size w W0 := by rw [hW0]; exact below_alloc hbw1 _
  have hbl0 : Lib.BuilderAtF 110 5 w.heap.size (w.heap.size + 1) (.pointer (some ⟨w.heap.size + 1, 0, none⟩)) (Lib.byteCells (34 :: escL [])) W0 := by
    rw [hW0]
    exact builder_own _ _ 0 _ (fun pre => Lib.byteCells (34 :: escL pre)) [] _ _ none hb1 (World.grownBy_alloc _ _ _) (fun r e => by cases e)
  rw [← hW0]
  clear hW0 hq1 c2 hk1 hb1 HW
  have mixed : Tryd.prog.follows .mixedOrders = true := by kernel_rfl
  have hst := esc_stops W1.heap.size s hs w.heap.size W0 hbx
  refine wpIn_rangeFunc_ownH (F := Fence.wide) (n := 9) rfl (by decide) (gf := 113) (lb := #[.pointer (some ⟨W1.heap.size, 0, none⟩)]) rfl trivial (enters_of Tryd.func113 (by kernel_rfl) rfl)
    hst (fun h k => ⟨h.1.trans k.1, fun x => k.2 (h.2 x)⟩) (fun W l o o' hl h hc hw => ⟨belowK_b (w := w) (Nat.le_refl _) W l o o' (by omega) h hc hw, fun k => (World.putObj_heap_other (by omega)).trans k⟩) (Below.refl _ _) (fun _ => rfl)
    (fun pre W => Lib.BuilderAtF 110 5 w.heap.size (w.heap.size + 1) (.pointer (some ⟨w.heap.size + 1, 0, none⟩)) (Lib.byteCells (34 :: escL pre)) W ∧ Below w.heap.size w W)
    (fun c pre W => False)
    (OwnFrom.and (builder_own _ _ _ _ (fun pre => Lib.byteCells (34 :: escL pre))) (ownFrom_below (Nat.le_refl _) (by omega)))
    (fun c => fun _ _ _ _ h _ _ => h.elim)
    ⟨hbl0, hbw0⟩
    (fun x a' W => a' = { tmps := #[.agg #[.int .i64 k, .int .i64 m, .string s], .pointer (some ⟨w.heap.size, 0, none⟩), .string ⟨#[]⟩, .pointer (some ⟨w.heap.size + 1, 0, none⟩), .string (escB x), .pointer (some ⟨w.heap.size, 0, none⟩), .int .i64 k, .bool false, undef, undef, undef, .nilIface, .pointer (some ⟨w.heap.size, 2, none⟩), .string s, .func (.func 113) #[] #[.pointer (some ⟨W1.heap.size, 0, none⟩)], .string (escB x), undef, undef, undef, undef], defers := [] })
    (fun x a' _ X Y row hs hg hr => hs)
    ?assign ?body ?done ?stop
  case assign =>
    rintro lp pre x W K hI hK
    gi_wp2
    exact hK _ _ (KeepsFrom.refl _ _) ⟨Below.refl _ _, fun h => h⟩ hI rfl
  case body =>
    rintro lp pre x a' W hl _ ⟨hbl, hB⟩ rfl hlt
    have HS := Aside0.mk (S.WriteString _ _ _ (escB x) W (.inr hbl) (by have h1 := escL_len pre; have h2 := escB_size x; rw [Lib.byteCells_length, List.length_cons]; omega) hB.size)
    have hfS : (Fence.wide.inRound lp).fn 100 := trivial
    gi_wp2_with (gi_at_call 100; go_must (refine (callsIn_wide.2 HS.out).mono ?_; rintro e W2 ⟨rfl, hbl2, hb2, hk2⟩))
    exact ⟨(keeps_others hk2 hbl hb2.size).from _, ⟨hb2, fun h => hk2 _ _ h (by intro e; injection e; omega) (by intro c fz e; cases e)⟩, by rw [escL_snoc]; exact hbl2, hB.trans hb2⟩
  case done =>
    rintro D ys W hD rfl ⟨hbl, hB⟩ hK
    have HW9 := Aside0.mk (S.WriteByte _ _ _ 34 W (.inr hbl) (by have h1 := escL_len s.data.toList; have h3 : s.data.toList.length = s.size := rfl; rw [Lib.byteCells_length, List.length_cons]; omega) hB.size)
    gi_wp2_with (first | (gi_at_call 98; go_must (refine (callsIn_wide.2 HW9.out).mono ?_; rintro e W2 ⟨rfl, hbl2, hb2, hk2⟩; have hK2 := (keeps_others hk2 hbl hb2.size).same _ _ hK rfl; have hcells : Lib.IsBuilderF 110 5 w.heap.size (w.heap.size + 1) (Lib.byteCells (34 :: (escL s.data.toList ++ [34]))) W2 := (.inr (by have e : Lib.byteCells (34 :: (escL s.data.toList ++ [34])) = Lib.byteCells (34 :: escL s.data.toList) ++ [.int .u8 34] := (by simp [Lib.byteCells]); rw [e]; exact hbl2)))) | (gi_at_call 101; go_must (refine (callsIn_wide.2 (Tryd.Builder_String_any_k _ _ _ W2 hcells (hB.trans hb2).size)).mono ?_; rintro e W3 ⟨rfl, hbl3, hb3, hk3⟩; have hK3 : W3.heap[D]? = some (.deferred (some [])) := (by rcases hcells with hc | hc; exact (keeps_others hk3 hc hb3.size).same _ _ hK2 rfl; exact (keeps_others hk3 hc hb3.size).same _ _ hK2 rfl))))
    refine ⟨by simp, .inl ⟨_, _, rfl, run_takeDeferred hK3, ?_⟩⟩
    exact ⟨_, by simp [results, Tryd.f75, go_sem], rfl, ((hB.trans hb2).trans hb3).trans (belowK_b (w := w) (Nat.le_refl _) _ D _ _ (by omega) hK3 rfl rfl)⟩
  case stop => 
    rintro D c pre W hD hpre h hK
    exact h.elim
theorem written_calls (x : S29) (w : World) (hok : okV x = true) (htab : TabOk w) :
    Calls Tryd.prog 75 #[vV x] w fun e w' => e = .returned (.string (wrV x)) ∧ Below w.heap.size w w' := by
  unfold okV at hok
  by_cases h : x.f0 = 1
  · rw [if_pos h] at hok
    unfold okV1 at hok
    simp only [Bool.and_eq_true, decide_eq_true_eq] at hok
    exact written_int x w h (by omega) (by omega) htab
  · rw [if_neg h] at hok
    split at hok
    · unfold okV2 at hok
      simp only [Bool.and_eq_true, decide_eq_true_eq] at hok
      exact written_text x w h (by omega)
    · cases hok
end Go.Proofs.YtibgjfeifpanhaaDoor.B
