/- Texts of the proof, joined, what is not named cut out: I4, I5, O1, O2, O3, O4, P1, P2, P3, B3, P4, P5, V1, P6, V2, V3, V4, R2, N3, N4, N0, N5, N6, N7, N1, N8. -/
import Derived.Laws.Cover1
import Init
import Derived.Below
import Derived.Deep.Draws
import Derived.Deep.AppendLies
import Derived.Maps.AppendAt
import Derived.Maps.OwnSet
import Derived.OwnWalk
import Derived.Laws.BytesArg
import Derived.Laws.MakeOwn
import Derived.Laws.OwnMore
import Derived.Deep.OwnRows
import Derived.Tactics
import Derived.Laws.Slices
import Derived.WalkKit
import Derived.KernelRfl
import Derived.RowKit3
import Derived.Deep.LoopGhost
import Derived.Deep.QuietTactic
import Derived.BigQuiet
import Derived.WideLaws
import Derived.Deep.DeepCutAuto
import Derived.Deep.CutBlock
import Derived.Deep.RegionHeld3
import Derived.Laws.Rows
import Derived.ArgAppend
import Derived.Laws.IdiomCopy
import Derived.OrdersHeld
import Derived.Laws.BitsLemmas
import Derived.Outline
import Derived.WalkSpells
import Derived.Lib.Hide
import Derived.RowKit
import Derived.Deep.DeepMust
import Derived.Laws.EntriesVeiled
import Derived.StringKeys
import Derived.Test.YtibgjfeifpanhaaDoorProg
import Derived.Test.YtibgjfeifpanhaaDoorJb2

namespace Go.Proofs.YtibgjfeifpanhaaDoor.PItemValid
open Go.RowKit Go.Proofs.YtibgjfeifpanhaaDoorW.PrintWords Go.Proofs.YtibgjfeifpanhaaDoorW.PrintLast Go.Proofs.YtibgjfeifpanhaaDoorW.PrintMore
attribute [local go_sem] max2_int min2_int max_two min_two max_three min_three max_four min_four   -- for this text's walks alone
set_option linter.unusedVariables false
set_option linter.unusedSimpArgs false

/-! ### ringworkref01_Known: function 60 -/
def ringworkref01_Known.l0 : Nat → List (S32) → Int → Option (Bool)
  | 0, _, _ => none
  | k + 1, x0, x3 => if x3 < (x0.length : Int) then (if 0 ≤ x3 then ((ringworkref01_ValidItem.f k ((rd_T32 x0 x3).f0) ((rd_T32 x0 x3).f1) ((rd_T32 x0 x3).f2) ((rd_T32 x0 x3).f3) ((rd_T32 x0 x3).f4)).bind fun t145 => (if t145 = true then ((ringworkref01_index.f k x0 ((rd_T32 x0 x3).f0)).bind fun t147 => (if t147 = x3 then (ringworkref01_Known.l0 k x0 (wrap64 (x3 + 1))) else (some false))) else (some false))) else (none)) else (some (decide ((x0.length : Int) ≤ 8)))
def ringworkref01_Known.f (k : Nat) (l0 : List (S32)) : Option (Bool) := ringworkref01_Known.l0 k l0 0
theorem ringworkref01_Known.mono_l : ∀ k, (∀ y0 y1, LeO (ringworkref01_Known.l0 k y0 y1) (ringworkref01_Known.l0 (k + 1) y0 y1))
  | 0 => fun _ _ r h => by simp [ringworkref01_Known.l0] at h
  | k + 1 => by
    have ih0 := ringworkref01_Known.mono_l k
    · intro y0 y1
      unfold ringworkref01_Known.l0
      repeat' first
      | (with_reducible exact ih0 _ _)
      | (with_reducible exact ringworkref01_ValidItem.mono _ _ _ _ _ _)
      | (with_reducible exact ringworkref01_index.mono _ _ _)
      | (with_reducible exact LeO.refl _)
      | (with_reducible exact LeO.none _)
      | (with_reducible refine LeO.ite ?_ ?_)
      | (with_reducible refine LeO.bind ?_ (fun _ => ?_))
      | exact ih0 _ _
      | exact ringworkref01_ValidItem.mono _ _ _ _ _ _
      | exact ringworkref01_index.mono _ _ _
      | exact LeO.none _
      | refine LeO.ite ?_ ?_
      | refine LeO.bind ?_ (fun _ => ?_)
theorem ringworkref01_Known.mono : ∀ a0 k, LeO (ringworkref01_Known.f k a0) (ringworkref01_Known.f (k + 1) a0) := by
  intro a0 k
  have ih0 := ringworkref01_Known.mono_l k
  unfold ringworkref01_Known.f
  repeat' first
      | (with_reducible exact ih0 _ _)
      | (with_reducible exact ringworkref01_ValidItem.mono _ _ _ _ _ _)
      | (with_reducible exact ringworkref01_index.mono _ _ _)
      | (with_reducible exact LeO.refl _)
      | (with_reducible exact LeO.none _)
      | (with_reducible refine LeO.ite ?_ ?_)
      | (with_reducible refine LeO.bind ?_ (fun _ => ?_))
      | exact ih0 _ _
      | exact ringworkref01_ValidItem.mono _ _ _ _ _ _
      | exact ringworkref01_index.mono _ _ _
      | exact LeO.none _
      | refine LeO.ite ?_ ?_
      | refine LeO.bind ?_ (fun _ => ?_)
set_option maxHeartbeats 8000000 in
set_option maxRecDepth 100000 in
theorem ringworkref01_Known.calls (k : Nat) (A0 : Option Addr) (c0 : Nat) (l0 : List (S32)) (r : Bool) (w : World) (hr0 : Kd.C k32 w A0 l0.length l0) (hc0 : l0.length ≤ c0) (h : ringworkref01_Known.f k l0 = some r) :
    Calls Tryd.prog 60 #[.slice A0 l0.length c0] w fun e w' => e = .returned (.bool r) ∧ Below w.heap.size w w' := by
  have hu32 := Tryd.underlying32
  have HR0 := Aside0.mk hr0
  have HC0 := Aside0.mk hc0
  clear hr0 hc0
  have HB := Aside0.mk (Below.refl w.heap.size w)
  have H : (ringworkref01_Known.l0 k l0 0) = some r := h
  clear h
  have H' := Aside0.mk H
  clear H
  go_enter Tryd.func60, Tryd.ntmps60
  go_wp2
  go_loopg [3] k (fun kq v3 w' => ∃ (x3_1 : Int), v3 = .int .i64 x3_1 ∧ Aside0 (ringworkref01_Known.l0 kq l0 x3_1 = some r) ∧ Aside0 (kq ≤ k) ∧ Aside0 (Below w.heap.size w w'))
  case atStart => exact ⟨(0), (by first | rfl | (simp; done) | (simp [*]; done)), H', ⟨Nat.le_refl _⟩, ⟨by repeat (first | (with_reducible first | exact HB.out | apply below_alloc | apply pw_below_drewN | apply below_drew1) | exact HB.out)⟩⟩
  case round =>
    clear H'
    obtain ⟨x3_1, rfl, HA, HK1, HB⟩ := hrel
    cases gk with
    | zero => exact absurd HA.out (by simp [ringworkref01_Known.l0])
    | succ k1 =>
      have H := HA.out
      clear HA
      simp only [ringworkref01_Known.l0] at H
      by_cases c2 : x3_1 < (l0.length : Int)
      · rw [if_pos c2] at H
        have c2b0 : decide (x3_1 < (l0.length : Int)) = true := decide_eq_true c2
        clear c2
        by_cases c3 : 0 ≤ x3_1
        · rw [if_pos c3] at H
          have c3b0 : decide (0 ≤ x3_1) = true := decide_eq_true c3
          clear c3
          replace H := Option.bind_eq_some_iff.mp H
          obtain ⟨t145, A40, H⟩ := H
          replace H : (if t145 = true then ((ringworkref01_index.f k1 l0 ((rd_T32 l0 x3_1).f0)).bind fun t147 => (if t147 = x3_1 then (ringworkref01_Known.l0 k1 l0 (wrap64 (x3_1 + 1))) else (some false))) else (some false)) = some r := H
          have A4 := Aside0.mk A40
          clear A40
          by_cases c5 : t145 = true
          · subst c5
            have H1 : ((ringworkref01_index.f k1 l0 ((rd_T32 l0 x3_1).f0)).bind fun t147 => (if t147 = x3_1 then (ringworkref01_Known.l0 k1 l0 (wrap64 (x3_1 + 1))) else (some false))) = some r := by rw [if_pos rfl] at H; exact H
            clear H
            have H := H1
            clear H1
            replace H := Option.bind_eq_some_iff.mp H
            obtain ⟨t147, A60, H⟩ := H
            replace H : (if t147 = x3_1 then (ringworkref01_Known.l0 k1 l0 (wrap64 (x3_1 + 1))) else (some false)) = some r := H
            have A6 := Aside0.mk A60
            clear A60
            by_cases c7 : t147 = x3_1
            · rw [if_pos c7] at H
              have c7b0 : (t147 == x3_1) = true := beq_iff_eq.mpr c7
              have c7b1 : (t147 != x3_1) = false := bne_eq_false_iff_eq.mpr c7
              clear c7
              have H' := Aside0.mk H
              clear H
              have p144 : 0 ≤ (x3_1 : Int) := of_decide_eq_true (by first | (with_reducible assumption) | assumption)
              have q144 : x3_1 < (l0.length : Int) := of_decide_eq_true (by first | (with_reducible assumption) | assumption)
              obtain ⟨ad144, e144, hx144_0, hx144_1, hx144_2, hx144_3, hx144_4⟩ := at_T32 HR0.out x3_1 p144 q144
              cases e144
              replace hx144_0 := (HB.out.cell (World.block_lt_of_cell? w _ hx144_0)).trans hx144_0
              replace hx144_1 := (HB.out.cell (World.block_lt_of_cell? w _ hx144_1)).trans hx144_1
              replace hx144_2 := (HB.out.cell (World.block_lt_of_cell? w _ hx144_2)).trans hx144_2
              replace hx144_3 := (HB.out.cell (World.block_lt_of_cell? w _ hx144_3)).trans hx144_3
              replace hx144_4 := (HB.out.cell (World.block_lt_of_cell? w _ hx144_4)).trans hx144_4
              replace p144 := eq_true p144
              replace q144 := eq_true q144
              go_wp2_with (first | ((with_reducible refine gate_callee (f := 15) rfl ?_); refine goesL_ (some 14) rfl rfl Tryd.func15 (by kernel_rfl) rfl #[.agg #[.string ((rd_T32 l0 x3_1).f0), .int .i64 ((rd_T32 l0 x3_1).f1), .int .i64 ((rd_T32 l0 x3_1).f2), .int .i64 ((rd_T32 l0 x3_1).f3), .int .i64 ((rd_T32 l0 x3_1).f4)]] rfl (by (try simp only [List.map_toArray, List.map_cons, List.map_nil]); first | done | rfl | (simp only [List.length_drop, List.length_take]; rfl)) ?_; (with_reducible refine (ringworkref01_ValidItem.calls k1 ((rd_T32 l0 x3_1).f0) ((rd_T32 l0 x3_1).f1) ((rd_T32 l0 x3_1).f2) ((rd_T32 l0 x3_1).f3) ((rd_T32 l0 x3_1).f4) true _ A4.out).mono ?_); rintro e w8 ⟨rfl, hb⟩; refine ⟨_, rfl, ?_⟩; have n0_ := Aside0.mk (below_step (by repeat (first | (with_reducible first | exact HB.out | apply below_alloc | apply pw_below_drewN | apply below_drew1) | exact HB.out)) hb); clear HB; have HB := n0_; clear n0_; (try clear hb); (try clear hb2); (try clear hk); (try clear hi); have p146 : 0 ≤ (x3_1 : Int) := of_decide_eq_true (by first | (with_reducible assumption) | assumption); have q146 : x3_1 < (l0.length : Int) := of_decide_eq_true (by first | (with_reducible assumption) | assumption); obtain ⟨ad146, e146, hx146_0, hx146_1, hx146_2, hx146_3, hx146_4⟩ := at_T32 HR0.out x3_1 p146 q146; obtain rfl : ad144 = ad146 := (by injection e146); replace hx146_0 := (HB.out.cell (World.block_lt_of_cell? w _ hx146_0)).trans hx146_0; replace hx146_1 := (HB.out.cell (World.block_lt_of_cell? w _ hx146_1)).trans hx146_1; replace hx146_2 := (HB.out.cell (World.block_lt_of_cell? w _ hx146_2)).trans hx146_2; replace hx146_3 := (HB.out.cell (World.block_lt_of_cell? w _ hx146_3)).trans hx146_3; replace hx146_4 := (HB.out.cell (World.block_lt_of_cell? w _ hx146_4)).trans hx146_4; replace p146 := eq_true p146; replace q146 := eq_true q146) | (go_at_call 72; (with_reducible refine (ringworkref01_index.calls k1 _ _ l0 ((rd_T32 l0 x3_1).f0) t147 _ ?side1 ?side2 A6.out).mono ?_); (case side1 => repeat (first | exact (Kd.C_below HR0.out HB.out) | (with_reducible refine Kd.C_alloc ?_ _) | (with_reducible refine Kd.C_drewN ?_ _) | (with_reducible refine Kd.C_drew ?_))); (case side2 => exact HC0.out); rintro e w' ⟨rfl, ⟨nd, rfl⟩⟩))
              go_roundg k1
              case measure => have := HK1.out; omega
              case rel => exact ⟨(wrap64 (x3_1 + 1)), (by first | rfl | (simp; done) | (simp [*]; done)), H', ⟨by have := HK1.out; omega⟩, ⟨by repeat (first | (with_reducible first | exact HB.out | apply below_alloc | apply pw_below_drewN | apply below_drew1) | exact HB.out)⟩⟩
            · rw [if_neg c7] at H
              have c7b0 : (t147 == x3_1) = false := beq_eq_false_iff_ne.mpr c7
              have c7b1 : (t147 != x3_1) = true := bne_iff_ne.mpr c7
              obtain rfl := Option.some.inj H
              have p144 : 0 ≤ (x3_1 : Int) := of_decide_eq_true (by first | (with_reducible assumption) | assumption)
              have q144 : x3_1 < (l0.length : Int) := of_decide_eq_true (by first | (with_reducible assumption) | assumption)
              obtain ⟨ad144, e144, hx144_0, hx144_1, hx144_2, hx144_3, hx144_4⟩ := at_T32 HR0.out x3_1 p144 q144
              cases e144
              replace hx144_0 := (HB.out.cell (World.block_lt_of_cell? w _ hx144_0)).trans hx144_0
              replace hx144_1 := (HB.out.cell (World.block_lt_of_cell? w _ hx144_1)).trans hx144_1
              replace hx144_2 := (HB.out.cell (World.block_lt_of_cell? w _ hx144_2)).trans hx144_2
              replace hx144_3 := (HB.out.cell (World.block_lt_of_cell? w _ hx144_3)).trans hx144_3
              replace hx144_4 := (HB.out.cell (World.block_lt_of_cell? w _ hx144_4)).trans hx144_4
              replace p144 := eq_true p144
              replace q144 := eq_true q144
              go_wp2_with (first | ((with_reducible refine gate_callee (f := 15) rfl ?_); refine goesL_ (some 14) rfl rfl Tryd.func15 (by kernel_rfl) rfl #[.agg #[.string ((rd_T32 l0 x3_1).f0), .int .i64 ((rd_T32 l0 x3_1).f1), .int .i64 ((rd_T32 l0 x3_1).f2), .int .i64 ((rd_T32 l0 x3_1).f3), .int .i64 ((rd_T32 l0 x3_1).f4)]] rfl (by (try simp only [List.map_toArray, List.map_cons, List.map_nil]); first | done | rfl | (simp only [List.length_drop, List.length_take]; rfl)) ?_; (with_reducible refine (ringworkref01_ValidItem.calls k1 ((rd_T32 l0 x3_1).f0) ((rd_T32 l0 x3_1).f1) ((rd_T32 l0 x3_1).f2) ((rd_T32 l0 x3_1).f3) ((rd_T32 l0 x3_1).f4) true _ A4.out).mono ?_); rintro e w9 ⟨rfl, hb⟩; refine ⟨_, rfl, ?_⟩; have n0_ := Aside0.mk (below_step (by repeat (first | (with_reducible first | exact HB.out | apply below_alloc | apply pw_below_drewN | apply below_drew1) | exact HB.out)) hb); clear HB; have HB := n0_; clear n0_; (try clear hb); (try clear hb2); (try clear hk); (try clear hi); have p146 : 0 ≤ (x3_1 : Int) := of_decide_eq_true (by first | (with_reducible assumption) | assumption); have q146 : x3_1 < (l0.length : Int) := of_decide_eq_true (by first | (with_reducible assumption) | assumption); obtain ⟨ad146, e146, hx146_0, hx146_1, hx146_2, hx146_3, hx146_4⟩ := at_T32 HR0.out x3_1 p146 q146; obtain rfl : ad144 = ad146 := (by injection e146); replace hx146_0 := (HB.out.cell (World.block_lt_of_cell? w _ hx146_0)).trans hx146_0; replace hx146_1 := (HB.out.cell (World.block_lt_of_cell? w _ hx146_1)).trans hx146_1; replace hx146_2 := (HB.out.cell (World.block_lt_of_cell? w _ hx146_2)).trans hx146_2; replace hx146_3 := (HB.out.cell (World.block_lt_of_cell? w _ hx146_3)).trans hx146_3; replace hx146_4 := (HB.out.cell (World.block_lt_of_cell? w _ hx146_4)).trans hx146_4; replace p146 := eq_true p146; replace q146 := eq_true q146) | (go_at_call 72; (with_reducible refine (ringworkref01_index.calls k1 _ _ l0 ((rd_T32 l0 x3_1).f0) t147 _ ?side1 ?side2 A6.out).mono ?_); (case side1 => repeat (first | exact (Kd.C_below HR0.out HB.out) | (with_reducible refine Kd.C_alloc ?_ _) | (with_reducible refine Kd.C_drewN ?_ _) | (with_reducible refine Kd.C_drew ?_))); (case side2 => exact HC0.out); rintro e w' ⟨rfl, ⟨nd, rfl⟩⟩))
              go_ret
              exact ⟨by first | rfl | (simp [errW_none, errW_some] <;> rfl) | (simp [*, errW_none, errW_some] <;> rfl), by repeat (first | (with_reducible first | exact HB.out | apply below_alloc | apply pw_below_drewN | apply below_drew1) | exact HB.out)⟩
          · replace c5 := Bool.eq_false_iff.mpr c5
            subst c5
            have H1 : (some false) = some r := by rw [if_neg (show ¬ (false = true) by decide)] at H; exact H
            clear H
            have H := H1
            clear H1
            obtain rfl := Option.some.inj H
            have p144 : 0 ≤ (x3_1 : Int) := of_decide_eq_true (by first | (with_reducible assumption) | assumption)
            have q144 : x3_1 < (l0.length : Int) := of_decide_eq_true (by first | (with_reducible assumption) | assumption)
            obtain ⟨ad144, e144, hx144_0, hx144_1, hx144_2, hx144_3, hx144_4⟩ := at_T32 HR0.out x3_1 p144 q144
            cases e144
            replace hx144_0 := (HB.out.cell (World.block_lt_of_cell? w _ hx144_0)).trans hx144_0
            replace hx144_1 := (HB.out.cell (World.block_lt_of_cell? w _ hx144_1)).trans hx144_1
            replace hx144_2 := (HB.out.cell (World.block_lt_of_cell? w _ hx144_2)).trans hx144_2
            replace hx144_3 := (HB.out.cell (World.block_lt_of_cell? w _ hx144_3)).trans hx144_3
            replace hx144_4 := (HB.out.cell (World.block_lt_of_cell? w _ hx144_4)).trans hx144_4
            replace p144 := eq_true p144
            replace q144 := eq_true q144
            go_wp2_with (first | ((with_reducible refine gate_callee (f := 15) rfl ?_); refine goesL_ (some 14) rfl rfl Tryd.func15 (by kernel_rfl) rfl #[.agg #[.string ((rd_T32 l0 x3_1).f0), .int .i64 ((rd_T32 l0 x3_1).f1), .int .i64 ((rd_T32 l0 x3_1).f2), .int .i64 ((rd_T32 l0 x3_1).f3), .int .i64 ((rd_T32 l0 x3_1).f4)]] rfl (by (try simp only [List.map_toArray, List.map_cons, List.map_nil]); first | done | rfl | (simp only [List.length_drop, List.length_take]; rfl)) ?_; (with_reducible refine (ringworkref01_ValidItem.calls k1 ((rd_T32 l0 x3_1).f0) ((rd_T32 l0 x3_1).f1) ((rd_T32 l0 x3_1).f2) ((rd_T32 l0 x3_1).f3) ((rd_T32 l0 x3_1).f4) false _ A4.out).mono ?_); rintro e w10 ⟨rfl, hb⟩; refine ⟨_, rfl, ?_⟩; have n0_ := Aside0.mk (below_step (by repeat (first | (with_reducible first | exact HB.out | apply below_alloc | apply pw_below_drewN | apply below_drew1) | exact HB.out)) hb); clear HB; have HB := n0_; clear n0_; (try clear hb); (try clear hb2); (try clear hk); (try clear hi)))
            go_ret
            exact ⟨by first | rfl | (simp [errW_none, errW_some] <;> rfl) | (simp [*, errW_none, errW_some] <;> rfl), by repeat (first | (with_reducible first | exact HB.out | apply below_alloc | apply pw_below_drewN | apply below_drew1) | exact HB.out)⟩
        · rw [if_neg c3] at H
          exact absurd H (by simp)
      · rw [if_neg c2] at H
        have c2b0 : decide (x3_1 < (l0.length : Int)) = false := decide_eq_false c2
        clear c2
        obtain rfl := Option.some.inj H
        go_wp2
        go_ret
        exact ⟨by first | rfl | (simp [errW_none, errW_some] <;> rfl) | (simp [*, errW_none, errW_some] <;> rfl), by repeat (first | (with_reducible first | exact HB.out | apply below_alloc | apply pw_below_drewN | apply below_drew1) | exact HB.out)⟩

/-! ### ringworkref01_ValidItems: function 21 -/
def ringworkref01_ValidItems.f (k : Nat) (l0 : List (S32)) : Option (Bool) := if (l0.length : Int) > 0 then ((ringworkref01_Known.f k l0).bind fun t148 => (some t148)) else (some false)
theorem ringworkref01_ValidItems.mono : ∀ a0 k, LeO (ringworkref01_ValidItems.f k a0) (ringworkref01_ValidItems.f (k + 1) a0) := by
  intro a0 k
  unfold ringworkref01_ValidItems.f
  repeat' first
      | (with_reducible exact ringworkref01_Known.mono _ _)
      | (with_reducible exact LeO.refl _)
      | (with_reducible exact LeO.none _)
      | (with_reducible refine LeO.ite ?_ ?_)
      | (with_reducible refine LeO.bind ?_ (fun _ => ?_))
      | exact ringworkref01_Known.mono _ _
      | exact LeO.none _
      | refine LeO.ite ?_ ?_
      | refine LeO.bind ?_ (fun _ => ?_)
set_option maxHeartbeats 8000000 in
set_option maxRecDepth 100000 in
theorem ringworkref01_ValidItems.calls (k : Nat) (A0 : Option Addr) (c0 : Nat) (l0 : List (S32)) (r : Bool) (w : World) (hr0 : Kd.C k32 w A0 l0.length l0) (hc0 : l0.length ≤ c0) (h : ringworkref01_ValidItems.f k l0 = some r) :
    Calls Tryd.prog 21 #[.slice A0 l0.length c0] w fun e w' => e = .returned (.bool r) ∧ Below w.heap.size w w' := by
  have HR0 := Aside0.mk hr0
  have HC0 := Aside0.mk hc0
  clear hr0 hc0
  have HB := Aside0.mk (Below.refl w.heap.size w)
  have H : (if (l0.length : Int) > 0 then ((ringworkref01_Known.f k l0).bind fun t148 => (some t148)) else (some false)) = some r := h
  clear h
  by_cases c2 : (l0.length : Int) > 0
  · rw [if_pos c2] at H
    have c2b0 : decide (0 < (l0.length : Int)) = true := decide_eq_true c2
    have c2b1 : decide (0 < l0.length) = true := decide_eq_true (by omega)
    clear c2
    replace H := Option.bind_eq_some_iff.mp H
    obtain ⟨t148, A30, H⟩ := H
    replace H : (some t148) = some r := H
    have A3 := Aside0.mk A30
    clear A30
    obtain rfl := Option.some.inj H
    go_enter Tryd.func21, Tryd.ntmps21
    go_wp2_with (first | (go_at_call 60; (with_reducible refine (ringworkref01_Known.calls k _ _ l0 t148 _ ?side1 ?side2 A3.out).mono ?_); (case side1 => repeat (first | exact HR0.out | (with_reducible refine Kd.C_alloc ?_ _) | (with_reducible refine Kd.C_drewN ?_ _) | (with_reducible refine Kd.C_drew ?_))); (case side2 => exact HC0.out); rintro e w4 ⟨rfl, hb⟩; have n0_ := Aside0.mk (below_step (by repeat (first | (with_reducible first | exact HB.out | apply below_alloc | apply pw_below_drewN | apply below_drew1) | exact HB.out)) hb); clear HB; have HB := n0_; clear n0_; (try clear hb); (try clear hb2); (try clear hk); (try clear hi)))
    go_ret
    exact ⟨by first | rfl | (simp [errW_none, errW_some] <;> rfl) | (simp [*, errW_none, errW_some] <;> rfl), by repeat (first | (with_reducible first | exact HB.out | apply below_alloc | apply pw_below_drewN | apply below_drew1) | exact HB.out)⟩
  · rw [if_neg c2] at H
    have c2b0 : decide (0 < (l0.length : Int)) = false := decide_eq_false c2
    have c2b1 : decide (0 < l0.length) = false := decide_eq_false (by omega)
    clear c2
    obtain rfl := Option.some.inj H
    go_enter Tryd.func21, Tryd.ntmps21
    go_wp2
    go_ret
    exact ⟨by first | rfl | (simp [errW_none, errW_some] <;> rfl) | (simp [*, errW_none, errW_some] <;> rfl), by repeat (first | (with_reducible first | exact HB.out | apply below_alloc | apply pw_below_drewN | apply below_drew1) | exact HB.out)⟩




/-! ### ringworkref01_Holds: function 63 -/
def ringworkref01_Holds.j0 : Nat → Bool → ByteArray → Int → Int → Int → Int → Int → Int → ByteArray → Option (Bool)
  | 0, _, _, _, _, _, _, _, _, _ => none
  | k + 1, x14, x152000, x152001, x152002, x152003, x152004, x153000, x153001, x153002 => if x14 = true then (some false) else (if x153000 = 1 then (if x152002 ≤ x153001 then (some (decide (x153001 ≤ x152003))) else (some false)) else (some (decide ((x153002.size : Int) ≤ x152004))))
def ringworkref01_Holds.f (k : Nat) (a0_0 : ByteArray) (a0_1 : Int) (a0_2 : Int) (a0_3 : Int) (a0_4 : Int) (a1_0 : Int) (a1_1 : Int) (a1_2 : ByteArray) : Option (Bool) := (ringworkref01_ValidValue.f a1_0 a1_1 a1_2).bind fun t153 => (if t153 = true then (ringworkref01_Holds.j0 k (a1_0 != a0_1) a0_0 a0_1 a0_2 a0_3 a0_4 a1_0 a1_1 a1_2) else (ringworkref01_Holds.j0 k true a0_0 a0_1 a0_2 a0_3 a0_4 a1_0 a1_1 a1_2))
theorem ringworkref01_Holds.mono_l : ∀ k, (∀ y0 y1 y2 y3 y4 y5 y6 y7 y8, LeO (ringworkref01_Holds.j0 k y0 y1 y2 y3 y4 y5 y6 y7 y8) (ringworkref01_Holds.j0 (k + 1) y0 y1 y2 y3 y4 y5 y6 y7 y8))
  | 0 => fun _ _ _ _ _ _ _ _ _ r h => by simp [ringworkref01_Holds.j0] at h
  | k + 1 => by
    have ih0 := ringworkref01_Holds.mono_l k
    · intro y0 y1 y2 y3 y4 y5 y6 y7 y8
      unfold ringworkref01_Holds.j0
      repeat' first
      | (with_reducible exact ih0 _ _ _ _ _ _ _ _ _)
      | (with_reducible exact LeO.refl _)
      | (with_reducible exact LeO.none _)
      | (with_reducible refine LeO.ite ?_ ?_)
      | (with_reducible refine LeO.bind ?_ (fun _ => ?_))
      | exact ih0 _ _ _ _ _ _ _ _ _
      | exact LeO.none _
      | refine LeO.ite ?_ ?_
      | refine LeO.bind ?_ (fun _ => ?_)
theorem ringworkref01_Holds.mono : ∀ a0 a1 a2 a3 a4 a5 a6 a7 k, LeO (ringworkref01_Holds.f k a0 a1 a2 a3 a4 a5 a6 a7) (ringworkref01_Holds.f (k + 1) a0 a1 a2 a3 a4 a5 a6 a7) := by
  intro a0 a1 a2 a3 a4 a5 a6 a7 k
  have ih0 := ringworkref01_Holds.mono_l k
  unfold ringworkref01_Holds.f
  repeat' first
      | (with_reducible exact ih0 _ _ _ _ _ _ _ _ _)
      | (with_reducible exact LeO.refl _)
      | (with_reducible exact LeO.none _)
      | (with_reducible refine LeO.ite ?_ ?_)
      | (with_reducible refine LeO.bind ?_ (fun _ => ?_))
      | exact ih0 _ _ _ _ _ _ _ _ _
      | exact LeO.none _
      | refine LeO.ite ?_ ?_
      | refine LeO.bind ?_ (fun _ => ?_)
set_option maxHeartbeats 8000000 in
set_option maxRecDepth 100000 in
theorem ringworkref01_Holds.calls (k : Nat) (a0_0 : ByteArray) (a0_1 : Int) (a0_2 : Int) (a0_3 : Int) (a0_4 : Int) (a1_0 : Int) (a1_1 : Int) (a1_2 : ByteArray) (r : Bool) (w : World) (h : ringworkref01_Holds.f k a0_0 a0_1 a0_2 a0_3 a0_4 a1_0 a1_1 a1_2 = some r) :
    Calls Tryd.prog 63 #[.agg #[.string a0_0, .int .i64 a0_1, .int .i64 a0_2, .int .i64 a0_3, .int .i64 a0_4], .agg #[.int .i64 a1_0, .int .i64 a1_1, .string a1_2]] w fun e w' => e = .returned (.bool r) ∧ Below w.heap.size w w' := by
  have hu32 := Tryd.underlying32
  have hu29 := Tryd.underlying29
  have HB := Aside0.mk (Below.refl w.heap.size w)
  have H : ((ringworkref01_ValidValue.f a1_0 a1_1 a1_2).bind fun t153 => (if t153 = true then (ringworkref01_Holds.j0 k (a1_0 != a0_1) a0_0 a0_1 a0_2 a0_3 a0_4 a1_0 a1_1 a1_2) else (ringworkref01_Holds.j0 k true a0_0 a0_1 a0_2 a0_3 a0_4 a1_0 a1_1 a1_2))) = some r := h
  clear h
  have HC3 := Aside0.mk H
  clear H
  go_enter Tryd.func63, Tryd.ntmps63
  go_upto_region 1 with (first | ((with_reducible refine gate_dst (N := 2) rfl ?_); refine box_event ?hg (N := 2) ?hd (cs := #[.string a0_0, .int .i64 a0_1, .int .i64 a0_2, .int .i64 a0_3, .int .i64 a0_4]) (t := 32) ?hr ?_; (case hd => rfl); (case hg => rfl); (case hr => first | (go_simp; done) | (go_simp; rfl)); intro gb151 hg w4 hbox hb; have n0_ := Aside0.mk (below_step (by repeat (first | (with_reducible first | exact HB.out | apply below_alloc | apply pw_below_drewN | apply below_drew1) | exact HB.out)) hb); have n1_ := Aside0.mk (hbox); have n2_ := Aside0.mk ((by rw [hg]; exact (below_size (by repeat (first | (with_reducible first | exact HB.out | apply below_alloc | apply pw_below_drewN | apply below_drew1) | exact HB.out))) : w.heap.size ≤ gb151)); have n3_ := Aside0.mk ((by rw [hg]; exact (below_size (by repeat (first | (with_reducible first | exact HB.out | apply below_alloc | apply pw_below_drewN | apply below_drew1) | exact HB.out))) : w.heap.size ≤ gb151)); clear HB; have HB := n0_; have BK151 := n1_; have GW151 := n2_; have GE151 := n3_; clear n0_ n1_ n2_ n3_; clear hb hbox hg) | ((with_reducible refine gate_dst (N := 3) rfl ?_); refine box_event ?hg (N := 3) ?hd (cs := #[.int .i64 a1_0, .int .i64 a1_1, .string a1_2]) (t := 29) ?hr ?_; (case hd => rfl); (case hg => rfl); (case hr => first | (go_simp; done) | (go_simp; rfl)); intro gb152 hg w5 hbox hb; have n0_ := Aside0.mk (blk_below (g := gb151) (o := .cells #[.string a0_0, .int .i64 a0_1, .int .i64 a0_2, .int .i64 a0_3, .int .i64 a0_4] 32 (0, 0)) (by (with_reducible repeat (first | refine blk_drewN ?_ _ | refine blk_drew ?_ | refine blk_alloc ?_ _)); exact BK151.out) hb); have n1_ := Aside0.mk (below_step (by repeat (first | (with_reducible first | exact HB.out | apply below_alloc | apply pw_below_drewN | apply below_drew1 | refine below_set ?_ GE151.out) | exact HB.out)) hb); have n2_ := Aside0.mk (hbox); have n3_ := Aside0.mk ((by rw [hg]; exact (below_size (by repeat (first | (with_reducible first | exact HB.out | apply below_alloc | apply pw_below_drewN | apply below_drew1 | refine below_set ?_ GE151.out) | exact HB.out))) : w.heap.size ≤ gb152)); have n4_ := Aside0.mk ((by rw [hg]; exact (below_size (by repeat (first | (with_reducible first | exact HB.out | apply below_alloc | apply pw_below_drewN | apply below_drew1 | refine below_set ?_ GE151.out) | exact HB.out))) : w.heap.size ≤ gb152)); have n5_ := Aside0.mk ((by rw [hg]; exact Nat.ne_of_lt (blk_lt (g := gb151) (o := .cells #[.string a0_0, .int .i64 a0_1, .int .i64 a0_2, .int .i64 a0_3, .int .i64 a0_4] 32 (0, 0)) (by (with_reducible repeat (first | refine blk_drewN ?_ _ | refine blk_drew ?_ | refine blk_alloc ?_ _)); exact BK151.out)) : gb151 ≠ gb152)); have n6_ := Aside0.mk ((by rw [hg]; exact Nat.ne_of_gt (blk_lt (g := gb151) (o := .cells #[.string a0_0, .int .i64 a0_1, .int .i64 a0_2, .int .i64 a0_3, .int .i64 a0_4] 32 (0, 0)) (by (with_reducible repeat (first | refine blk_drewN ?_ _ | refine blk_drew ?_ | refine blk_alloc ?_ _)); exact BK151.out)) : gb152 ≠ gb151)); clear BK151; clear HB; have BK151 := n0_; have HB := n1_; have BK152 := n2_; have GW152 := n3_; have GE152 := n4_; have NB151_152 := n5_; have NB152_151 := n6_; clear n0_ n1_ n2_ n3_ n4_ n5_ n6_; clear hb hbox hg))
  (try simp only [Act.put, List.setIfInBounds_toArray, List.set_cons_zero, List.set_cons_succ])
  go_cut [14] (fun v14 wc => ∃ (kq : Nat) (x14_2 : Bool), v14 = .bool x14_2 ∧ Aside0 (ringworkref01_Holds.j0 kq x14_2 a0_0 a0_1 a0_2 a0_3 a0_4 a1_0 a1_1 a1_2 = some r) ∧ Aside0 (kq ≤ k) ∧ Aside0 (wc.heap[gb151]? = some (.cells #[.string a0_0, .int .i64 a0_1, .int .i64 a0_2, .int .i64 a0_3, .int .i64 a0_4] 32 (0, 0))) ∧ Aside0 (wc.heap[gb152]? = some (.cells #[.int .i64 a1_0, .int .i64 a1_1, .string a1_2] 29 (0, 0))) ∧ Aside0 (Below w.heap.size w wc))
  case first =>
    have H := HC3.out
    clear HC3
    replace H := Option.bind_eq_some_iff.mp H
    obtain ⟨t153, A60, H⟩ := H
    replace H : (if t153 = true then (ringworkref01_Holds.j0 k (a1_0 != a0_1) a0_0 a0_1 a0_2 a0_3 a0_4 a1_0 a1_1 a1_2) else (ringworkref01_Holds.j0 k true a0_0 a0_1 a0_2 a0_3 a0_4 a1_0 a1_1 a1_2)) = some r := H
    have A6 := Aside0.mk A60
    clear A60
    by_cases c7 : t153 = true
    · subst c7
      have H1 : (ringworkref01_Holds.j0 k (a1_0 != a0_1) a0_0 a0_1 a0_2 a0_3 a0_4 a1_0 a1_1 a1_2) = some r := by rw [if_pos rfl] at H; exact H
      clear H
      have H := H1
      clear H1
      have H' := Aside0.mk H
      clear H
      have hnb8 := NB152_151.out
      have hnc8 := NB151_152.out
      have hcz9_0 : w5.cell? ⟨gb152, 0, none⟩ = some (.int .i64 a1_0) := (blk_cell BK152.out 0).trans rfl
      have hcz9_1 : w5.cell? ⟨gb152, 1, none⟩ = some (.int .i64 a1_1) := (blk_cell BK152.out 1).trans rfl
      have hcz9_2 : w5.cell? ⟨gb152, 2, none⟩ = some (.string a1_2) := (blk_cell BK152.out 2).trans rfl
      have hfz9_0 := blk_frozen BK152.out 0
      have hfz9_1 := blk_frozen BK152.out 1
      have hfz9_2 := blk_frozen BK152.out 2
      go_wp2_with (first | ((with_reducible refine gate_callee (f := 13) rfl ?_); refine goesL_ (some 6) rfl rfl Tryd.func13 (by kernel_rfl) rfl #[.agg #[.int .i64 a1_0, .int .i64 a1_1, .string a1_2]] rfl (by (try simp only [List.map_toArray, List.map_cons, List.map_nil]); first | done | rfl | (simp only [List.length_drop, List.length_take]; rfl)) ?_; (with_reducible refine (ringworkref01_ValidValue.calls a1_0 a1_1 a1_2 true _ A6.out).mono ?_); rintro e w10 ⟨rfl, hb⟩; refine ⟨_, rfl, ?_⟩; have n0_ := Aside0.mk (blk_below (g := gb151) (o := .cells #[.string a0_0, .int .i64 a0_1, .int .i64 a0_2, .int .i64 a0_3, .int .i64 a0_4] 32 (0, 0)) (by (with_reducible repeat (first | refine blk_drewN ?_ _ | refine blk_drew ?_ | refine blk_alloc ?_ _)); exact BK151.out) hb); have n1_ := Aside0.mk (blk_below (g := gb152) (o := .cells #[.int .i64 a1_0, .int .i64 a1_1, .string a1_2] 29 (0, 0)) (by (with_reducible repeat (first | refine blk_drewN ?_ _ | refine blk_drew ?_ | refine blk_alloc ?_ _)); exact BK152.out) hb); have n2_ := Aside0.mk (below_step (by repeat (first | (with_reducible first | exact HB.out | apply below_alloc | apply pw_below_drewN | apply below_drew1 | refine below_set ?_ GE151.out | refine below_set ?_ GE152.out) | exact HB.out)) hb); clear BK151; clear BK152; clear HB; have BK151 := n0_; have BK152 := n1_; have HB := n2_; clear n0_ n1_ n2_; (try clear hb); (try clear hb2); (try clear hk); (try clear hi); have hcz11_0 : w10.cell? ⟨gb152, 0, none⟩ = some (.int .i64 a1_0) := (blk_cell BK152.out 0).trans rfl; have hcz11_1 : w10.cell? ⟨gb152, 1, none⟩ = some (.int .i64 a1_1) := (blk_cell BK152.out 1).trans rfl; have hcz11_2 : w10.cell? ⟨gb152, 2, none⟩ = some (.string a1_2) := (blk_cell BK152.out 2).trans rfl; have hfz11_0 := blk_frozen BK152.out 0; have hfz11_1 := blk_frozen BK152.out 1; have hfz11_2 := blk_frozen BK152.out 2; have hcz12_0 : w10.cell? ⟨gb151, 0, none⟩ = some (.string a0_0) := (blk_cell BK151.out 0).trans rfl; have hcz12_1 : w10.cell? ⟨gb151, 1, none⟩ = some (.int .i64 a0_1) := (blk_cell BK151.out 1).trans rfl; have hcz12_2 : w10.cell? ⟨gb151, 2, none⟩ = some (.int .i64 a0_2) := (blk_cell BK151.out 2).trans rfl; have hcz12_3 : w10.cell? ⟨gb151, 3, none⟩ = some (.int .i64 a0_3) := (blk_cell BK151.out 3).trans rfl; have hcz12_4 : w10.cell? ⟨gb151, 4, none⟩ = some (.int .i64 a0_4) := (blk_cell BK151.out 4).trans rfl; have hfz12_0 := blk_frozen BK151.out 0; have hfz12_1 := blk_frozen BK151.out 1; have hfz12_2 := blk_frozen BK151.out 2; have hfz12_3 := blk_frozen BK151.out 3; have hfz12_4 := blk_frozen BK151.out 4))
      go_meet
      case rel => exact ⟨_, ((a1_0 != a0_1)), (by first | rfl | (simp; done) | (simp [*]; done)), H', ⟨by first | omega | exact Nat.le_refl _⟩, ⟨by (with_reducible repeat (first | refine blk_drewN ?_ _ | refine blk_drew ?_ | refine blk_alloc ?_ _)); exact BK151.out⟩, ⟨by (with_reducible repeat (first | refine blk_drewN ?_ _ | refine blk_drew ?_ | refine blk_alloc ?_ _)); exact BK152.out⟩, ⟨by repeat (first | (with_reducible first | exact HB.out | apply below_alloc | apply pw_below_drewN | apply below_drew1 | refine below_set ?_ GE151.out | refine below_set ?_ GE152.out) | exact HB.out)⟩⟩
    · replace c7 := Bool.eq_false_iff.mpr c7
      subst c7
      have H1 : (ringworkref01_Holds.j0 k true a0_0 a0_1 a0_2 a0_3 a0_4 a1_0 a1_1 a1_2) = some r := by rw [if_neg (show ¬ (false = true) by decide)] at H; exact H
      clear H
      have H := H1
      clear H1
      have H' := Aside0.mk H
      clear H
      have hnb13 := NB152_151.out
      have hnc13 := NB151_152.out
      have hcz14_0 : w5.cell? ⟨gb152, 0, none⟩ = some (.int .i64 a1_0) := (blk_cell BK152.out 0).trans rfl
      have hcz14_1 : w5.cell? ⟨gb152, 1, none⟩ = some (.int .i64 a1_1) := (blk_cell BK152.out 1).trans rfl
      have hcz14_2 : w5.cell? ⟨gb152, 2, none⟩ = some (.string a1_2) := (blk_cell BK152.out 2).trans rfl
      have hfz14_0 := blk_frozen BK152.out 0
      have hfz14_1 := blk_frozen BK152.out 1
      have hfz14_2 := blk_frozen BK152.out 2
      go_wp2_with (first | ((with_reducible refine gate_callee (f := 13) rfl ?_); refine goesL_ (some 6) rfl rfl Tryd.func13 (by kernel_rfl) rfl #[.agg #[.int .i64 a1_0, .int .i64 a1_1, .string a1_2]] rfl (by (try simp only [List.map_toArray, List.map_cons, List.map_nil]); first | done | rfl | (simp only [List.length_drop, List.length_take]; rfl)) ?_; (with_reducible refine (ringworkref01_ValidValue.calls a1_0 a1_1 a1_2 false _ A6.out).mono ?_); rintro e w15 ⟨rfl, hb⟩; refine ⟨_, rfl, ?_⟩; have n0_ := Aside0.mk (blk_below (g := gb151) (o := .cells #[.string a0_0, .int .i64 a0_1, .int .i64 a0_2, .int .i64 a0_3, .int .i64 a0_4] 32 (0, 0)) (by (with_reducible repeat (first | refine blk_drewN ?_ _ | refine blk_drew ?_ | refine blk_alloc ?_ _)); exact BK151.out) hb); have n1_ := Aside0.mk (blk_below (g := gb152) (o := .cells #[.int .i64 a1_0, .int .i64 a1_1, .string a1_2] 29 (0, 0)) (by (with_reducible repeat (first | refine blk_drewN ?_ _ | refine blk_drew ?_ | refine blk_alloc ?_ _)); exact BK152.out) hb); have n2_ := Aside0.mk (below_step (by repeat (first | (with_reducible first | exact HB.out | apply below_alloc | apply pw_below_drewN | apply below_drew1 | refine below_set ?_ GE151.out | refine below_set ?_ GE152.out) | exact HB.out)) hb); clear BK151; clear BK152; clear HB; have BK151 := n0_; have BK152 := n1_; have HB := n2_; clear n0_ n1_ n2_; (try clear hb); (try clear hb2); (try clear hk); (try clear hi)))
      go_meet
      case rel => exact ⟨_, (true), (by first | rfl | (simp; done) | (simp [*]; done)), H', ⟨by first | omega | exact Nat.le_refl _⟩, ⟨by (with_reducible repeat (first | refine blk_drewN ?_ _ | refine blk_drew ?_ | refine blk_alloc ?_ _)); exact BK151.out⟩, ⟨by (with_reducible repeat (first | refine blk_drewN ?_ _ | refine blk_drew ?_ | refine blk_alloc ?_ _)); exact BK152.out⟩, ⟨by repeat (first | (with_reducible first | exact HB.out | apply below_alloc | apply pw_below_drewN | apply below_drew1 | refine below_set ?_ GE151.out | refine below_set ?_ GE152.out) | exact HB.out)⟩⟩
  case rest =>
    clear HC3
    try clear c1
    try clear p2
    try clear c6
    try clear c7
    try clear c8
    try clear c13
    try clear hcz11_0
    try clear hcz11_1
    try clear hcz11_2
    try clear hcz12_0
    try clear hcz12_1
    try clear hcz12_2
    try clear hcz12_3
    try clear hcz12_4
    try clear hcz14_0
    try clear hcz14_1
    try clear hcz14_2
    try clear hcz9_0
    try clear hcz9_1
    try clear hcz9_2
    try clear hfz11_0
    try clear hfz11_1
    try clear hfz11_2
    try clear hfz12_0
    try clear hfz12_1
    try clear hfz12_2
    try clear hfz12_3
    try clear hfz12_4
    try clear hfz14_0
    try clear hfz14_1
    try clear hfz14_2
    try clear hfz9_0
    try clear hfz9_1
    try clear hfz9_2
    obtain ⟨kq, x14_2, rfl, HA, HJ2, BK151, BK152, HB⟩ := hcut
    cases kq with
    | zero => exact absurd HA.out (by simp [ringworkref01_Holds.j0])
    | succ kj2 =>
      have H := HA.out
      clear HA
      simp only [ringworkref01_Holds.j0] at H
      by_cases c16 : x14_2 = true
      · subst c16
        have H1 : (some false) = some r := by rw [if_pos rfl] at H; exact H
        clear H
        have H := H1
        clear H1
        obtain rfl := Option.some.inj H
        go_wp2
        go_ret
        exact ⟨by first | rfl | (simp [errW_none, errW_some] <;> rfl) | (simp [*, errW_none, errW_some] <;> rfl), by repeat (first | (with_reducible first | exact HB.out | apply below_alloc | apply pw_below_drewN | apply below_drew1 | refine below_set ?_ GE151.out | refine below_set ?_ GE152.out) | exact HB.out)⟩
      · replace c16 := Bool.eq_false_iff.mpr c16
        subst c16
        have H1 : (if a1_0 = 1 then (if a0_2 ≤ a1_1 then (some (decide (a1_1 ≤ a0_3))) else (some false)) else (some (decide ((a1_2.size : Int) ≤ a0_4)))) = some r := by rw [if_neg (show ¬ (false = true) by decide)] at H; exact H
        clear H
        have H := H1
        clear H1
        by_cases c17 : a1_0 = 1
        · rw [if_pos c17] at H
          have c17b0 : (a1_0 == 1) = true := beq_iff_eq.mpr c17
          have c17b1 : (a1_0 != 1) = false := bne_eq_false_iff_eq.mpr c17
          clear c17
          by_cases c18 : a0_2 ≤ a1_1
          · rw [if_pos c18] at H
            have c18b0 : decide (a0_2 ≤ a1_1) = true := decide_eq_true c18
            clear c18
            obtain rfl := Option.some.inj H
            have hnb19 := NB152_151.out
            have hnc19 := NB151_152.out
            have hcz20_0 : wc.cell? ⟨gb152, 0, none⟩ = some (.int .i64 a1_0) := (blk_cell BK152.out 0).trans rfl
            have hcz20_1 : wc.cell? ⟨gb152, 1, none⟩ = some (.int .i64 a1_1) := (blk_cell BK152.out 1).trans rfl
            have hcz20_2 : wc.cell? ⟨gb152, 2, none⟩ = some (.string a1_2) := (blk_cell BK152.out 2).trans rfl
            have hfz20_0 := blk_frozen BK152.out 0
            have hfz20_1 := blk_frozen BK152.out 1
            have hfz20_2 := blk_frozen BK152.out 2
            have hcz21_0 : wc.cell? ⟨gb151, 0, none⟩ = some (.string a0_0) := (blk_cell BK151.out 0).trans rfl
            have hcz21_1 : wc.cell? ⟨gb151, 1, none⟩ = some (.int .i64 a0_1) := (blk_cell BK151.out 1).trans rfl
            have hcz21_2 : wc.cell? ⟨gb151, 2, none⟩ = some (.int .i64 a0_2) := (blk_cell BK151.out 2).trans rfl
            have hcz21_3 : wc.cell? ⟨gb151, 3, none⟩ = some (.int .i64 a0_3) := (blk_cell BK151.out 3).trans rfl
            have hcz21_4 : wc.cell? ⟨gb151, 4, none⟩ = some (.int .i64 a0_4) := (blk_cell BK151.out 4).trans rfl
            have hfz21_0 := blk_frozen BK151.out 0
            have hfz21_1 := blk_frozen BK151.out 1
            have hfz21_2 := blk_frozen BK151.out 2
            have hfz21_3 := blk_frozen BK151.out 3
            have hfz21_4 := blk_frozen BK151.out 4
            go_wp2
            go_ret
            exact ⟨by first | rfl | (simp [errW_none, errW_some] <;> rfl) | (simp [*, errW_none, errW_some] <;> rfl), by repeat (first | (with_reducible first | exact HB.out | apply below_alloc | apply pw_below_drewN | apply below_drew1 | refine below_set ?_ GE151.out | refine below_set ?_ GE152.out) | exact HB.out)⟩
          · rw [if_neg c18] at H
            have c18b0 : decide (a0_2 ≤ a1_1) = false := decide_eq_false c18
            clear c18
            obtain rfl := Option.some.inj H
            have hnb22 := NB152_151.out
            have hnc22 := NB151_152.out
            have hcz23_0 : wc.cell? ⟨gb152, 0, none⟩ = some (.int .i64 a1_0) := (blk_cell BK152.out 0).trans rfl
            have hcz23_1 : wc.cell? ⟨gb152, 1, none⟩ = some (.int .i64 a1_1) := (blk_cell BK152.out 1).trans rfl
            have hcz23_2 : wc.cell? ⟨gb152, 2, none⟩ = some (.string a1_2) := (blk_cell BK152.out 2).trans rfl
            have hfz23_0 := blk_frozen BK152.out 0
            have hfz23_1 := blk_frozen BK152.out 1
            have hfz23_2 := blk_frozen BK152.out 2
            have hcz24_0 : wc.cell? ⟨gb151, 0, none⟩ = some (.string a0_0) := (blk_cell BK151.out 0).trans rfl
            have hcz24_1 : wc.cell? ⟨gb151, 1, none⟩ = some (.int .i64 a0_1) := (blk_cell BK151.out 1).trans rfl
            have hcz24_2 : wc.cell? ⟨gb151, 2, none⟩ = some (.int .i64 a0_2) := (blk_cell BK151.out 2).trans rfl
            have hcz24_3 : wc.cell? ⟨gb151, 3, none⟩ = some (.int .i64 a0_3) := (blk_cell BK151.out 3).trans rfl
            have hcz24_4 : wc.cell? ⟨gb151, 4, none⟩ = some (.int .i64 a0_4) := (blk_cell BK151.out 4).trans rfl
            have hfz24_0 := blk_frozen BK151.out 0
            have hfz24_1 := blk_frozen BK151.out 1
            have hfz24_2 := blk_frozen BK151.out 2
            have hfz24_3 := blk_frozen BK151.out 3
            have hfz24_4 := blk_frozen BK151.out 4
            go_wp2
            go_ret
            exact ⟨by first | rfl | (simp [errW_none, errW_some] <;> rfl) | (simp [*, errW_none, errW_some] <;> rfl), by repeat (first | (with_reducible first | exact HB.out | apply below_alloc | apply pw_below_drewN | apply below_drew1 | refine below_set ?_ GE151.out | refine below_set ?_ GE152.out) | exact HB.out)⟩
        · rw [if_neg c17] at H
          have c17b0 : (a1_0 == 1) = false := beq_eq_false_iff_ne.mpr c17
          have c17b1 : (a1_0 != 1) = true := bne_iff_ne.mpr c17
          obtain rfl := Option.some.inj H
          have hnb25 := NB152_151.out
          have hnc25 := NB151_152.out
          have hcz26_0 : wc.cell? ⟨gb152, 0, none⟩ = some (.int .i64 a1_0) := (blk_cell BK152.out 0).trans rfl
          have hcz26_1 : wc.cell? ⟨gb152, 1, none⟩ = some (.int .i64 a1_1) := (blk_cell BK152.out 1).trans rfl
          have hcz26_2 : wc.cell? ⟨gb152, 2, none⟩ = some (.string a1_2) := (blk_cell BK152.out 2).trans rfl
          have hfz26_0 := blk_frozen BK152.out 0
          have hfz26_1 := blk_frozen BK152.out 1
          have hfz26_2 := blk_frozen BK152.out 2
          have hcz27_0 : wc.cell? ⟨gb151, 0, none⟩ = some (.string a0_0) := (blk_cell BK151.out 0).trans rfl
          have hcz27_1 : wc.cell? ⟨gb151, 1, none⟩ = some (.int .i64 a0_1) := (blk_cell BK151.out 1).trans rfl
          have hcz27_2 : wc.cell? ⟨gb151, 2, none⟩ = some (.int .i64 a0_2) := (blk_cell BK151.out 2).trans rfl
          have hcz27_3 : wc.cell? ⟨gb151, 3, none⟩ = some (.int .i64 a0_3) := (blk_cell BK151.out 3).trans rfl
          have hcz27_4 : wc.cell? ⟨gb151, 4, none⟩ = some (.int .i64 a0_4) := (blk_cell BK151.out 4).trans rfl
          have hfz27_0 := blk_frozen BK151.out 0
          have hfz27_1 := blk_frozen BK151.out 1
          have hfz27_2 := blk_frozen BK151.out 2
          have hfz27_3 := blk_frozen BK151.out 3
          have hfz27_4 := blk_frozen BK151.out 4
          go_wp2
          go_ret
          exact ⟨by first | rfl | (simp [errW_none, errW_some] <;> rfl) | (simp [*, errW_none, errW_some] <;> rfl), by repeat (first | (with_reducible first | exact HB.out | apply below_alloc | apply pw_below_drewN | apply below_drew1 | refine below_set ?_ GE151.out | refine below_set ?_ GE152.out) | exact HB.out)⟩

end Go.Proofs.YtibgjfeifpanhaaDoor.PItemValid

namespace Go.Proofs.YtibgjfeifpanhaaDoor.PItemValid
open Go.RowKit Go.Proofs.YtibgjfeifpanhaaDoorW.PrintWords Go.Proofs.YtibgjfeifpanhaaDoorW.PrintLast Go.Proofs.YtibgjfeifpanhaaDoorW.PrintMore
attribute [local go_sem] max2_int min2_int max_two min_two max_three min_three max_four min_four   -- for this text's walks alone
set_option linter.unusedVariables false
set_option linter.unusedSimpArgs false

/-! ### ringworkref01_Fits: function 23 -/
mutual
def ringworkref01_Fits.j0 : Nat → List (S32) → List (S29) → Bool → Option (Bool)
  | 0, _, _, _ => none
  | k + 1, x0, x1, x15 => if x15 = true then (some false) else (ringworkref01_Fits.l0 k x0 x1 0)
def ringworkref01_Fits.l0 : Nat → List (S32) → List (S29) → Int → Option (Bool)
  | 0, _, _, _ => none
  | k + 1, x0, x1, x5 => if x5 < (x0.length : Int) then (if 0 ≤ x5 then (if x5 < (x1.length : Int) then ((ringworkref01_Holds.f k ((rd_T32 x0 x5).f0) ((rd_T32 x0 x5).f1) ((rd_T32 x0 x5).f2) ((rd_T32 x0 x5).f3) ((rd_T32 x0 x5).f4) ((rd_T29 x1 x5).f0) ((rd_T29 x1 x5).f1) ((rd_T29 x1 x5).f2)).bind fun t157 => (if t157 = true then (ringworkref01_Fits.l0 k x0 x1 (wrap64 (x5 + 1))) else (some false))) else (none)) else (none)) else (some true)
end
def ringworkref01_Fits.f (k : Nat) (l0 : List (S32)) (l1 : List (S29)) : Option (Bool) := (ringworkref01_ValidItems.f k l0).bind fun t154 => (if t154 = true then (ringworkref01_Fits.j0 k l0 l1 ((l1.length : Int) != (l0.length : Int))) else (ringworkref01_Fits.j0 k l0 l1 true))
theorem ringworkref01_Fits.mono_l : ∀ k, (∀ y0 y1 y2, LeO (ringworkref01_Fits.j0 k y0 y1 y2) (ringworkref01_Fits.j0 (k + 1) y0 y1 y2)) ∧ (∀ y0 y1 y2, LeO (ringworkref01_Fits.l0 k y0 y1 y2) (ringworkref01_Fits.l0 (k + 1) y0 y1 y2))
  | 0 => ⟨fun _ _ _ r h => by simp [ringworkref01_Fits.j0] at h, fun _ _ _ r h => by simp [ringworkref01_Fits.l0] at h⟩
  | k + 1 => by
    obtain ⟨ih0, ih1⟩ := ringworkref01_Fits.mono_l k
    refine ⟨?_, ?_⟩
    · intro y0 y1 y2
      unfold ringworkref01_Fits.j0
      repeat' first
      | (with_reducible exact ih0 _ _ _)
      | (with_reducible exact ih1 _ _ _)
      | (with_reducible exact ringworkref01_Holds.mono _ _ _ _ _ _ _ _ _)
      | (with_reducible exact ringworkref01_ValidItems.mono _ _)
      | (with_reducible exact LeO.refl _)
      | (with_reducible exact LeO.none _)
      | (with_reducible refine LeO.ite ?_ ?_)
      | (with_reducible refine LeO.bind ?_ (fun _ => ?_))
      | exact ih0 _ _ _
      | exact ih1 _ _ _
      | exact ringworkref01_Holds.mono _ _ _ _ _ _ _ _ _
      | exact ringworkref01_ValidItems.mono _ _
      | exact LeO.none _
      | refine LeO.ite ?_ ?_
      | refine LeO.bind ?_ (fun _ => ?_)
    · intro y0 y1 y2
      unfold ringworkref01_Fits.l0
      repeat' first
      | (with_reducible exact ih0 _ _ _)
      | (with_reducible exact ih1 _ _ _)
      | (with_reducible exact ringworkref01_Holds.mono _ _ _ _ _ _ _ _ _)
      | (with_reducible exact ringworkref01_ValidItems.mono _ _)
      | (with_reducible exact LeO.refl _)
      | (with_reducible exact LeO.none _)
      | (with_reducible refine LeO.ite ?_ ?_)
      | (with_reducible refine LeO.bind ?_ (fun _ => ?_))
      | exact ih0 _ _ _
      | exact ih1 _ _ _
      | exact ringworkref01_Holds.mono _ _ _ _ _ _ _ _ _
      | exact ringworkref01_ValidItems.mono _ _
      | exact LeO.none _
      | refine LeO.ite ?_ ?_
      | refine LeO.bind ?_ (fun _ => ?_)
theorem ringworkref01_Fits.mono : ∀ a0 a1 k, LeO (ringworkref01_Fits.f k a0 a1) (ringworkref01_Fits.f (k + 1) a0 a1) := by
  intro a0 a1 k
  obtain ⟨ih0, ih1⟩ := ringworkref01_Fits.mono_l k
  unfold ringworkref01_Fits.f
  repeat' first
      | (with_reducible exact ih0 _ _ _)
      | (with_reducible exact ih1 _ _ _)
      | (with_reducible exact ringworkref01_Holds.mono _ _ _ _ _ _ _ _ _)
      | (with_reducible exact ringworkref01_ValidItems.mono _ _)
      | (with_reducible exact LeO.refl _)
      | (with_reducible exact LeO.none _)
      | (with_reducible refine LeO.ite ?_ ?_)
      | (with_reducible refine LeO.bind ?_ (fun _ => ?_))
      | exact ih0 _ _ _
      | exact ih1 _ _ _
      | exact ringworkref01_Holds.mono _ _ _ _ _ _ _ _ _
      | exact ringworkref01_ValidItems.mono _ _
      | exact LeO.none _
      | refine LeO.ite ?_ ?_
      | refine LeO.bind ?_ (fun _ => ?_)
def ringworkref01_Fits.T6 : Bool × List (List Nat × List Nat) := (true, [([], []), ([], []), ([0, 1], [0, 1]), ([2], [2]), ([], []), ([], []), ([4, 5], [4, 5]), ([6], [6]), ([3, 7], [3, 7]), ([8], [8])])
def ringworkref01_Fits.B6 : List Nat := [0, 0, 3, 7, 0, 0, 48, 112, 255, 511]
theorem ringworkref01_Fits.tab6 : rtab .any (opsOf Tryd.f23 6) = ringworkref01_Fits.T6 := by kernel_rfl
theorem ringworkref01_Fits.bits6 : waitsOk ringworkref01_Fits.T6.2 ringworkref01_Fits.B6 = true := by kernel_rfl
set_option maxHeartbeats 8000000 in
set_option maxRecDepth 100000 in
theorem ringworkref01_Fits.calls (k : Nat) (A0 : Option Addr) (c0 : Nat) (l0 : List (S32)) (A1 : Option Addr) (c1 : Nat) (l1 : List (S29)) (r : Bool) (w : World) (hr0 : Kd.C k32 w A0 l0.length l0) (hc0 : l0.length ≤ c0) (hr1 : Kd.C k29 w A1 l1.length l1) (hc1 : l1.length ≤ c1) (h : ringworkref01_Fits.f k l0 l1 = some r) :
    Calls Tryd.prog 23 #[.slice A0 l0.length c0, .slice A1 l1.length c1] w fun e w' => e = .returned (.bool r) ∧ Below w.heap.size w w' := by
  have hu32 := Tryd.underlying32
  have hu29 := Tryd.underlying29
  have HR0 := Aside0.mk hr0
  have HC0 := Aside0.mk hc0
  clear hr0 hc0
  have HR1 := Aside0.mk hr1
  have HC1 := Aside0.mk hc1
  clear hr1 hc1
  have HB := Aside0.mk (Below.refl w.heap.size w)
  have H : ((ringworkref01_ValidItems.f k l0).bind fun t154 => (if t154 = true then (ringworkref01_Fits.j0 k l0 l1 ((l1.length : Int) != (l0.length : Int))) else (ringworkref01_Fits.j0 k l0 l1 true))) = some r := h
  clear h
  have HC3 := Aside0.mk H
  clear H
  go_enter Tryd.func23, Tryd.ntmps23
  go_upto_region 1 with (fail)
  go_cut [15] (fun v15 wc => ∃ (kq : Nat) (x15_2 : Bool), v15 = .bool x15_2 ∧ Aside0 (ringworkref01_Fits.j0 kq l0 l1 x15_2 = some r) ∧ Aside0 (kq ≤ k) ∧ Aside0 (Below w.heap.size w wc))
  case first =>
    have H := HC3.out
    clear HC3
    replace H := Option.bind_eq_some_iff.mp H
    obtain ⟨t154, A40, H⟩ := H
    replace H : (if t154 = true then (ringworkref01_Fits.j0 k l0 l1 ((l1.length : Int) != (l0.length : Int))) else (ringworkref01_Fits.j0 k l0 l1 true)) = some r := H
    have A4 := Aside0.mk A40
    clear A40
    by_cases c5 : t154 = true
    · subst c5
      have H1 : (ringworkref01_Fits.j0 k l0 l1 ((l1.length : Int) != (l0.length : Int))) = some r := by rw [if_pos rfl] at H; exact H
      clear H
      have H := H1
      clear H1
      have H' := Aside0.mk H
      clear H
      go_wp2_with (first | ((with_reducible refine gate_callee (f := 21) rfl ?_); refine goesL_ (some 7) rfl rfl Tryd.func21 (by kernel_rfl) rfl #[.slice A0 l0.length c0] rfl (by (try simp only [List.map_toArray, List.map_cons, List.map_nil]); first | done | rfl | (simp only [List.length_drop, List.length_take]; rfl)) ?_; (with_reducible refine (ringworkref01_ValidItems.calls k _ _ l0 true _ ?side1 ?side2 A4.out).mono ?_); (case side1 => repeat (first | exact (Kd.C_below HR0.out HB.out) | (with_reducible refine Kd.C_alloc ?_ _) | (with_reducible refine Kd.C_drewN ?_ _) | (with_reducible refine Kd.C_drew ?_))); (case side2 => exact HC0.out); rintro e w6 ⟨rfl, hb⟩; refine ⟨_, rfl, ?_⟩; have n0_ := Aside0.mk (below_step (by repeat (first | (with_reducible first | exact HB.out | apply below_alloc | apply pw_below_drewN | apply below_drew1) | exact HB.out)) hb); clear HB; have HB := n0_; clear n0_; (try clear hb); (try clear hb2); (try clear hk); (try clear hi)))
      go_meet
      case rel => exact ⟨_, (((l1.length : Int) != (l0.length : Int))), (by first | rfl | (simp; done) | (simp [*]; done)), H', ⟨by first | omega | exact Nat.le_refl _⟩, ⟨by repeat (first | (with_reducible first | exact HB.out | apply below_alloc | apply pw_below_drewN | apply below_drew1) | exact HB.out)⟩⟩
    · replace c5 := Bool.eq_false_iff.mpr c5
      subst c5
      have H1 : (ringworkref01_Fits.j0 k l0 l1 true) = some r := by rw [if_neg (show ¬ (false = true) by decide)] at H; exact H
      clear H
      have H := H1
      clear H1
      have H' := Aside0.mk H
      clear H
      go_wp2_with (first | ((with_reducible refine gate_callee (f := 21) rfl ?_); refine goesL_ (some 7) rfl rfl Tryd.func21 (by kernel_rfl) rfl #[.slice A0 l0.length c0] rfl (by (try simp only [List.map_toArray, List.map_cons, List.map_nil]); first | done | rfl | (simp only [List.length_drop, List.length_take]; rfl)) ?_; (with_reducible refine (ringworkref01_ValidItems.calls k _ _ l0 false _ ?side1 ?side2 A4.out).mono ?_); (case side1 => repeat (first | exact (Kd.C_below HR0.out HB.out) | (with_reducible refine Kd.C_alloc ?_ _) | (with_reducible refine Kd.C_drewN ?_ _) | (with_reducible refine Kd.C_drew ?_))); (case side2 => exact HC0.out); rintro e w7 ⟨rfl, hb⟩; refine ⟨_, rfl, ?_⟩; have n0_ := Aside0.mk (below_step (by repeat (first | (with_reducible first | exact HB.out | apply below_alloc | apply pw_below_drewN | apply below_drew1) | exact HB.out)) hb); clear HB; have HB := n0_; clear n0_; (try clear hb); (try clear hb2); (try clear hk); (try clear hi)))
      go_meet
      case rel => exact ⟨_, (true), (by first | rfl | (simp; done) | (simp [*]; done)), H', ⟨by first | omega | exact Nat.le_refl _⟩, ⟨by repeat (first | (with_reducible first | exact HB.out | apply below_alloc | apply pw_below_drewN | apply below_drew1) | exact HB.out)⟩⟩
  case rest =>
    clear HC3
    try clear c1
    try clear c2
    try clear p2
    try clear c5
    obtain ⟨kq, x15_2, rfl, HA, HJ2, HB⟩ := hcut
    cases kq with
    | zero => exact absurd HA.out (by simp [ringworkref01_Fits.j0])
    | succ kj2 =>
      have H := HA.out
      clear HA
      simp only [ringworkref01_Fits.j0] at H
      by_cases c8 : x15_2 = true
      · subst c8
        have H1 : (some false) = some r := by rw [if_pos rfl] at H; exact H
        clear H
        have H := H1
        clear H1
        obtain rfl := Option.some.inj H
        go_wp2
        go_ret
        exact ⟨by first | rfl | (simp [errW_none, errW_some] <;> rfl) | (simp [*, errW_none, errW_some] <;> rfl), by repeat (first | (with_reducible first | exact HB.out | apply below_alloc | apply pw_below_drewN | apply below_drew1) | exact HB.out)⟩
      · replace c8 := Bool.eq_false_iff.mpr c8
        subst c8
        have H1 : (ringworkref01_Fits.l0 kj2 l0 l1 0) = some r := by rw [if_neg (show ¬ (false = true) by decide)] at H; exact H
        clear H
        have H := H1
        clear H1
        have H' := Aside0.mk H
        clear H
        go_wp2
        go_loopg [5] kj2 (fun kq v5 w' => ∃ (x5_2 : Int), v5 = .int .i64 x5_2 ∧ Aside0 (ringworkref01_Fits.l0 kq l0 l1 x5_2 = some r) ∧ Aside0 (kq ≤ kj2) ∧ Aside0 (Below w.heap.size w w'))
        case atStart => exact ⟨(0), (by first | rfl | (simp; done) | (simp [*]; done)), H', ⟨Nat.le_refl _⟩, ⟨by repeat (first | (with_reducible first | exact HB.out | apply below_alloc | apply pw_below_drewN | apply below_drew1) | exact HB.out)⟩⟩
        case round =>
          clear H'
          try clear c1
          try clear c2
          try clear p2
          try clear c5
          try clear c8
          try clear p2
          obtain ⟨x5_2, rfl, HA, HK2, HB⟩ := hrel
          cases gk with
          | zero => exact absurd HA.out (by simp [ringworkref01_Fits.l0])
          | succ k2 =>
            have H := HA.out
            clear HA
            simp only [ringworkref01_Fits.l0] at H
            by_cases c9 : x5_2 < (l0.length : Int)
            · rw [if_pos c9] at H
              have c9b0 : decide (x5_2 < (l0.length : Int)) = true := decide_eq_true c9
              clear c9
              by_cases c10 : 0 ≤ x5_2
              · rw [if_pos c10] at H
                have c10b0 : decide (0 ≤ x5_2) = true := decide_eq_true c10
                clear c10
                by_cases c11 : x5_2 < (l1.length : Int)
                · rw [if_pos c11] at H
                  have c11b0 : decide (x5_2 < (l1.length : Int)) = true := decide_eq_true c11
                  clear c11
                  replace H := Option.bind_eq_some_iff.mp H
                  obtain ⟨t157, A120, H⟩ := H
                  replace H : (if t157 = true then (ringworkref01_Fits.l0 k2 l0 l1 (wrap64 (x5_2 + 1))) else (some false)) = some r := H
                  have A12 := Aside0.mk A120
                  clear A120
                  by_cases c13 : t157 = true
                  · subst c13
                    have H1 : (ringworkref01_Fits.l0 k2 l0 l1 (wrap64 (x5_2 + 1))) = some r := by rw [if_pos rfl] at H; exact H
                    clear H
                    have H := H1
                    clear H1
                    have H' := Aside0.mk H
                    clear H
                    try go_wp2
                    have n0_ := Aside0.mk (below_drew1 HB.out)
                    clear HB
                    have HB := n0_
                    clear n0_
                    have p155 : 0 ≤ (x5_2 : Int) := of_decide_eq_true (by first | (with_reducible assumption) | assumption)
                    have q155 : x5_2 < (l0.length : Int) := of_decide_eq_true (by first | (with_reducible assumption) | assumption)
                    obtain ⟨ad155, e155, hx155_0, hx155_1, hx155_2, hx155_3, hx155_4⟩ := at_T32 HR0.out x5_2 p155 q155
                    have hw155_4 := hx155_4
                    have hw155_3 := hx155_3
                    have hw155_2 := hx155_2
                    have hw155_1 := hx155_1
                    have hw155_0 := hx155_0
                    cases e155
                    replace hx155_0 := (HB.out.cell (World.block_lt_of_cell? w _ hx155_0)).trans hx155_0
                    replace hx155_1 := (HB.out.cell (World.block_lt_of_cell? w _ hx155_1)).trans hx155_1
                    replace hx155_2 := (HB.out.cell (World.block_lt_of_cell? w _ hx155_2)).trans hx155_2
                    replace hx155_3 := (HB.out.cell (World.block_lt_of_cell? w _ hx155_3)).trans hx155_3
                    replace hx155_4 := (HB.out.cell (World.block_lt_of_cell? w _ hx155_4)).trans hx155_4
                    replace p155 := eq_true p155
                    replace q155 := eq_true q155
                    have p156 : 0 ≤ (x5_2 : Int) := of_decide_eq_true (by first | (with_reducible assumption) | assumption)
                    have q156 : x5_2 < (l1.length : Int) := of_decide_eq_true (by first | (with_reducible assumption) | assumption)
                    obtain ⟨ad156, e156, hx156_0, hx156_1, hx156_2⟩ := at_T29 HR1.out x5_2 p156 q156
                    have hw156_2 := hx156_2
                    have hw156_1 := hx156_1
                    have hw156_0 := hx156_0
                    cases e156
                    replace hx156_0 := (HB.out.cell (World.block_lt_of_cell? w _ hx156_0)).trans hx156_0
                    replace hx156_1 := (HB.out.cell (World.block_lt_of_cell? w _ hx156_1)).trans hx156_1
                    replace hx156_2 := (HB.out.cell (World.block_lt_of_cell? w _ hx156_2)).trans hx156_2
                    replace p156 := eq_true p156
                    replace q156 := eq_true q156
                    refine start_ (n := 10) (S := fun w' => w'.cell? (ad155.add ((x5_2).toNat * 5)) = some (.string ((rd_T32 l0 x5_2).f0)) ∧ w'.cell? ⟨(ad155.add ((x5_2).toNat * 5)).block, (ad155.add ((x5_2).toNat * 5)).off + 1, none⟩ = some (.int .i64 ((rd_T32 l0 x5_2).f1)) ∧ w'.cell? ⟨(ad155.add ((x5_2).toNat * 5)).block, (ad155.add ((x5_2).toNat * 5)).off + 2, none⟩ = some (.int .i64 ((rd_T32 l0 x5_2).f2)) ∧ w'.cell? ⟨(ad155.add ((x5_2).toNat * 5)).block, (ad155.add ((x5_2).toNat * 5)).off + 3, none⟩ = some (.int .i64 ((rd_T32 l0 x5_2).f3)) ∧ w'.cell? ⟨(ad155.add ((x5_2).toNat * 5)).block, (ad155.add ((x5_2).toNat * 5)).off + 4, none⟩ = some (.int .i64 ((rd_T32 l0 x5_2).f4)) ∧ w'.cell? (ad156.add ((x5_2).toNat * 3)) = some (.int .i64 ((rd_T29 l1 x5_2).f0)) ∧ w'.cell? ⟨(ad156.add ((x5_2).toNat * 3)).block, (ad156.add ((x5_2).toNat * 3)).off + 1, none⟩ = some (.int .i64 ((rd_T29 l1 x5_2).f1)) ∧ w'.cell? ⟨(ad156.add ((x5_2).toNat * 3)).block, (ad156.add ((x5_2).toNat * 3)).off + 2, none⟩ = some (.string ((rd_T29 l1 x5_2).f2))) (ds := []) #[false, false, false, false, false, false, false, false, false, false] (by kernel_rfl) rfl rfl ⟨((HB.out.cell (World.block_lt_of_cell? w _ hw155_0)).trans hw155_0), ((HB.out.cell (World.block_lt_of_cell? w _ hw155_1)).trans hw155_1), ((HB.out.cell (World.block_lt_of_cell? w _ hw155_2)).trans hw155_2), ((HB.out.cell (World.block_lt_of_cell? w _ hw155_3)).trans hw155_3), ((HB.out.cell (World.block_lt_of_cell? w _ hw155_4)).trans hw155_4), ((HB.out.cell (World.block_lt_of_cell? w _ hw156_0)).trans hw156_0), ((HB.out.cell (World.block_lt_of_cell? w _ hw156_1)).trans hw156_1), ((HB.out.cell (World.block_lt_of_cell? w _ hw156_2)).trans hw156_2)⟩ (fun hHeld => ?_); refine with_tabW ringworkref01_Fits.tab6 ringworkref01_Fits.bits6 (fun HT_ HW_ => ?_)
                    generalize wr.drew = w14 at HB hx155_0 hx155_1 hx155_2 hx155_3 hx155_4 hx156_0 hx156_1 hx156_2 hHeld ⊢
                    refine pure_ (i := 0) (N := some 22) (v := ?_) (a' := ?_) #[true, false, false, false, false, false, false, false, false, false] rfl rfl (any_of HT_.out (by kernel_rfl)) (fun _ _ _ h => h) (Or.inl ⟨by rfl, ?_⟩) ?_ ?_
                    rotate_left
                    · intro w'
                      go_simp
                      with_reducible rfl
                    rotate_left
                    · simp only [Act.put, List.setIfInBounds_toArray, List.set_cons_zero, List.set_cons_succ, i64_w, i32_w]
                      rfl
                    refine pure_ (i := 1) (N := some 23) (v := ?_) (a' := ?_) #[true, true, false, false, false, false, false, false, false, false] rfl rfl (any_of HT_.out (by kernel_rfl)) (fun _ _ _ h => h) (Or.inl ⟨by rfl, ?_⟩) ?_ ?_
                    rotate_left
                    · intro w'
                      go_simp
                      with_reducible rfl
                    rotate_left
                    · simp only [Act.put, List.setIfInBounds_toArray, List.set_cons_zero, List.set_cons_succ, i64_w, i32_w]
                      rfl
                    refine pure_ (i := 2) (N := some 24) (v := ?_) (a' := ?_) #[true, true, true, false, false, false, false, false, false, false] rfl rfl (any_of HT_.out (by kernel_rfl)) (fun _ _ _ h => h) (Or.inl ⟨by rfl, ?_⟩) ?_ ?_
                    rotate_left
                    · intro w'
                      go_simp
                      with_reducible rfl
                    rotate_left
                    · simp only [Act.put, List.setIfInBounds_toArray, List.set_cons_zero, List.set_cons_succ, i64_w, i32_w]
                      rfl
                    refine pure_ (i := 4) (N := some 26) (v := ?_) (a' := ?_) #[true, true, true, false, true, false, false, false, false, false] rfl rfl (any_of HT_.out (by kernel_rfl)) (fun _ _ _ h => h) (Or.inl ⟨by rfl, ?_⟩) ?_ ?_
                    rotate_left
                    · intro w'
                      go_simp
                      with_reducible rfl
                    rotate_left
                    · simp only [Act.put, List.setIfInBounds_toArray, List.set_cons_zero, List.set_cons_succ, i64_w, i32_w]
                      rfl
                    refine pure_ (i := 5) (N := some 27) (v := ?_) (a' := ?_) #[true, true, true, false, true, true, false, false, false, false] rfl rfl (any_of HT_.out (by kernel_rfl)) (fun _ _ _ h => h) (Or.inl ⟨by rfl, ?_⟩) ?_ ?_
                    rotate_left
                    · intro w'
                      go_simp
                      with_reducible rfl
                    rotate_left
                    · simp only [Act.put, List.setIfInBounds_toArray, List.set_cons_zero, List.set_cons_succ, i64_w, i32_w]
                      rfl
                    refine pure_ (i := 6) (N := some 28) (v := ?_) (a' := ?_) #[true, true, true, false, true, true, true, false, false, false] rfl rfl (any_of HT_.out (by kernel_rfl)) (fun _ _ _ h => h) (Or.inl ⟨by rfl, ?_⟩) ?_ ?_
                    rotate_left
                    · intro w'
                      go_simp
                      with_reducible rfl
                    rotate_left
                    · simp only [Act.put, List.setIfInBounds_toArray, List.set_cons_zero, List.set_cons_succ, i64_w, i32_w]
                      rfl
                    refine take_ (i := 3) (N := some 25) (v := ?_) (a' := ?_) #[true, true, true, true, true, true, true, false, false, false] rfl rfl (take_ofW HT_.out HW_.out (by kernel_rfl)) (fun _ _ _ h => h) (Or.inl ⟨by rfl, ?_⟩) hHeld ?_ ?_
                    rotate_left
                    · rintro w' ⟨s0, s1, s2, s3, s4, s5, s6, s7⟩
                      go_simp
                      with_reducible rfl
                    rotate_left
                    · simp only [Act.put, List.setIfInBounds_toArray, List.set_cons_zero, List.set_cons_succ, i64_w, i32_w]
                      rfl
                    refine take_ (i := 7) (N := some 29) (v := ?_) (a' := ?_) #[true, true, true, true, true, true, true, true, false, false] rfl rfl (take_ofW HT_.out HW_.out (by kernel_rfl)) (fun _ _ _ h => h) (Or.inl ⟨by rfl, ?_⟩) hHeld ?_ ?_
                    rotate_left
                    · rintro w' ⟨s0, s1, s2, s3, s4, s5, s6, s7⟩
                      go_simp
                      with_reducible rfl
                    rotate_left
                    · simp only [Act.put, List.setIfInBounds_toArray, List.set_cons_zero, List.set_cons_succ, i64_w, i32_w]
                      rfl
                    refine one_ (i := 8) (N := some 30) #[true, true, true, true, true, true, true, true, true, false] rfl rfl (one_of HT_.out (by kernel_rfl)) (by decide) (fun K hK => ?_)
                    refine goes_ Tryd.func63 (by kernel_rfl) rfl #[.agg #[.string ((rd_T32 l0 x5_2).f0), .int .i64 ((rd_T32 l0 x5_2).f1), .int .i64 ((rd_T32 l0 x5_2).f2), .int .i64 ((rd_T32 l0 x5_2).f3), .int .i64 ((rd_T32 l0 x5_2).f4)], .agg #[.int .i64 ((rd_T29 l1 x5_2).f0), .int .i64 ((rd_T29 l1 x5_2).f1), .string ((rd_T29 l1 x5_2).f2)]] (by rfl) rfl rfl (by (try simp only [List.map_toArray, List.map_cons, List.map_nil]); first | done | rfl | (simp only [List.length_drop, List.length_take]; rfl)) ?_
                    with_reducible refine (ringworkref01_Holds.calls k2 ((rd_T32 l0 x5_2).f0) ((rd_T32 l0 x5_2).f1) ((rd_T32 l0 x5_2).f2) ((rd_T32 l0 x5_2).f3) ((rd_T32 l0 x5_2).f4) ((rd_T29 l1 x5_2).f0) ((rd_T29 l1 x5_2).f1) ((rd_T29 l1 x5_2).f2) true _ A12.out).mono ?_
                    rintro e w15 ⟨rfl, hb⟩
                    refine ⟨_, rfl, ?_⟩
                    have n0_ := Aside0.mk (below_step (by repeat (first | (with_reducible first | exact HB.out | apply below_alloc | apply pw_below_drewN | apply below_drew1) | exact HB.out)) hb)
                    clear HB
                    have HB := n0_
                    clear n0_
                    (try clear hb)
                    (try clear hb2)
                    (try clear hk)
                    (try clear hi)
                    refine hK.out _ _ ⟨((HB.out.cell (World.block_lt_of_cell? w _ hw155_0)).trans hw155_0), ((HB.out.cell (World.block_lt_of_cell? w _ hw155_1)).trans hw155_1), ((HB.out.cell (World.block_lt_of_cell? w _ hw155_2)).trans hw155_2), ((HB.out.cell (World.block_lt_of_cell? w _ hw155_3)).trans hw155_3), ((HB.out.cell (World.block_lt_of_cell? w _ hw155_4)).trans hw155_4), ((HB.out.cell (World.block_lt_of_cell? w _ hw156_0)).trans hw156_0), ((HB.out.cell (World.block_lt_of_cell? w _ hw156_1)).trans hw156_1), ((HB.out.cell (World.block_lt_of_cell? w _ hw156_2)).trans hw156_2)⟩ (fun hHeld => ?_)
                    clear hK K
                    refine norm_ (a' := ?_) ?_ ?_
                    rotate_left
                    · show Act.put _ (some 30) _ = _
                      simp only [Act.put, List.setIfInBounds_toArray, List.set_cons_zero, List.set_cons_succ, i64_w, i32_w]
                      rfl
                    refine pure_ (i := 9) (N := some 31) (v := ?_) (a' := ?_) #[true, true, true, true, true, true, true, true, true, true] rfl rfl (any_of HT_.out (by kernel_rfl)) (fun _ _ _ h => h) (Or.inl ⟨by rfl, ?_⟩) ?_ ?_
                    rotate_left
                    · intro w'
                      go_simp
                      with_reducible rfl
                    rotate_left
                    · simp only [Act.put, List.setIfInBounds_toArray, List.set_cons_zero, List.set_cons_succ, i64_w, i32_w]
                      rfl
                    refine done_ (done_of HT_.out (by kernel_rfl)) ?_
                    try go_wp2
                    go_roundg k2
                    case measure => have := HJ2.out; have := HK2.out; omega
                    case rel => exact ⟨(wrap64 (x5_2 + 1)), (by first | rfl | (simp; done) | (simp [*]; done)), H', ⟨by have := HJ2.out; have := HK2.out; omega⟩, ⟨by repeat (first | (with_reducible first | exact HB.out | apply below_alloc | apply pw_below_drewN | apply below_drew1) | exact HB.out)⟩⟩
                  · replace c13 := Bool.eq_false_iff.mpr c13
                    subst c13
                    have H1 : (some false) = some r := by rw [if_neg (show ¬ (false = true) by decide)] at H; exact H
                    clear H
                    have H := H1
                    clear H1
                    obtain rfl := Option.some.inj H
                    try go_wp2
                    have n0_ := Aside0.mk (below_drew1 HB.out)
                    clear HB
                    have HB := n0_
                    clear n0_
                    have p155 : 0 ≤ (x5_2 : Int) := of_decide_eq_true (by first | (with_reducible assumption) | assumption)
                    have q155 : x5_2 < (l0.length : Int) := of_decide_eq_true (by first | (with_reducible assumption) | assumption)
                    obtain ⟨ad155, e155, hx155_0, hx155_1, hx155_2, hx155_3, hx155_4⟩ := at_T32 HR0.out x5_2 p155 q155
                    have hw155_4 := hx155_4
                    have hw155_3 := hx155_3
                    have hw155_2 := hx155_2
                    have hw155_1 := hx155_1
                    have hw155_0 := hx155_0
                    cases e155
                    replace hx155_0 := (HB.out.cell (World.block_lt_of_cell? w _ hx155_0)).trans hx155_0
                    replace hx155_1 := (HB.out.cell (World.block_lt_of_cell? w _ hx155_1)).trans hx155_1
                    replace hx155_2 := (HB.out.cell (World.block_lt_of_cell? w _ hx155_2)).trans hx155_2
                    replace hx155_3 := (HB.out.cell (World.block_lt_of_cell? w _ hx155_3)).trans hx155_3
                    replace hx155_4 := (HB.out.cell (World.block_lt_of_cell? w _ hx155_4)).trans hx155_4
                    replace p155 := eq_true p155
                    replace q155 := eq_true q155
                    have p156 : 0 ≤ (x5_2 : Int) := of_decide_eq_true (by first | (with_reducible assumption) | assumption)
                    have q156 : x5_2 < (l1.length : Int) := of_decide_eq_true (by first | (with_reducible assumption) | assumption)
                    obtain ⟨ad156, e156, hx156_0, hx156_1, hx156_2⟩ := at_T29 HR1.out x5_2 p156 q156
                    have hw156_2 := hx156_2
                    have hw156_1 := hx156_1
                    have hw156_0 := hx156_0
                    cases e156
                    replace hx156_0 := (HB.out.cell (World.block_lt_of_cell? w _ hx156_0)).trans hx156_0
                    replace hx156_1 := (HB.out.cell (World.block_lt_of_cell? w _ hx156_1)).trans hx156_1
                    replace hx156_2 := (HB.out.cell (World.block_lt_of_cell? w _ hx156_2)).trans hx156_2
                    replace p156 := eq_true p156
                    replace q156 := eq_true q156
                    refine start_ (n := 10) (S := fun w' => w'.cell? (ad155.add ((x5_2).toNat * 5)) = some (.string ((rd_T32 l0 x5_2).f0)) ∧ w'.cell? ⟨(ad155.add ((x5_2).toNat * 5)).block, (ad155.add ((x5_2).toNat * 5)).off + 1, none⟩ = some (.int .i64 ((rd_T32 l0 x5_2).f1)) ∧ w'.cell? ⟨(ad155.add ((x5_2).toNat * 5)).block, (ad155.add ((x5_2).toNat * 5)).off + 2, none⟩ = some (.int .i64 ((rd_T32 l0 x5_2).f2)) ∧ w'.cell? ⟨(ad155.add ((x5_2).toNat * 5)).block, (ad155.add ((x5_2).toNat * 5)).off + 3, none⟩ = some (.int .i64 ((rd_T32 l0 x5_2).f3)) ∧ w'.cell? ⟨(ad155.add ((x5_2).toNat * 5)).block, (ad155.add ((x5_2).toNat * 5)).off + 4, none⟩ = some (.int .i64 ((rd_T32 l0 x5_2).f4)) ∧ w'.cell? (ad156.add ((x5_2).toNat * 3)) = some (.int .i64 ((rd_T29 l1 x5_2).f0)) ∧ w'.cell? ⟨(ad156.add ((x5_2).toNat * 3)).block, (ad156.add ((x5_2).toNat * 3)).off + 1, none⟩ = some (.int .i64 ((rd_T29 l1 x5_2).f1)) ∧ w'.cell? ⟨(ad156.add ((x5_2).toNat * 3)).block, (ad156.add ((x5_2).toNat * 3)).off + 2, none⟩ = some (.string ((rd_T29 l1 x5_2).f2))) (ds := []) #[false, false, false, false, false, false, false, false, false, false] (by kernel_rfl) rfl rfl ⟨((HB.out.cell (World.block_lt_of_cell? w _ hw155_0)).trans hw155_0), ((HB.out.cell (World.block_lt_of_cell? w _ hw155_1)).trans hw155_1), ((HB.out.cell (World.block_lt_of_cell? w _ hw155_2)).trans hw155_2), ((HB.out.cell (World.block_lt_of_cell? w _ hw155_3)).trans hw155_3), ((HB.out.cell (World.block_lt_of_cell? w _ hw155_4)).trans hw155_4), ((HB.out.cell (World.block_lt_of_cell? w _ hw156_0)).trans hw156_0), ((HB.out.cell (World.block_lt_of_cell? w _ hw156_1)).trans hw156_1), ((HB.out.cell (World.block_lt_of_cell? w _ hw156_2)).trans hw156_2)⟩ (fun hHeld => ?_); refine with_tabW ringworkref01_Fits.tab6 ringworkref01_Fits.bits6 (fun HT_ HW_ => ?_)
                    generalize wr.drew = w16 at HB hx155_0 hx155_1 hx155_2 hx155_3 hx155_4 hx156_0 hx156_1 hx156_2 hHeld ⊢
                    refine pure_ (i := 0) (N := some 22) (v := ?_) (a' := ?_) #[true, false, false, false, false, false, false, false, false, false] rfl rfl (any_of HT_.out (by kernel_rfl)) (fun _ _ _ h => h) (Or.inl ⟨by rfl, ?_⟩) ?_ ?_
                    rotate_left
                    · intro w'
                      go_simp
                      with_reducible rfl
                    rotate_left
                    · simp only [Act.put, List.setIfInBounds_toArray, List.set_cons_zero, List.set_cons_succ, i64_w, i32_w]
                      rfl
                    refine pure_ (i := 1) (N := some 23) (v := ?_) (a' := ?_) #[true, true, false, false, false, false, false, false, false, false] rfl rfl (any_of HT_.out (by kernel_rfl)) (fun _ _ _ h => h) (Or.inl ⟨by rfl, ?_⟩) ?_ ?_
                    rotate_left
                    · intro w'
                      go_simp
                      with_reducible rfl
                    rotate_left
                    · simp only [Act.put, List.setIfInBounds_toArray, List.set_cons_zero, List.set_cons_succ, i64_w, i32_w]
                      rfl
                    refine pure_ (i := 2) (N := some 24) (v := ?_) (a' := ?_) #[true, true, true, false, false, false, false, false, false, false] rfl rfl (any_of HT_.out (by kernel_rfl)) (fun _ _ _ h => h) (Or.inl ⟨by rfl, ?_⟩) ?_ ?_
                    rotate_left
                    · intro w'
                      go_simp
                      with_reducible rfl
                    rotate_left
                    · simp only [Act.put, List.setIfInBounds_toArray, List.set_cons_zero, List.set_cons_succ, i64_w, i32_w]
                      rfl
                    refine pure_ (i := 4) (N := some 26) (v := ?_) (a' := ?_) #[true, true, true, false, true, false, false, false, false, false] rfl rfl (any_of HT_.out (by kernel_rfl)) (fun _ _ _ h => h) (Or.inl ⟨by rfl, ?_⟩) ?_ ?_
                    rotate_left
                    · intro w'
                      go_simp
                      with_reducible rfl
                    rotate_left
                    · simp only [Act.put, List.setIfInBounds_toArray, List.set_cons_zero, List.set_cons_succ, i64_w, i32_w]
                      rfl
                    refine pure_ (i := 5) (N := some 27) (v := ?_) (a' := ?_) #[true, true, true, false, true, true, false, false, false, false] rfl rfl (any_of HT_.out (by kernel_rfl)) (fun _ _ _ h => h) (Or.inl ⟨by rfl, ?_⟩) ?_ ?_
                    rotate_left
                    · intro w'
                      go_simp
                      with_reducible rfl
                    rotate_left
                    · simp only [Act.put, List.setIfInBounds_toArray, List.set_cons_zero, List.set_cons_succ, i64_w, i32_w]
                      rfl
                    refine pure_ (i := 6) (N := some 28) (v := ?_) (a' := ?_) #[true, true, true, false, true, true, true, false, false, false] rfl rfl (any_of HT_.out (by kernel_rfl)) (fun _ _ _ h => h) (Or.inl ⟨by rfl, ?_⟩) ?_ ?_
                    rotate_left
                    · intro w'
                      go_simp
                      with_reducible rfl
                    rotate_left
                    · simp only [Act.put, List.setIfInBounds_toArray, List.set_cons_zero, List.set_cons_succ, i64_w, i32_w]
                      rfl
                    refine take_ (i := 3) (N := some 25) (v := ?_) (a' := ?_) #[true, true, true, true, true, true, true, false, false, false] rfl rfl (take_ofW HT_.out HW_.out (by kernel_rfl)) (fun _ _ _ h => h) (Or.inl ⟨by rfl, ?_⟩) hHeld ?_ ?_
                    rotate_left
                    · rintro w' ⟨s0, s1, s2, s3, s4, s5, s6, s7⟩
                      go_simp
                      with_reducible rfl
                    rotate_left
                    · simp only [Act.put, List.setIfInBounds_toArray, List.set_cons_zero, List.set_cons_succ, i64_w, i32_w]
                      rfl
                    refine take_ (i := 7) (N := some 29) (v := ?_) (a' := ?_) #[true, true, true, true, true, true, true, true, false, false] rfl rfl (take_ofW HT_.out HW_.out (by kernel_rfl)) (fun _ _ _ h => h) (Or.inl ⟨by rfl, ?_⟩) hHeld ?_ ?_
                    rotate_left
                    · rintro w' ⟨s0, s1, s2, s3, s4, s5, s6, s7⟩
                      go_simp
                      with_reducible rfl
                    rotate_left
                    · simp only [Act.put, List.setIfInBounds_toArray, List.set_cons_zero, List.set_cons_succ, i64_w, i32_w]
                      rfl
                    refine one_ (i := 8) (N := some 30) #[true, true, true, true, true, true, true, true, true, false] rfl rfl (one_of HT_.out (by kernel_rfl)) (by decide) (fun K hK => ?_)
                    refine goes_ Tryd.func63 (by kernel_rfl) rfl #[.agg #[.string ((rd_T32 l0 x5_2).f0), .int .i64 ((rd_T32 l0 x5_2).f1), .int .i64 ((rd_T32 l0 x5_2).f2), .int .i64 ((rd_T32 l0 x5_2).f3), .int .i64 ((rd_T32 l0 x5_2).f4)], .agg #[.int .i64 ((rd_T29 l1 x5_2).f0), .int .i64 ((rd_T29 l1 x5_2).f1), .string ((rd_T29 l1 x5_2).f2)]] (by rfl) rfl rfl (by (try simp only [List.map_toArray, List.map_cons, List.map_nil]); first | done | rfl | (simp only [List.length_drop, List.length_take]; rfl)) ?_
                    with_reducible refine (ringworkref01_Holds.calls k2 ((rd_T32 l0 x5_2).f0) ((rd_T32 l0 x5_2).f1) ((rd_T32 l0 x5_2).f2) ((rd_T32 l0 x5_2).f3) ((rd_T32 l0 x5_2).f4) ((rd_T29 l1 x5_2).f0) ((rd_T29 l1 x5_2).f1) ((rd_T29 l1 x5_2).f2) false _ A12.out).mono ?_
                    rintro e w17 ⟨rfl, hb⟩
                    refine ⟨_, rfl, ?_⟩
                    have n0_ := Aside0.mk (below_step (by repeat (first | (with_reducible first | exact HB.out | apply below_alloc | apply pw_below_drewN | apply below_drew1) | exact HB.out)) hb)
                    clear HB
                    have HB := n0_
                    clear n0_
                    (try clear hb)
                    (try clear hb2)
                    (try clear hk)
                    (try clear hi)
                    refine hK.out _ _ ⟨((HB.out.cell (World.block_lt_of_cell? w _ hw155_0)).trans hw155_0), ((HB.out.cell (World.block_lt_of_cell? w _ hw155_1)).trans hw155_1), ((HB.out.cell (World.block_lt_of_cell? w _ hw155_2)).trans hw155_2), ((HB.out.cell (World.block_lt_of_cell? w _ hw155_3)).trans hw155_3), ((HB.out.cell (World.block_lt_of_cell? w _ hw155_4)).trans hw155_4), ((HB.out.cell (World.block_lt_of_cell? w _ hw156_0)).trans hw156_0), ((HB.out.cell (World.block_lt_of_cell? w _ hw156_1)).trans hw156_1), ((HB.out.cell (World.block_lt_of_cell? w _ hw156_2)).trans hw156_2)⟩ (fun hHeld => ?_)
                    clear hK K
                    refine norm_ (a' := ?_) ?_ ?_
                    rotate_left
                    · show Act.put _ (some 30) _ = _
                      simp only [Act.put, List.setIfInBounds_toArray, List.set_cons_zero, List.set_cons_succ, i64_w, i32_w]
                      rfl
                    refine pure_ (i := 9) (N := some 31) (v := ?_) (a' := ?_) #[true, true, true, true, true, true, true, true, true, true] rfl rfl (any_of HT_.out (by kernel_rfl)) (fun _ _ _ h => h) (Or.inl ⟨by rfl, ?_⟩) ?_ ?_
                    rotate_left
                    · intro w'
                      go_simp
                      with_reducible rfl
                    rotate_left
                    · simp only [Act.put, List.setIfInBounds_toArray, List.set_cons_zero, List.set_cons_succ, i64_w, i32_w]
                      rfl
                    refine done_ (done_of HT_.out (by kernel_rfl)) ?_
                    try go_wp2
                    go_ret
                    exact ⟨by first | rfl | (simp [errW_none, errW_some] <;> rfl) | (simp [*, errW_none, errW_some] <;> rfl), by repeat (first | (with_reducible first | exact HB.out | apply below_alloc | apply pw_below_drewN | apply below_drew1) | exact HB.out)⟩
                · rw [if_neg c11] at H
                  exact absurd H (by simp)
              · rw [if_neg c10] at H
                exact absurd H (by simp)
            · rw [if_neg c9] at H
              have c9b0 : decide (x5_2 < (l0.length : Int)) = false := decide_eq_false c9
              clear c9
              obtain rfl := Option.some.inj H
              go_wp2
              go_ret
              exact ⟨by first | rfl | (simp [errW_none, errW_some] <;> rfl) | (simp [*, errW_none, errW_some] <;> rfl), by repeat (first | (with_reducible first | exact HB.out | apply below_alloc | apply pw_below_drewN | apply below_drew1) | exact HB.out)⟩


end Go.Proofs.YtibgjfeifpanhaaDoor.PItemValid

namespace Go.Proofs.YtibgjfeifpanhaaDoor.PItemValid
open Go.RowKit Go.Proofs.YtibgjfeifpanhaaDoorW.PrintWords Go.Proofs.YtibgjfeifpanhaaDoorW.PrintLast Go.Proofs.YtibgjfeifpanhaaDoorW.PrintMore
attribute [local go_sem] max2_int min2_int max_two min_two max_three min_three max_four min_four   -- for this text's walks alone
set_option linter.unusedVariables false
set_option linter.unusedSimpArgs false

theorem eqA29 (d : Nat) (w : World) (x0 y0 : Int) (x1 y1 : Int) (x2 y2 : ByteArray) :
    (Op.equalIn (d + 2) 29 (.agg #[.int .i64 x0, .int .i64 x1, .string x2]) (.agg #[.int .i64 y0, .int .i64 y1, .string y2])).run Tryd.prog w = .ok (x0 == y0 && (x1 == y1 && (x2.toList == y2.toList))) w := by
  refine eqA_of Tryd.underlying29 (by kernel_rfl) ?_
  refine eqf_cons (by rfl) (by go_simp; rfl) (by go_simp; rfl) (by go_simp) ?_
  refine eqf_cons (by rfl) (by go_simp; rfl) (by go_simp; rfl) (by go_simp) ?_
  exact eqf_last (by rfl) (by go_simp; rfl) (by go_simp; rfl) (by go_simp)
end Go.Proofs.YtibgjfeifpanhaaDoor.PItemValid

namespace Go.Proofs.YtibgjfeifpanhaaDoor.PItemValid
open Go.RowKit Go.Proofs.YtibgjfeifpanhaaDoorW.PrintWords Go.Proofs.YtibgjfeifpanhaaDoorW.PrintLast Go.Proofs.YtibgjfeifpanhaaDoorW.PrintMore
attribute [local go_sem] max2_int min2_int max_two min_two max_three min_three max_four min_four   -- for this text's walks alone
set_option linter.unusedVariables false
set_option linter.unusedSimpArgs false

/-! ### cmp_Or_int: function 64 -/
def cmp_Or_int.l0 : Nat → Int → List Int → Int → Int → Option (Int)
  | 0, _, _, _, _ => none
  | k + 1, x3, x6, x7, x8 => if x8 < x7 then (if 0 ≤ x8 then (if x8 < (x6.length : Int) then (if (rd x6 x8) = x3 then (cmp_Or_int.l0 k x3 x6 x7 (wrap64 (x8 + 1))) else (some (rd x6 x8))) else (none)) else (none)) else (some x3)
def cmp_Or_int.f (k : Nat) (l0 : List Int) : Option (Int) := cmp_Or_int.l0 k 0 l0 (l0.length : Int) 0
theorem cmp_Or_int.mono_l : ∀ k, (∀ y0 y1 y2 y3, LeO (cmp_Or_int.l0 k y0 y1 y2 y3) (cmp_Or_int.l0 (k + 1) y0 y1 y2 y3))
  | 0 => fun _ _ _ _ r h => by simp [cmp_Or_int.l0] at h
  | k + 1 => by
    have ih0 := cmp_Or_int.mono_l k
    · intro y0 y1 y2 y3
      unfold cmp_Or_int.l0
      repeat' first
      | (with_reducible exact ih0 _ _ _ _)
      | (with_reducible exact LeO.refl _)
      | (with_reducible exact LeO.none _)
      | (with_reducible refine LeO.ite ?_ ?_)
      | (with_reducible refine LeO.bind ?_ (fun _ => ?_))
      | exact ih0 _ _ _ _
      | exact LeO.none _
      | refine LeO.ite ?_ ?_
      | refine LeO.bind ?_ (fun _ => ?_)
theorem cmp_Or_int.mono : ∀ a0 k, LeO (cmp_Or_int.f k a0) (cmp_Or_int.f (k + 1) a0) := by
  intro a0 k
  have ih0 := cmp_Or_int.mono_l k
  unfold cmp_Or_int.f
  repeat' first
      | (with_reducible exact ih0 _ _ _ _)
      | (with_reducible exact LeO.refl _)
      | (with_reducible exact LeO.none _)
      | (with_reducible refine LeO.ite ?_ ?_)
      | (with_reducible refine LeO.bind ?_ (fun _ => ?_))
      | exact ih0 _ _ _ _
      | exact LeO.none _
      | refine LeO.ite ?_ ?_
      | refine LeO.bind ?_ (fun _ => ?_)
/-! ### cmp_isNaN_int: function 93 -/
def cmp_isNaN_int.f (a0 : Int) : Option (Bool) := some (a0 != a0)
/-! ### cmp_Compare_int: function 65 -/
def cmp_Compare_int.f (a0 : Int) (a1 : Int) : Option (Int) := (cmp_isNaN_int.f a0).bind fun t130 => ((cmp_isNaN_int.f a1).bind fun t131 => (if t130 = true then (if t131 = true then (some 0) else (some (-1))) else (if t131 = true then (some 1) else (if a0 < a1 then (some (-1)) else (if a0 > a1 then (some 1) else (some 0))))))
/-! ### cmp_isNaN_string: function 94 -/
def cmp_isNaN_string.f (a0 : ByteArray) : Option (Bool) := some (a0.toList != a0.toList)
end Go.Proofs.YtibgjfeifpanhaaDoor.PItemValid

namespace Go.Proofs.YtibgjfeifpanhaaDoor.PItemValid
open Go.RowKit Go.Proofs.YtibgjfeifpanhaaDoorW.PrintWords Go.Proofs.YtibgjfeifpanhaaDoorW.PrintLast Go.Proofs.YtibgjfeifpanhaaDoorW.PrintMore
attribute [local go_sem] max2_int min2_int max_two min_two max_three min_three max_four min_four   -- for this text's walks alone
set_option linter.unusedVariables false
set_option linter.unusedSimpArgs false

/-! ### cmp_Compare_string: function 66 -/
def cmp_Compare_string.f (a0 : ByteArray) (a1 : ByteArray) : Option (Int) := (cmp_isNaN_string.f a0).bind fun t132 => ((cmp_isNaN_string.f a1).bind fun t133 => (if t132 = true then (if t133 = true then (some 0) else (some (-1))) else (if t133 = true then (some 1) else (if (Op.bytesLess a0.toList a1.toList) = true then (some (-1)) else (if (!(a0.toList == a1.toList)) = true then (some 1) else (some 0))))))
/-! ### item_Compare: function 24 -/
def item_Compare.f (k : Nat) (a0_0 : Int) (a0_1 : Int) (a0_2 : ByteArray) (a1_0 : Int) (a1_1 : Int) (a1_2 : ByteArray) : Option (Int) := (cmp_Compare_int.f a0_0 a1_0).bind fun t136 => ((cmp_Compare_int.f a0_1 a1_1).bind fun t137 => ((cmp_Compare_string.f a0_2 a1_2).bind fun t138 => ((cmp_Or_int.f k (([t136, t137, t138] : List Int))).bind fun t142 => (some t142))))
theorem item_Compare.mono : ∀ a0 a1 a2 a3 a4 a5 k, LeO (item_Compare.f k a0 a1 a2 a3 a4 a5) (item_Compare.f (k + 1) a0 a1 a2 a3 a4 a5) := by
  intro a0 a1 a2 a3 a4 a5 k
  unfold item_Compare.f
  repeat' first
      | (with_reducible exact cmp_Or_int.mono _ _)
      | (with_reducible exact LeO.refl _)
      | (with_reducible exact LeO.none _)
      | (with_reducible refine LeO.ite ?_ ?_)
      | (with_reducible refine LeO.bind ?_ (fun _ => ?_))
      | exact cmp_Or_int.mono _ _
      | exact LeO.none _
      | refine LeO.ite ?_ ?_
      | refine LeO.bind ?_ (fun _ => ?_)
/-! ### ringworkref01_less: function 67 -/
def ringworkref01_less.f (a0 : Int) (a1 : Int) : Option (Int) := if a0 < a1 then (some (-1)) else (if a0 > a1 then (some 1) else (some 0))
set_option maxHeartbeats 8000000 in
set_option maxRecDepth 100000 in
theorem ringworkref01_less.calls (a0 : Int) (a1 : Int) (r : Int) (w : World) (h : ringworkref01_less.f a0 a1 = some r) :
    Calls Tryd.prog 67 #[.int .i64 a0, .int .i64 a1] w fun e w' => e = .returned (.int .i64 r) ∧ Drawn0 w w' := by
  have H : (if a0 < a1 then (some (-1)) else (if a0 > a1 then (some 1) else (some 0))) = some r := h
  clear h
  by_cases c3 : a0 < a1
  · rw [if_pos c3] at H
    have c3b0 : decide (a0 < a1) = true := decide_eq_true c3
    clear c3
    obtain rfl := Option.some.inj H
    go_enter Tryd.func67, Tryd.ntmps67
    go_wp2
    go_ret
    exact ⟨by first | rfl | (simp; done) | (simp [*]; done), by repeat (first | exact Drawn0.refl _ | apply Drawn0.step)⟩
  · rw [if_neg c3] at H
    have c3b0 : decide (a0 < a1) = false := decide_eq_false c3
    clear c3
    by_cases c4 : a0 > a1
    · rw [if_pos c4] at H
      have c4b0 : decide (a1 < a0) = true := decide_eq_true c4
      clear c4
      obtain rfl := Option.some.inj H
      go_enter Tryd.func67, Tryd.ntmps67
      go_wp2
      go_ret
      exact ⟨by first | rfl | (simp; done) | (simp [*]; done), by repeat (first | exact Drawn0.refl _ | apply Drawn0.step)⟩
    · rw [if_neg c4] at H
      have c4b0 : decide (a1 < a0) = false := decide_eq_false c4
      clear c4
      obtain rfl := Option.some.inj H
      go_enter Tryd.func67, Tryd.ntmps67
      go_wp2
      go_ret
      exact ⟨by first | rfl | (simp; done) | (simp [*]; done), by repeat (first | exact Drawn0.refl _ | apply Drawn0.step)⟩

/-! ### ringworkref01_Sign: function 95 -/
def ringworkref01_Sign.f (a0 : Int) : Option (Int) := if a0 < 0 then (some (-1)) else (if a0 > 0 then (some 1) else (some 0))
set_option maxHeartbeats 8000000 in
set_option maxRecDepth 100000 in
theorem ringworkref01_Sign.calls (a0 : Int) (r : Int) (w : World) (h : ringworkref01_Sign.f a0 = some r) :
    Calls Tryd.prog 95 #[.int .i64 a0] w fun e w' => e = .returned (.int .i64 r) ∧ Drawn0 w w' := by
  have H : (if a0 < 0 then (some (-1)) else (if a0 > 0 then (some 1) else (some 0))) = some r := h
  clear h
  by_cases c2 : a0 < 0
  · rw [if_pos c2] at H
    have c2b0 : decide (a0 < 0) = true := decide_eq_true c2
    clear c2
    obtain rfl := Option.some.inj H
    go_enter Tryd.func95, Tryd.ntmps95
    go_wp2
    go_ret
    exact ⟨by first | rfl | (simp; done) | (simp [*]; done), by repeat (first | exact Drawn0.refl _ | apply Drawn0.step)⟩
  · rw [if_neg c2] at H
    have c2b0 : decide (a0 < 0) = false := decide_eq_false c2
    clear c2
    by_cases c3 : a0 > 0
    · rw [if_pos c3] at H
      have c3b0 : decide (0 < a0) = true := decide_eq_true c3
      clear c3
      obtain rfl := Option.some.inj H
      go_enter Tryd.func95, Tryd.ntmps95
      go_wp2
      go_ret
      exact ⟨by first | rfl | (simp; done) | (simp [*]; done), by repeat (first | exact Drawn0.refl _ | apply Drawn0.step)⟩
    · rw [if_neg c3] at H
      have c3b0 : decide (0 < a0) = false := decide_eq_false c3
      clear c3
      obtain rfl := Option.some.inj H
      go_enter Tryd.func95, Tryd.ntmps95
      go_wp2
      go_ret
      exact ⟨by first | rfl | (simp; done) | (simp [*]; done), by repeat (first | exact Drawn0.refl _ | apply Drawn0.step)⟩

/-! ### ringworkref01_texts: function 68 -/
mutual
def ringworkref01_texts.l0 : Nat → ByteArray → ByteArray → Int → Option (Int)
  | 0, _, _, _ => none
  | k + 1, x0, x1, x5 => if x5 < (x0.size : Int) then (ringworkref01_texts.j1 k x0 x1 x5 (decide (x5 < (x1.size : Int)))) else (ringworkref01_texts.j1 k x0 x1 x5 false)
def ringworkref01_texts.j1 : Nat → ByteArray → ByteArray → Int → Bool → Option (Int)
  | 0, _, _, _, _ => none
  | k + 1, x0, x1, x5, x15 => if x15 = true then (if 0 ≤ x5 then (if x5 < (x0.size : Int) then (if x5 < (x1.size : Int) then (if (bt x0 x5) = (bt x1 x5) then (ringworkref01_texts.l0 k x0 x1 (wrap64 (x5 + 1))) else ((ringworkref01_Sign.f (wrap64 ((wrap64 (bt x0 x5)) - (wrap64 (bt x1 x5))))).bind fun t143 => (some t143))) else (none)) else (none)) else (none)) else ((ringworkref01_Sign.f (wrap64 ((x0.size : Int) - (x1.size : Int)))).bind fun t144 => (some t144))
end
def ringworkref01_texts.f (k : Nat) (a0 : ByteArray) (a1 : ByteArray) : Option (Int) := ringworkref01_texts.l0 k a0 a1 0
theorem ringworkref01_texts.mono_l : ∀ k, (∀ y0 y1 y2, LeO (ringworkref01_texts.l0 k y0 y1 y2) (ringworkref01_texts.l0 (k + 1) y0 y1 y2)) ∧ (∀ y0 y1 y2 y3, LeO (ringworkref01_texts.j1 k y0 y1 y2 y3) (ringworkref01_texts.j1 (k + 1) y0 y1 y2 y3))
  | 0 => ⟨fun _ _ _ r h => by simp [ringworkref01_texts.l0] at h, fun _ _ _ _ r h => by simp [ringworkref01_texts.j1] at h⟩
  | k + 1 => by
    obtain ⟨ih0, ih1⟩ := ringworkref01_texts.mono_l k
    refine ⟨?_, ?_⟩
    · intro y0 y1 y2
      unfold ringworkref01_texts.l0
      repeat' first
      | (with_reducible exact ih0 _ _ _)
      | (with_reducible exact ih1 _ _ _ _)
      | (with_reducible exact LeO.refl _)
      | (with_reducible exact LeO.none _)
      | (with_reducible refine LeO.ite ?_ ?_)
      | (with_reducible refine LeO.bind ?_ (fun _ => ?_))
      | exact ih0 _ _ _
      | exact ih1 _ _ _ _
      | exact LeO.none _
      | refine LeO.ite ?_ ?_
      | refine LeO.bind ?_ (fun _ => ?_)
    · intro y0 y1 y2 y3
      unfold ringworkref01_texts.j1
      repeat' first
      | (with_reducible exact ih0 _ _ _)
      | (with_reducible exact ih1 _ _ _ _)
      | (with_reducible exact LeO.refl _)
      | (with_reducible exact LeO.none _)
      | (with_reducible refine LeO.ite ?_ ?_)
      | (with_reducible refine LeO.bind ?_ (fun _ => ?_))
      | exact ih0 _ _ _
      | exact ih1 _ _ _ _
      | exact LeO.none _
      | refine LeO.ite ?_ ?_
      | refine LeO.bind ?_ (fun _ => ?_)
theorem ringworkref01_texts.mono : ∀ a0 a1 k, LeO (ringworkref01_texts.f k a0 a1) (ringworkref01_texts.f (k + 1) a0 a1) := by
  intro a0 a1 k
  obtain ⟨ih0, ih1⟩ := ringworkref01_texts.mono_l k
  unfold ringworkref01_texts.f
  repeat' first
      | (with_reducible exact ih0 _ _ _)
      | (with_reducible exact ih1 _ _ _ _)
      | (with_reducible exact LeO.refl _)
      | (with_reducible exact LeO.none _)
      | (with_reducible refine LeO.ite ?_ ?_)
      | (with_reducible refine LeO.bind ?_ (fun _ => ?_))
      | exact ih0 _ _ _
      | exact ih1 _ _ _ _
      | exact LeO.none _
      | refine LeO.ite ?_ ?_
      | refine LeO.bind ?_ (fun _ => ?_)
set_option maxHeartbeats 8000000 in
set_option maxRecDepth 100000 in
theorem ringworkref01_texts.calls (k : Nat) (a0 : ByteArray) (a1 : ByteArray) (r : Int) (w : World) (h : ringworkref01_texts.f k a0 a1 = some r) :
    Calls Tryd.prog 68 #[.string a0, .string a1] w fun e w' => e = .returned (.int .i64 r) ∧ Drawn0 w w' := by
  have H : (ringworkref01_texts.l0 k a0 a1 0) = some r := h
  clear h
  have H' := Aside0.mk H
  clear H
  go_enter Tryd.func68, Tryd.ntmps68
  go_wp2
  repeat (go_quiet (fail); try go_wp2)
  go_loopg [5] k (fun kq v5 w' => ∃ (x5_1 : Int), v5 = .int .i64 x5_1 ∧ Aside0 (ringworkref01_texts.l0 kq a0 a1 x5_1 = some r) ∧ Aside0 (kq ≤ k) ∧ Drawn0 w w')
  case atStart => exact ⟨(0), (by first | rfl | (simp; done) | (simp [*]; done)), H', ⟨Nat.le_refl _⟩, by repeat (first | exact Drawn0.refl _ | apply Drawn0.step)⟩
  case round =>
    clear H'
    try clear p2
    obtain ⟨x5_1, rfl, HA, HK1, ⟨m1, rfl⟩⟩ := hrel
    cases gk with
    | zero => exact absurd HA.out (by simp [ringworkref01_texts.l0])
    | succ k1 =>
      have H := HA.out
      clear HA
      simp only [ringworkref01_texts.l0] at H
      have HC3 := Aside0.mk H
      clear H
      go_upto_region 2 with (fail)
      repeat (go_quiet (fail); go_upto_region 2 with (fail))
      go_cut [15] (fun v15 wc => ∃ (kq : Nat) (x15_2 : Bool), v15 = .bool x15_2 ∧ Aside0 (ringworkref01_texts.j1 kq a0 a1 x5_1 x15_2 = some r) ∧ Aside0 (kq ≤ k1) ∧ Drawn0 w wc)
      case first =>
        have H := HC3.out
        clear HC3
        by_cases c4 : x5_1 < (a0.size : Int)
        · rw [if_pos c4] at H
          have c4b0 : decide (x5_1 < (a0.size : Int)) = true := decide_eq_true c4
          clear c4
          (first | rw [c4b0] | (simp only [i64_w, i32_w]; rw [c4b0]) | skip)
          have H' := Aside0.mk H
          clear H
          go_wp2
          repeat (go_quiet (fail); try go_wp2)
          go_meet
          case rel => exact ⟨_, (decide (x5_1 < (a1.size : Int))), (by first | rfl | (simp; done) | (simp [*]; done)), H', ⟨by have := HK1.out; first | omega | exact Nat.le_refl _⟩, by repeat (first | exact Drawn0.refl _ | apply Drawn0.step)⟩
        · rw [if_neg c4] at H
          have c4b0 : decide (x5_1 < (a0.size : Int)) = false := decide_eq_false c4
          clear c4
          (first | rw [c4b0] | (simp only [i64_w, i32_w]; rw [c4b0]) | skip)
          have H' := Aside0.mk H
          clear H
          go_wp2
          repeat (go_quiet (fail); try go_wp2)
          go_meet
          case rel => exact ⟨_, (false), (by first | rfl | (simp; done) | (simp [*]; done)), H', ⟨by have := HK1.out; first | omega | exact Nat.le_refl _⟩, by repeat (first | exact Drawn0.refl _ | apply Drawn0.step)⟩
      case rest =>
        clear HC3
        try clear p2
        try clear c4
        try clear c4b0
        try clear p2
        obtain ⟨kq, x15_2, rfl, HA, HJ2, ⟨mc2, rfl⟩⟩ := hcut
        cases kq with
        | zero => exact absurd HA.out (by simp [ringworkref01_texts.j1])
        | succ kj2 =>
          have H := HA.out
          clear HA
          simp only [ringworkref01_texts.j1] at H
          by_cases c5 : x15_2 = true
          · subst c5
            have H1 : (if 0 ≤ x5_1 then (if x5_1 < (a0.size : Int) then (if x5_1 < (a1.size : Int) then (if (bt a0 x5_1) = (bt a1 x5_1) then (ringworkref01_texts.l0 kj2 a0 a1 (wrap64 (x5_1 + 1))) else ((ringworkref01_Sign.f (wrap64 ((wrap64 (bt a0 x5_1)) - (wrap64 (bt a1 x5_1))))).bind fun t143 => (some t143))) else (none)) else (none)) else (none)) = some r := by rw [if_pos rfl] at H; exact H
            clear H
            have H := H1
            clear H1
            by_cases c6 : 0 ≤ x5_1
            · rw [if_pos c6] at H
              have c6b0 : decide (0 ≤ x5_1) = true := decide_eq_true c6
              clear c6
              by_cases c7 : x5_1 < (a0.size : Int)
              · rw [if_pos c7] at H
                have c7b0 : decide (x5_1 < (a0.size : Int)) = true := decide_eq_true c7
                clear c7
                by_cases c9 : x5_1 < (a1.size : Int)
                · rw [if_pos c9] at H
                  have c9b0 : decide (x5_1 < (a1.size : Int)) = true := decide_eq_true c9
                  clear c9
                  by_cases c11 : (bt a0 x5_1) = (bt a1 x5_1)
                  · rw [if_pos c11] at H
                    have c11b0 : ((bt a0 x5_1) == (bt a1 x5_1)) = true := beq_iff_eq.mpr c11
                    have c11b1 : ((bt a0 x5_1) != (bt a1 x5_1)) = false := bne_eq_false_iff_eq.mpr c11
                    clear c11
                    have H' := Aside0.mk H
                    clear H
                    have p8 : 0 ≤ (x5_1 : Int) := of_decide_eq_true (by first | (with_reducible assumption) | assumption)
                    have q8 : x5_1 < (a0.size : Int) := of_decide_eq_true (by first | (with_reducible assumption) | assumption)
                    have hx8 := bt_at a0 x5_1
                    replace p8 := eq_true p8
                    replace q8 := eq_true q8
                    have p10 : 0 ≤ (x5_1 : Int) := of_decide_eq_true (by first | (with_reducible assumption) | assumption)
                    have q10 : x5_1 < (a1.size : Int) := of_decide_eq_true (by first | (with_reducible assumption) | assumption)
                    have hx10 := bt_at a1 x5_1
                    replace p10 := eq_true p10
                    replace q10 := eq_true q10
                    go_wp2
                    repeat (go_quiet (fail); try go_wp2)
                    go_roundg kj2
                    case measure => have := HK1.out; have := HJ2.out; omega
                    case rel => exact ⟨(wrap64 (x5_1 + 1)), (by first | rfl | (simp; done) | (simp [*]; done)), H', ⟨by have := HK1.out; have := HJ2.out; omega⟩, by repeat (first | exact Drawn0.refl _ | apply Drawn0.step)⟩
                  · rw [if_neg c11] at H
                    have c11b0 : ((bt a0 x5_1) == (bt a1 x5_1)) = false := beq_eq_false_iff_ne.mpr c11
                    have c11b1 : ((bt a0 x5_1) != (bt a1 x5_1)) = true := bne_iff_ne.mpr c11
                    replace H := Option.bind_eq_some_iff.mp H
                    obtain ⟨t143, A140, H⟩ := H
                    replace H : (some t143) = some r := H
                    have A14 := Aside0.mk A140
                    clear A140
                    obtain rfl := Option.some.inj H
                    have p8 : 0 ≤ (x5_1 : Int) := of_decide_eq_true (by first | (with_reducible assumption) | assumption)
                    have q8 : x5_1 < (a0.size : Int) := of_decide_eq_true (by first | (with_reducible assumption) | assumption)
                    have hx8 := bt_at a0 x5_1
                    replace p8 := eq_true p8
                    replace q8 := eq_true q8
                    have p10 : 0 ≤ (x5_1 : Int) := of_decide_eq_true (by first | (with_reducible assumption) | assumption)
                    have q10 : x5_1 < (a1.size : Int) := of_decide_eq_true (by first | (with_reducible assumption) | assumption)
                    have hx10 := bt_at a1 x5_1
                    replace p10 := eq_true p10
                    replace q10 := eq_true q10
                    have p12 : 0 ≤ (x5_1 : Int) := of_decide_eq_true (by first | (with_reducible assumption) | assumption)
                    have q12 : x5_1 < (a0.size : Int) := of_decide_eq_true (by first | (with_reducible assumption) | assumption)
                    have hx12 := bt_at a0 x5_1
                    replace p12 := eq_true p12
                    replace q12 := eq_true q12
                    have p13 : 0 ≤ (x5_1 : Int) := of_decide_eq_true (by first | (with_reducible assumption) | assumption)
                    have q13 : x5_1 < (a1.size : Int) := of_decide_eq_true (by first | (with_reducible assumption) | assumption)
                    have hx13 := bt_at a1 x5_1
                    replace p13 := eq_true p13
                    replace q13 := eq_true q13
                    go_wp2_with (first | (go_at_call 95; (with_reducible refine (ringworkref01_Sign.calls (wrap64 ((wrap64 (bt a0 x5_1)) - (wrap64 (bt a1 x5_1)))) t143 _ A14.out).mono ?_); rintro e w' ⟨rfl, ⟨nd, rfl⟩⟩; (try first | exact ⟨rfl, _, World.drewN_drewN _ _ _⟩ | exact ⟨rfl, _, Eq.trans (World.drewN_drewN _ _ _) (congrArg (World.drewN _) (Nat.add_assoc _ _ _))⟩)))
                    repeat (go_quiet (first | (go_at_call 95; (with_reducible refine (ringworkref01_Sign.calls (wrap64 ((wrap64 (bt a0 x5_1)) - (wrap64 (bt a1 x5_1)))) t143 _ A14.out).mono ?_); rintro e w' ⟨rfl, ⟨nd, rfl⟩⟩; (try first | exact ⟨rfl, _, World.drewN_drewN _ _ _⟩ | exact ⟨rfl, _, Eq.trans (World.drewN_drewN _ _ _) (congrArg (World.drewN _) (Nat.add_assoc _ _ _))⟩))); try go_wp2_with (first | (go_at_call 95; (with_reducible refine (ringworkref01_Sign.calls (wrap64 ((wrap64 (bt a0 x5_1)) - (wrap64 (bt a1 x5_1)))) t143 _ A14.out).mono ?_); rintro e w' ⟨rfl, ⟨nd, rfl⟩⟩; (try first | exact ⟨rfl, _, World.drewN_drewN _ _ _⟩ | exact ⟨rfl, _, Eq.trans (World.drewN_drewN _ _ _) (congrArg (World.drewN _) (Nat.add_assoc _ _ _))⟩))))
                    go_ret
                    exact ⟨by first | rfl | (simp; done) | (simp [*]; done), by repeat (first | exact Drawn0.refl _ | apply Drawn0.step)⟩
                · rw [if_neg c9] at H
                  exact absurd H (by simp)
              · rw [if_neg c7] at H
                exact absurd H (by simp)
            · rw [if_neg c6] at H
              exact absurd H (by simp)
          · replace c5 := Bool.eq_false_iff.mpr c5
            subst c5
            have H1 : ((ringworkref01_Sign.f (wrap64 ((a0.size : Int) - (a1.size : Int)))).bind fun t144 => (some t144)) = some r := by rw [if_neg (show ¬ (false = true) by decide)] at H; exact H
            clear H
            have H := H1
            clear H1
            replace H := Option.bind_eq_some_iff.mp H
            obtain ⟨t144, A150, H⟩ := H
            replace H : (some t144) = some r := H
            have A15 := Aside0.mk A150
            clear A150
            obtain rfl := Option.some.inj H
            go_wp2_with (first | (go_at_call 95; (with_reducible refine (ringworkref01_Sign.calls (wrap64 ((a0.size : Int) - (a1.size : Int))) t144 _ A15.out).mono ?_); rintro e w' ⟨rfl, ⟨nd, rfl⟩⟩; (try first | exact ⟨rfl, _, World.drewN_drewN _ _ _⟩ | exact ⟨rfl, _, Eq.trans (World.drewN_drewN _ _ _) (congrArg (World.drewN _) (Nat.add_assoc _ _ _))⟩)))
            repeat (go_quiet (first | (go_at_call 95; (with_reducible refine (ringworkref01_Sign.calls (wrap64 ((a0.size : Int) - (a1.size : Int))) t144 _ A15.out).mono ?_); rintro e w' ⟨rfl, ⟨nd, rfl⟩⟩; (try first | exact ⟨rfl, _, World.drewN_drewN _ _ _⟩ | exact ⟨rfl, _, Eq.trans (World.drewN_drewN _ _ _) (congrArg (World.drewN _) (Nat.add_assoc _ _ _))⟩))); try go_wp2_with (first | (go_at_call 95; (with_reducible refine (ringworkref01_Sign.calls (wrap64 ((a0.size : Int) - (a1.size : Int))) t144 _ A15.out).mono ?_); rintro e w' ⟨rfl, ⟨nd, rfl⟩⟩; (try first | exact ⟨rfl, _, World.drewN_drewN _ _ _⟩ | exact ⟨rfl, _, Eq.trans (World.drewN_drewN _ _ _) (congrArg (World.drewN _) (Nat.add_assoc _ _ _))⟩))))
            go_ret
            exact ⟨by first | rfl | (simp; done) | (simp [*]; done), by repeat (first | exact Drawn0.refl _ | apply Drawn0.step)⟩

/-! ### ringworkref01_Compare: function 25 -/
def ringworkref01_Compare.f (k : Nat) (a0_0 : Int) (a0_1 : Int) (a0_2 : ByteArray) (a1_0 : Int) (a1_1 : Int) (a1_2 : ByteArray) : Option (Int) := (ringworkref01_less.f a0_0 a1_0).bind fun t147 => (if t147 = 0 then ((ringworkref01_less.f a0_1 a1_1).bind fun t148 => (if t148 = 0 then ((ringworkref01_texts.f k a0_2 a1_2).bind fun t149 => (some t149)) else (some t148))) else (some t147))
theorem ringworkref01_Compare.mono : ∀ a0 a1 a2 a3 a4 a5 k, LeO (ringworkref01_Compare.f k a0 a1 a2 a3 a4 a5) (ringworkref01_Compare.f (k + 1) a0 a1 a2 a3 a4 a5) := by
  intro a0 a1 a2 a3 a4 a5 k
  unfold ringworkref01_Compare.f
  repeat' first
      | (with_reducible exact ringworkref01_texts.mono _ _ _)
      | (with_reducible exact LeO.refl _)
      | (with_reducible exact LeO.none _)
      | (with_reducible refine LeO.ite ?_ ?_)
      | (with_reducible refine LeO.bind ?_ (fun _ => ?_))
      | exact ringworkref01_texts.mono _ _ _
      | exact LeO.none _
      | refine LeO.ite ?_ ?_
      | refine LeO.bind ?_ (fun _ => ?_)
set_option maxHeartbeats 8000000 in
set_option maxRecDepth 100000 in
theorem ringworkref01_Compare.calls (k : Nat) (a0_0 : Int) (a0_1 : Int) (a0_2 : ByteArray) (a1_0 : Int) (a1_1 : Int) (a1_2 : ByteArray) (r : Int) (w : World) (h : ringworkref01_Compare.f k a0_0 a0_1 a0_2 a1_0 a1_1 a1_2 = some r) :
    Calls Tryd.prog 25 #[.agg #[.int .i64 a0_0, .int .i64 a0_1, .string a0_2], .agg #[.int .i64 a1_0, .int .i64 a1_1, .string a1_2]] w fun e w' => e = .returned (.int .i64 r) ∧ Below w.heap.size w w' := by
  have hu29 := Tryd.underlying29
  have HB := Aside0.mk (Below.refl w.heap.size w)
  have H : ((ringworkref01_less.f a0_0 a1_0).bind fun t147 => (if t147 = 0 then ((ringworkref01_less.f a0_1 a1_1).bind fun t148 => (if t148 = 0 then ((ringworkref01_texts.f k a0_2 a1_2).bind fun t149 => (some t149)) else (some t148))) else (some t147))) = some r := h
  clear h
  replace H := Option.bind_eq_some_iff.mp H
  obtain ⟨t147, A30, H⟩ := H
  replace H : (if t147 = 0 then ((ringworkref01_less.f a0_1 a1_1).bind fun t148 => (if t148 = 0 then ((ringworkref01_texts.f k a0_2 a1_2).bind fun t149 => (some t149)) else (some t148))) else (some t147)) = some r := H
  have A3 := Aside0.mk A30
  clear A30
  by_cases c4 : t147 = 0
  · rw [if_pos c4] at H
    have c4b0 : (t147 == 0) = true := beq_iff_eq.mpr c4
    have c4b1 : (t147 != 0) = false := bne_eq_false_iff_eq.mpr c4
    clear c4
    replace H := Option.bind_eq_some_iff.mp H
    obtain ⟨t148, A50, H⟩ := H
    replace H : (if t148 = 0 then ((ringworkref01_texts.f k a0_2 a1_2).bind fun t149 => (some t149)) else (some t148)) = some r := H
    have A5 := Aside0.mk A50
    clear A50
    by_cases c6 : t148 = 0
    · rw [if_pos c6] at H
      have c6b0 : (t148 == 0) = true := beq_iff_eq.mpr c6
      have c6b1 : (t148 != 0) = false := bne_eq_false_iff_eq.mpr c6
      clear c6
      replace H := Option.bind_eq_some_iff.mp H
      obtain ⟨t149, A70, H⟩ := H
      replace H : (some t149) = some r := H
      have A7 := Aside0.mk A70
      clear A70
      obtain rfl := Option.some.inj H
      go_enter Tryd.func25, Tryd.ntmps25
      go_wp2_with (first | ((with_reducible refine gate_dst (N := 2) rfl ?_); refine box_event ?hg (N := 2) ?hd (cs := #[.int .i64 a0_0, .int .i64 a0_1, .string a0_2]) (t := 29) ?hr ?_; (case hd => rfl); (case hg => rfl); (case hr => first | (go_simp; done) | (go_simp; rfl)); intro gb145 hg w8 hbox hb; have n0_ := Aside0.mk (below_step (by repeat (first | (with_reducible first | exact HB.out | apply below_alloc | apply pw_below_drewN | apply below_drew1) | exact HB.out)) hb); have n1_ := Aside0.mk (hbox); have n2_ := Aside0.mk ((by rw [hg]; exact (below_size (by repeat (first | (with_reducible first | exact HB.out | apply below_alloc | apply pw_below_drewN | apply below_drew1) | exact HB.out))) : w.heap.size ≤ gb145)); have n3_ := Aside0.mk ((by rw [hg]; exact (below_size (by repeat (first | (with_reducible first | exact HB.out | apply below_alloc | apply pw_below_drewN | apply below_drew1) | exact HB.out))) : w.heap.size ≤ gb145)); clear HB; have HB := n0_; have BK145 := n1_; have GW145 := n2_; have GE145 := n3_; clear n0_ n1_ n2_ n3_; clear hb hbox hg) | ((with_reducible refine gate_dst (N := 3) rfl ?_); refine box_event ?hg (N := 3) ?hd (cs := #[.int .i64 a1_0, .int .i64 a1_1, .string a1_2]) (t := 29) ?hr ?_; (case hd => rfl); (case hg => rfl); (case hr => first | (go_simp; done) | (go_simp; rfl)); intro gb146 hg w9 hbox hb; have n0_ := Aside0.mk (blk_below (g := gb145) (o := .cells #[.int .i64 a0_0, .int .i64 a0_1, .string a0_2] 29 (0, 0)) (by (with_reducible repeat (first | refine blk_drewN ?_ _ | refine blk_drew ?_ | refine blk_alloc ?_ _)); exact BK145.out) hb); have n1_ := Aside0.mk (below_step (by repeat (first | (with_reducible first | exact HB.out | apply below_alloc | apply pw_below_drewN | apply below_drew1 | refine below_set ?_ GE145.out) | exact HB.out)) hb); have n2_ := Aside0.mk (hbox); have n3_ := Aside0.mk ((by rw [hg]; exact (below_size (by repeat (first | (with_reducible first | exact HB.out | apply below_alloc | apply pw_below_drewN | apply below_drew1 | refine below_set ?_ GE145.out) | exact HB.out))) : w.heap.size ≤ gb146)); have n4_ := Aside0.mk ((by rw [hg]; exact (below_size (by repeat (first | (with_reducible first | exact HB.out | apply below_alloc | apply pw_below_drewN | apply below_drew1 | refine below_set ?_ GE145.out) | exact HB.out))) : w.heap.size ≤ gb146)); have n5_ := Aside0.mk ((by rw [hg]; exact Nat.ne_of_lt (blk_lt (g := gb145) (o := .cells #[.int .i64 a0_0, .int .i64 a0_1, .string a0_2] 29 (0, 0)) (by (with_reducible repeat (first | refine blk_drewN ?_ _ | refine blk_drew ?_ | refine blk_alloc ?_ _)); exact BK145.out)) : gb145 ≠ gb146)); have n6_ := Aside0.mk ((by rw [hg]; exact Nat.ne_of_gt (blk_lt (g := gb145) (o := .cells #[.int .i64 a0_0, .int .i64 a0_1, .string a0_2] 29 (0, 0)) (by (with_reducible repeat (first | refine blk_drewN ?_ _ | refine blk_drew ?_ | refine blk_alloc ?_ _)); exact BK145.out)) : gb146 ≠ gb145)); clear BK145; clear HB; have BK145 := n0_; have HB := n1_; have BK146 := n2_; have GW146 := n3_; have GE146 := n4_; have NB145_146 := n5_; have NB146_145 := n6_; clear n0_ n1_ n2_ n3_ n4_ n5_ n6_; clear hb hbox hg; have hnb10 := NB145_146.out; have hnc10 := NB146_145.out; have hcz11_0 : w9.cell? ⟨gb145, 0, none⟩ = some (.int .i64 a0_0) := (blk_cell BK145.out 0).trans rfl; have hcz11_1 : w9.cell? ⟨gb145, 1, none⟩ = some (.int .i64 a0_1) := (blk_cell BK145.out 1).trans rfl; have hcz11_2 : w9.cell? ⟨gb145, 2, none⟩ = some (.string a0_2) := (blk_cell BK145.out 2).trans rfl; have hfz11_0 := blk_frozen BK145.out 0; have hfz11_1 := blk_frozen BK145.out 1; have hfz11_2 := blk_frozen BK145.out 2; have hcz12_0 : w9.cell? ⟨gb146, 0, none⟩ = some (.int .i64 a1_0) := (blk_cell BK146.out 0).trans rfl; have hcz12_1 : w9.cell? ⟨gb146, 1, none⟩ = some (.int .i64 a1_1) := (blk_cell BK146.out 1).trans rfl; have hcz12_2 : w9.cell? ⟨gb146, 2, none⟩ = some (.string a1_2) := (blk_cell BK146.out 2).trans rfl; have hfz12_0 := blk_frozen BK146.out 0; have hfz12_1 := blk_frozen BK146.out 1; have hfz12_2 := blk_frozen BK146.out 2) | ((with_reducible refine gate_callee (f := 67) rfl ?_); refine goesL_ (some 11) rfl rfl Tryd.func67 (by kernel_rfl) rfl #[.int .i64 a0_0, .int .i64 a1_0] rfl (by (try simp only [List.map_toArray, List.map_cons, List.map_nil]); first | done | rfl | (simp only [List.length_drop, List.length_take]; rfl)) ?_; (with_reducible refine (ringworkref01_less.calls a0_0 a1_0 t147 _ A3.out).mono ?_); rintro e w' ⟨rfl, ⟨nd, rfl⟩⟩; refine ⟨_, rfl, ?_⟩) | ((with_reducible refine gate_callee (f := 67) rfl ?_); refine goesL_ (some 19) rfl rfl Tryd.func67 (by kernel_rfl) rfl #[.int .i64 a0_1, .int .i64 a1_1] rfl (by (try simp only [List.map_toArray, List.map_cons, List.map_nil]); first | done | rfl | (simp only [List.length_drop, List.length_take]; rfl)) ?_; (with_reducible refine (ringworkref01_less.calls a0_1 a1_1 t148 _ A5.out).mono ?_); rintro e w' ⟨rfl, ⟨nd, rfl⟩⟩; refine ⟨_, rfl, ?_⟩) | ((with_reducible refine gate_callee (f := 68) rfl ?_); refine goesL_ (some 27) rfl rfl Tryd.func68 (by kernel_rfl) rfl #[.string a0_2, .string a1_2] rfl (by (try simp only [List.map_toArray, List.map_cons, List.map_nil]); first | done | rfl | (simp only [List.length_drop, List.length_take]; rfl)) ?_; (with_reducible refine (ringworkref01_texts.calls k a0_2 a1_2 t149 _ A7.out).mono ?_); rintro e w' ⟨rfl, ⟨nd, rfl⟩⟩; refine ⟨_, rfl, ?_⟩))
      go_ret
      exact ⟨by first | rfl | (simp [errW_none, errW_some] <;> rfl) | (simp [*, errW_none, errW_some] <;> rfl), by repeat (first | (with_reducible first | exact HB.out | apply below_alloc | apply pw_below_drewN | apply below_drew1 | refine below_set ?_ GE145.out | refine below_set ?_ GE146.out) | exact HB.out)⟩
    · rw [if_neg c6] at H
      have c6b0 : (t148 == 0) = false := beq_eq_false_iff_ne.mpr c6
      have c6b1 : (t148 != 0) = true := bne_iff_ne.mpr c6
      obtain rfl := Option.some.inj H
      go_enter Tryd.func25, Tryd.ntmps25
      go_wp2_with (first | ((with_reducible refine gate_dst (N := 2) rfl ?_); refine box_event ?hg (N := 2) ?hd (cs := #[.int .i64 a0_0, .int .i64 a0_1, .string a0_2]) (t := 29) ?hr ?_; (case hd => rfl); (case hg => rfl); (case hr => first | (go_simp; done) | (go_simp; rfl)); intro gb145 hg w13 hbox hb; have n0_ := Aside0.mk (below_step (by repeat (first | (with_reducible first | exact HB.out | apply below_alloc | apply pw_below_drewN | apply below_drew1) | exact HB.out)) hb); have n1_ := Aside0.mk (hbox); have n2_ := Aside0.mk ((by rw [hg]; exact (below_size (by repeat (first | (with_reducible first | exact HB.out | apply below_alloc | apply pw_below_drewN | apply below_drew1) | exact HB.out))) : w.heap.size ≤ gb145)); have n3_ := Aside0.mk ((by rw [hg]; exact (below_size (by repeat (first | (with_reducible first | exact HB.out | apply below_alloc | apply pw_below_drewN | apply below_drew1) | exact HB.out))) : w.heap.size ≤ gb145)); clear HB; have HB := n0_; have BK145 := n1_; have GW145 := n2_; have GE145 := n3_; clear n0_ n1_ n2_ n3_; clear hb hbox hg) | ((with_reducible refine gate_dst (N := 3) rfl ?_); refine box_event ?hg (N := 3) ?hd (cs := #[.int .i64 a1_0, .int .i64 a1_1, .string a1_2]) (t := 29) ?hr ?_; (case hd => rfl); (case hg => rfl); (case hr => first | (go_simp; done) | (go_simp; rfl)); intro gb146 hg w14 hbox hb; have n0_ := Aside0.mk (blk_below (g := gb145) (o := .cells #[.int .i64 a0_0, .int .i64 a0_1, .string a0_2] 29 (0, 0)) (by (with_reducible repeat (first | refine blk_drewN ?_ _ | refine blk_drew ?_ | refine blk_alloc ?_ _)); exact BK145.out) hb); have n1_ := Aside0.mk (below_step (by repeat (first | (with_reducible first | exact HB.out | apply below_alloc | apply pw_below_drewN | apply below_drew1 | refine below_set ?_ GE145.out) | exact HB.out)) hb); have n2_ := Aside0.mk (hbox); have n3_ := Aside0.mk ((by rw [hg]; exact (below_size (by repeat (first | (with_reducible first | exact HB.out | apply below_alloc | apply pw_below_drewN | apply below_drew1 | refine below_set ?_ GE145.out) | exact HB.out))) : w.heap.size ≤ gb146)); have n4_ := Aside0.mk ((by rw [hg]; exact (below_size (by repeat (first | (with_reducible first | exact HB.out | apply below_alloc | apply pw_below_drewN | apply below_drew1 | refine below_set ?_ GE145.out) | exact HB.out))) : w.heap.size ≤ gb146)); have n5_ := Aside0.mk ((by rw [hg]; exact Nat.ne_of_lt (blk_lt (g := gb145) (o := .cells #[.int .i64 a0_0, .int .i64 a0_1, .string a0_2] 29 (0, 0)) (by (with_reducible repeat (first | refine blk_drewN ?_ _ | refine blk_drew ?_ | refine blk_alloc ?_ _)); exact BK145.out)) : gb145 ≠ gb146)); have n6_ := Aside0.mk ((by rw [hg]; exact Nat.ne_of_gt (blk_lt (g := gb145) (o := .cells #[.int .i64 a0_0, .int .i64 a0_1, .string a0_2] 29 (0, 0)) (by (with_reducible repeat (first | refine blk_drewN ?_ _ | refine blk_drew ?_ | refine blk_alloc ?_ _)); exact BK145.out)) : gb146 ≠ gb145)); clear BK145; clear HB; have BK145 := n0_; have HB := n1_; have BK146 := n2_; have GW146 := n3_; have GE146 := n4_; have NB145_146 := n5_; have NB146_145 := n6_; clear n0_ n1_ n2_ n3_ n4_ n5_ n6_; clear hb hbox hg; have hnb15 := NB145_146.out; have hnc15 := NB146_145.out; have hcz16_0 : w14.cell? ⟨gb145, 0, none⟩ = some (.int .i64 a0_0) := (blk_cell BK145.out 0).trans rfl; have hcz16_1 : w14.cell? ⟨gb145, 1, none⟩ = some (.int .i64 a0_1) := (blk_cell BK145.out 1).trans rfl; have hcz16_2 : w14.cell? ⟨gb145, 2, none⟩ = some (.string a0_2) := (blk_cell BK145.out 2).trans rfl; have hfz16_0 := blk_frozen BK145.out 0; have hfz16_1 := blk_frozen BK145.out 1; have hfz16_2 := blk_frozen BK145.out 2; have hcz17_0 : w14.cell? ⟨gb146, 0, none⟩ = some (.int .i64 a1_0) := (blk_cell BK146.out 0).trans rfl; have hcz17_1 : w14.cell? ⟨gb146, 1, none⟩ = some (.int .i64 a1_1) := (blk_cell BK146.out 1).trans rfl; have hcz17_2 : w14.cell? ⟨gb146, 2, none⟩ = some (.string a1_2) := (blk_cell BK146.out 2).trans rfl; have hfz17_0 := blk_frozen BK146.out 0; have hfz17_1 := blk_frozen BK146.out 1; have hfz17_2 := blk_frozen BK146.out 2) | ((with_reducible refine gate_callee (f := 67) rfl ?_); refine goesL_ (some 11) rfl rfl Tryd.func67 (by kernel_rfl) rfl #[.int .i64 a0_0, .int .i64 a1_0] rfl (by (try simp only [List.map_toArray, List.map_cons, List.map_nil]); first | done | rfl | (simp only [List.length_drop, List.length_take]; rfl)) ?_; (with_reducible refine (ringworkref01_less.calls a0_0 a1_0 t147 _ A3.out).mono ?_); rintro e w' ⟨rfl, ⟨nd, rfl⟩⟩; refine ⟨_, rfl, ?_⟩) | ((with_reducible refine gate_callee (f := 67) rfl ?_); refine goesL_ (some 19) rfl rfl Tryd.func67 (by kernel_rfl) rfl #[.int .i64 a0_1, .int .i64 a1_1] rfl (by (try simp only [List.map_toArray, List.map_cons, List.map_nil]); first | done | rfl | (simp only [List.length_drop, List.length_take]; rfl)) ?_; (with_reducible refine (ringworkref01_less.calls a0_1 a1_1 t148 _ A5.out).mono ?_); rintro e w' ⟨rfl, ⟨nd, rfl⟩⟩; refine ⟨_, rfl, ?_⟩))
      go_ret
      exact ⟨by first | rfl | (simp [errW_none, errW_some] <;> rfl) | (simp [*, errW_none, errW_some] <;> rfl), by repeat (first | (with_reducible first | exact HB.out | apply below_alloc | apply pw_below_drewN | apply below_drew1 | refine below_set ?_ GE145.out | refine below_set ?_ GE146.out) | exact HB.out)⟩
  · rw [if_neg c4] at H
    have c4b0 : (t147 == 0) = false := beq_eq_false_iff_ne.mpr c4
    have c4b1 : (t147 != 0) = true := bne_iff_ne.mpr c4
    obtain rfl := Option.some.inj H
    go_enter Tryd.func25, Tryd.ntmps25
    go_wp2_with (first | ((with_reducible refine gate_dst (N := 2) rfl ?_); refine box_event ?hg (N := 2) ?hd (cs := #[.int .i64 a0_0, .int .i64 a0_1, .string a0_2]) (t := 29) ?hr ?_; (case hd => rfl); (case hg => rfl); (case hr => first | (go_simp; done) | (go_simp; rfl)); intro gb145 hg w18 hbox hb; have n0_ := Aside0.mk (below_step (by repeat (first | (with_reducible first | exact HB.out | apply below_alloc | apply pw_below_drewN | apply below_drew1) | exact HB.out)) hb); have n1_ := Aside0.mk (hbox); have n2_ := Aside0.mk ((by rw [hg]; exact (below_size (by repeat (first | (with_reducible first | exact HB.out | apply below_alloc | apply pw_below_drewN | apply below_drew1) | exact HB.out))) : w.heap.size ≤ gb145)); have n3_ := Aside0.mk ((by rw [hg]; exact (below_size (by repeat (first | (with_reducible first | exact HB.out | apply below_alloc | apply pw_below_drewN | apply below_drew1) | exact HB.out))) : w.heap.size ≤ gb145)); clear HB; have HB := n0_; have BK145 := n1_; have GW145 := n2_; have GE145 := n3_; clear n0_ n1_ n2_ n3_; clear hb hbox hg) | ((with_reducible refine gate_dst (N := 3) rfl ?_); refine box_event ?hg (N := 3) ?hd (cs := #[.int .i64 a1_0, .int .i64 a1_1, .string a1_2]) (t := 29) ?hr ?_; (case hd => rfl); (case hg => rfl); (case hr => first | (go_simp; done) | (go_simp; rfl)); intro gb146 hg w19 hbox hb; have n0_ := Aside0.mk (blk_below (g := gb145) (o := .cells #[.int .i64 a0_0, .int .i64 a0_1, .string a0_2] 29 (0, 0)) (by (with_reducible repeat (first | refine blk_drewN ?_ _ | refine blk_drew ?_ | refine blk_alloc ?_ _)); exact BK145.out) hb); have n1_ := Aside0.mk (below_step (by repeat (first | (with_reducible first | exact HB.out | apply below_alloc | apply pw_below_drewN | apply below_drew1 | refine below_set ?_ GE145.out) | exact HB.out)) hb); have n2_ := Aside0.mk (hbox); have n3_ := Aside0.mk ((by rw [hg]; exact (below_size (by repeat (first | (with_reducible first | exact HB.out | apply below_alloc | apply pw_below_drewN | apply below_drew1 | refine below_set ?_ GE145.out) | exact HB.out))) : w.heap.size ≤ gb146)); have n4_ := Aside0.mk ((by rw [hg]; exact (below_size (by repeat (first | (with_reducible first | exact HB.out | apply below_alloc | apply pw_below_drewN | apply below_drew1 | refine below_set ?_ GE145.out) | exact HB.out))) : w.heap.size ≤ gb146)); have n5_ := Aside0.mk ((by rw [hg]; exact Nat.ne_of_lt (blk_lt (g := gb145) (o := .cells #[.int .i64 a0_0, .int .i64 a0_1, .string a0_2] 29 (0, 0)) (by (with_reducible repeat (first | refine blk_drewN ?_ _ | refine blk_drew ?_ | refine blk_alloc ?_ _)); exact BK145.out)) : gb145 ≠ gb146)); have n6_ := Aside0.mk ((by rw [hg]; exact Nat.ne_of_gt (blk_lt (g := gb145) (o := .cells #[.int .i64 a0_0, .int .i64 a0_1, .string a0_2] 29 (0, 0)) (by (with_reducible repeat (first | refine blk_drewN ?_ _ | refine blk_drew ?_ | refine blk_alloc ?_ _)); exact BK145.out)) : gb146 ≠ gb145)); clear BK145; clear HB; have BK145 := n0_; have HB := n1_; have BK146 := n2_; have GW146 := n3_; have GE146 := n4_; have NB145_146 := n5_; have NB146_145 := n6_; clear n0_ n1_ n2_ n3_ n4_ n5_ n6_; clear hb hbox hg; have hnb20 := NB145_146.out; have hnc20 := NB146_145.out; have hcz21_0 : w19.cell? ⟨gb145, 0, none⟩ = some (.int .i64 a0_0) := (blk_cell BK145.out 0).trans rfl; have hcz21_1 : w19.cell? ⟨gb145, 1, none⟩ = some (.int .i64 a0_1) := (blk_cell BK145.out 1).trans rfl; have hcz21_2 : w19.cell? ⟨gb145, 2, none⟩ = some (.string a0_2) := (blk_cell BK145.out 2).trans rfl; have hfz21_0 := blk_frozen BK145.out 0; have hfz21_1 := blk_frozen BK145.out 1; have hfz21_2 := blk_frozen BK145.out 2; have hcz22_0 : w19.cell? ⟨gb146, 0, none⟩ = some (.int .i64 a1_0) := (blk_cell BK146.out 0).trans rfl; have hcz22_1 : w19.cell? ⟨gb146, 1, none⟩ = some (.int .i64 a1_1) := (blk_cell BK146.out 1).trans rfl; have hcz22_2 : w19.cell? ⟨gb146, 2, none⟩ = some (.string a1_2) := (blk_cell BK146.out 2).trans rfl; have hfz22_0 := blk_frozen BK146.out 0; have hfz22_1 := blk_frozen BK146.out 1; have hfz22_2 := blk_frozen BK146.out 2) | ((with_reducible refine gate_callee (f := 67) rfl ?_); refine goesL_ (some 11) rfl rfl Tryd.func67 (by kernel_rfl) rfl #[.int .i64 a0_0, .int .i64 a1_0] rfl (by (try simp only [List.map_toArray, List.map_cons, List.map_nil]); first | done | rfl | (simp only [List.length_drop, List.length_take]; rfl)) ?_; (with_reducible refine (ringworkref01_less.calls a0_0 a1_0 t147 _ A3.out).mono ?_); rintro e w' ⟨rfl, ⟨nd, rfl⟩⟩; refine ⟨_, rfl, ?_⟩))
    go_ret
    exact ⟨by first | rfl | (simp [errW_none, errW_some] <;> rfl) | (simp [*, errW_none, errW_some] <;> rfl), by repeat (first | (with_reducible first | exact HB.out | apply below_alloc | apply pw_below_drewN | apply below_drew1 | refine below_set ?_ GE145.out | refine below_set ?_ GE146.out) | exact HB.out)⟩



end Go.Proofs.YtibgjfeifpanhaaDoor.PItemValid

namespace Go.Proofs.YtibgjfeifpanhaaDoor.PItemValid
open Go.RowKit Go.Proofs.YtibgjfeifpanhaaDoorW.PrintWords Go.Proofs.YtibgjfeifpanhaaDoorW.PrintLast Go.Proofs.YtibgjfeifpanhaaDoorW.PrintMore
attribute [local go_sem] max2_int min2_int max_two min_two max_three min_three max_four min_four   -- for this text's walks alone
set_option linter.unusedVariables false
set_option linter.unusedSimpArgs false

attribute [local go_sem high] eqA29
/-! ### ringworkref01_CompareRows: function 27 -/
mutual
def ringworkref01_CompareRows.l0 : Nat → List (S29) → List (S29) → Int → Option (Int)
  | 0, _, _, _ => none
  | k + 1, x0, x1, x5 => if x5 < (x0.length : Int) then (ringworkref01_CompareRows.j1 k x0 x1 x5 (decide (x5 < (x1.length : Int)))) else (ringworkref01_CompareRows.j1 k x0 x1 x5 false)
def ringworkref01_CompareRows.j1 : Nat → List (S29) → List (S29) → Int → Bool → Option (Int)
  | 0, _, _, _, _ => none
  | k + 1, x0, x1, x5, x16 => if x16 = true then (if 0 ≤ x5 then (if x5 < (x0.length : Int) then (if x5 < (x1.length : Int) then ((ringworkref01_Compare.f k ((rd_T29 x0 x5).f0) ((rd_T29 x0 x5).f1) ((rd_T29 x0 x5).f2) ((rd_T29 x1 x5).f0) ((rd_T29 x1 x5).f1) ((rd_T29 x1 x5).f2)).bind fun t152 => (if t152 = 0 then (ringworkref01_CompareRows.l0 k x0 x1 (wrap64 (x5 + 1))) else (some t152))) else (none)) else (none)) else (none)) else ((ringworkref01_less.f (x0.length : Int) (x1.length : Int)).bind fun t153 => (some t153))
end
def ringworkref01_CompareRows.f (k : Nat) (l0 : List (S29)) (l1 : List (S29)) : Option (Int) := ringworkref01_CompareRows.l0 k l0 l1 0
theorem ringworkref01_CompareRows.mono_l : ∀ k, (∀ y0 y1 y2, LeO (ringworkref01_CompareRows.l0 k y0 y1 y2) (ringworkref01_CompareRows.l0 (k + 1) y0 y1 y2)) ∧ (∀ y0 y1 y2 y3, LeO (ringworkref01_CompareRows.j1 k y0 y1 y2 y3) (ringworkref01_CompareRows.j1 (k + 1) y0 y1 y2 y3))
  | 0 => ⟨fun _ _ _ r h => by simp [ringworkref01_CompareRows.l0] at h, fun _ _ _ _ r h => by simp [ringworkref01_CompareRows.j1] at h⟩
  | k + 1 => by
    obtain ⟨ih0, ih1⟩ := ringworkref01_CompareRows.mono_l k
    refine ⟨?_, ?_⟩
    · intro y0 y1 y2
      unfold ringworkref01_CompareRows.l0
      repeat' first
      | (with_reducible exact ih0 _ _ _)
      | (with_reducible exact ih1 _ _ _ _)
      | (with_reducible exact ringworkref01_Compare.mono _ _ _ _ _ _ _)
      | (with_reducible exact LeO.refl _)
      | (with_reducible exact LeO.none _)
      | (with_reducible refine LeO.ite ?_ ?_)
      | (with_reducible refine LeO.bind ?_ (fun _ => ?_))
      | exact ih0 _ _ _
      | exact ih1 _ _ _ _
      | exact ringworkref01_Compare.mono _ _ _ _ _ _ _
      | exact LeO.none _
      | refine LeO.ite ?_ ?_
      | refine LeO.bind ?_ (fun _ => ?_)
    · intro y0 y1 y2 y3
      unfold ringworkref01_CompareRows.j1
      repeat' first
      | (with_reducible exact ih0 _ _ _)
      | (with_reducible exact ih1 _ _ _ _)
      | (with_reducible exact ringworkref01_Compare.mono _ _ _ _ _ _ _)
      | (with_reducible exact LeO.refl _)
      | (with_reducible exact LeO.none _)
      | (with_reducible refine LeO.ite ?_ ?_)
      | (with_reducible refine LeO.bind ?_ (fun _ => ?_))
      | exact ih0 _ _ _
      | exact ih1 _ _ _ _
      | exact ringworkref01_Compare.mono _ _ _ _ _ _ _
      | exact LeO.none _
      | refine LeO.ite ?_ ?_
      | refine LeO.bind ?_ (fun _ => ?_)
theorem ringworkref01_CompareRows.mono : ∀ a0 a1 k, LeO (ringworkref01_CompareRows.f k a0 a1) (ringworkref01_CompareRows.f (k + 1) a0 a1) := by
  intro a0 a1 k
  obtain ⟨ih0, ih1⟩ := ringworkref01_CompareRows.mono_l k
  unfold ringworkref01_CompareRows.f
  repeat' first
      | (with_reducible exact ih0 _ _ _)
      | (with_reducible exact ih1 _ _ _ _)
      | (with_reducible exact ringworkref01_Compare.mono _ _ _ _ _ _ _)
      | (with_reducible exact LeO.refl _)
      | (with_reducible exact LeO.none _)
      | (with_reducible refine LeO.ite ?_ ?_)
      | (with_reducible refine LeO.bind ?_ (fun _ => ?_))
      | exact ih0 _ _ _
      | exact ih1 _ _ _ _
      | exact ringworkref01_Compare.mono _ _ _ _ _ _ _
      | exact LeO.none _
      | refine LeO.ite ?_ ?_
      | refine LeO.bind ?_ (fun _ => ?_)
def ringworkref01_CompareRows.T4 : Bool × List (List Nat × List Nat) := (true, [([], []), ([], []), ([0, 1], [0, 1]), ([2], [2]), ([], []), ([], []), ([4, 5], [4, 5]), ([6], [6]), ([3, 7], [3, 7]), ([8, 8, 0, 1, 2, 3, 4, 5, 6, 7, 8], [8])])
def ringworkref01_CompareRows.B4 : List Nat := [0, 0, 3, 7, 0, 0, 48, 112, 255, 511]
theorem ringworkref01_CompareRows.tab4 : rtab .any (opsOf Tryd.f27 4) = ringworkref01_CompareRows.T4 := by kernel_rfl
theorem ringworkref01_CompareRows.bits4 : waitsOk ringworkref01_CompareRows.T4.2 ringworkref01_CompareRows.B4 = true := by kernel_rfl
set_option maxHeartbeats 8000000 in
set_option maxRecDepth 100000 in
theorem ringworkref01_CompareRows.calls (k : Nat) (A0 : Option Addr) (c0 : Nat) (l0 : List (S29)) (A1 : Option Addr) (c1 : Nat) (l1 : List (S29)) (r : Int) (w : World) (hr0 : Kd.C k29 w A0 l0.length l0) (hc0 : l0.length ≤ c0) (hr1 : Kd.C k29 w A1 l1.length l1) (hc1 : l1.length ≤ c1) (h : ringworkref01_CompareRows.f k l0 l1 = some r) :
    Calls Tryd.prog 27 #[.slice A0 l0.length c0, .slice A1 l1.length c1] w fun e w' => e = .returned (.int .i64 r) ∧ Below w.heap.size w w' := by
  have hu29 := Tryd.underlying29
  have HR0 := Aside0.mk hr0
  have HC0 := Aside0.mk hc0
  clear hr0 hc0
  have HR1 := Aside0.mk hr1
  have HC1 := Aside0.mk hc1
  clear hr1 hc1
  have HB := Aside0.mk (Below.refl w.heap.size w)
  have H : (ringworkref01_CompareRows.l0 k l0 l1 0) = some r := h
  clear h
  have H' := Aside0.mk H
  clear H
  go_enter Tryd.func27, Tryd.ntmps27
  go_wp2
  go_loopg [5] k (fun kq v5 w' => ∃ (x5_1 : Int), v5 = .int .i64 x5_1 ∧ Aside0 (ringworkref01_CompareRows.l0 kq l0 l1 x5_1 = some r) ∧ Aside0 (kq ≤ k) ∧ Aside0 (Below w.heap.size w w'))
  case atStart => exact ⟨(0), (by first | rfl | (simp; done) | (simp [*]; done)), H', ⟨Nat.le_refl _⟩, ⟨by repeat (first | (with_reducible first | exact HB.out | apply below_alloc | apply pw_below_drewN | apply below_drew1) | exact HB.out)⟩⟩
  case round =>
    clear H'
    try clear c1
    try clear c2
    try clear p2
    obtain ⟨x5_1, rfl, HA, HK1, HB⟩ := hrel
    cases gk with
    | zero => exact absurd HA.out (by simp [ringworkref01_CompareRows.l0])
    | succ k1 =>
      have H := HA.out
      clear HA
      simp only [ringworkref01_CompareRows.l0] at H
      have HC3 := Aside0.mk H
      clear H
      go_upto_region 2 with (fail)
      go_cut [16] (fun v16 wc => ∃ (kq : Nat) (x16_2 : Bool), v16 = .bool x16_2 ∧ Aside0 (ringworkref01_CompareRows.j1 kq l0 l1 x5_1 x16_2 = some r) ∧ Aside0 (kq ≤ k1) ∧ Aside0 (Below w.heap.size w wc))
      case first =>
        have H := HC3.out
        clear HC3
        by_cases c4 : x5_1 < (l0.length : Int)
        · rw [if_pos c4] at H
          have c4b0 : decide (x5_1 < (l0.length : Int)) = true := decide_eq_true c4
          clear c4
          (first | rw [c4b0] | (simp only [i64_w, i32_w]; rw [c4b0]) | skip)
          have H' := Aside0.mk H
          clear H
          go_wp2
          go_meet
          case rel => exact ⟨_, (decide (x5_1 < (l1.length : Int))), (by first | rfl | (simp; done) | (simp [*]; done)), H', ⟨by have := HK1.out; first | omega | exact Nat.le_refl _⟩, ⟨by repeat (first | (with_reducible first | exact HB.out | apply below_alloc | apply pw_below_drewN | apply below_drew1) | exact HB.out)⟩⟩
        · rw [if_neg c4] at H
          have c4b0 : decide (x5_1 < (l0.length : Int)) = false := decide_eq_false c4
          clear c4
          (first | rw [c4b0] | (simp only [i64_w, i32_w]; rw [c4b0]) | skip)
          have H' := Aside0.mk H
          clear H
          go_wp2
          go_meet
          case rel => exact ⟨_, (false), (by first | rfl | (simp; done) | (simp [*]; done)), H', ⟨by have := HK1.out; first | omega | exact Nat.le_refl _⟩, ⟨by repeat (first | (with_reducible first | exact HB.out | apply below_alloc | apply pw_below_drewN | apply below_drew1) | exact HB.out)⟩⟩
      case rest =>
        clear HC3
        try clear c1
        try clear c2
        try clear p2
        try clear c4
        try clear c4b0
        try clear p2
        obtain ⟨kq, x16_2, rfl, HA, HJ2, HB⟩ := hcut
        cases kq with
        | zero => exact absurd HA.out (by simp [ringworkref01_CompareRows.j1])
        | succ kj2 =>
          have H := HA.out
          clear HA
          simp only [ringworkref01_CompareRows.j1] at H
          by_cases c5 : x16_2 = true
          · subst c5
            have H1 : (if 0 ≤ x5_1 then (if x5_1 < (l0.length : Int) then (if x5_1 < (l1.length : Int) then ((ringworkref01_Compare.f kj2 ((rd_T29 l0 x5_1).f0) ((rd_T29 l0 x5_1).f1) ((rd_T29 l0 x5_1).f2) ((rd_T29 l1 x5_1).f0) ((rd_T29 l1 x5_1).f1) ((rd_T29 l1 x5_1).f2)).bind fun t152 => (if t152 = 0 then (ringworkref01_CompareRows.l0 kj2 l0 l1 (wrap64 (x5_1 + 1))) else (some t152))) else (none)) else (none)) else (none)) = some r := by rw [if_pos rfl] at H; exact H
            clear H
            have H := H1
            clear H1
            by_cases c6 : 0 ≤ x5_1
            · rw [if_pos c6] at H
              have c6b0 : decide (0 ≤ x5_1) = true := decide_eq_true c6
              clear c6
              by_cases c7 : x5_1 < (l0.length : Int)
              · rw [if_pos c7] at H
                have c7b0 : decide (x5_1 < (l0.length : Int)) = true := decide_eq_true c7
                clear c7
                by_cases c8 : x5_1 < (l1.length : Int)
                · rw [if_pos c8] at H
                  have c8b0 : decide (x5_1 < (l1.length : Int)) = true := decide_eq_true c8
                  clear c8
                  replace H := Option.bind_eq_some_iff.mp H
                  obtain ⟨t152, A90, H⟩ := H
                  replace H : (if t152 = 0 then (ringworkref01_CompareRows.l0 kj2 l0 l1 (wrap64 (x5_1 + 1))) else (some t152)) = some r := H
                  have A9 := Aside0.mk A90
                  clear A90
                  by_cases c10 : t152 = 0
                  · rw [if_pos c10] at H
                    have c10b0 : (t152 == 0) = true := beq_iff_eq.mpr c10
                    have c10b1 : (t152 != 0) = false := bne_eq_false_iff_eq.mpr c10
                    clear c10
                    have H' := Aside0.mk H
                    clear H
                    try go_wp2
                    have n0_ := Aside0.mk (below_drew1 HB.out)
                    clear HB
                    have HB := n0_
                    clear n0_
                    have p150 : 0 ≤ (x5_1 : Int) := of_decide_eq_true (by first | (with_reducible assumption) | assumption)
                    have q150 : x5_1 < (l0.length : Int) := of_decide_eq_true (by first | (with_reducible assumption) | assumption)
                    obtain ⟨ad150, e150, hx150_0, hx150_1, hx150_2⟩ := at_T29 HR0.out x5_1 p150 q150
                    have hw150_2 := hx150_2
                    have hw150_1 := hx150_1
                    have hw150_0 := hx150_0
                    cases e150
                    replace hx150_0 := (HB.out.cell (World.block_lt_of_cell? w _ hx150_0)).trans hx150_0
                    replace hx150_1 := (HB.out.cell (World.block_lt_of_cell? w _ hx150_1)).trans hx150_1
                    replace hx150_2 := (HB.out.cell (World.block_lt_of_cell? w _ hx150_2)).trans hx150_2
                    replace p150 := eq_true p150
                    replace q150 := eq_true q150
                    have p151 : 0 ≤ (x5_1 : Int) := of_decide_eq_true (by first | (with_reducible assumption) | assumption)
                    have q151 : x5_1 < (l1.length : Int) := of_decide_eq_true (by first | (with_reducible assumption) | assumption)
                    obtain ⟨ad151, e151, hx151_0, hx151_1, hx151_2⟩ := at_T29 HR1.out x5_1 p151 q151
                    have hw151_2 := hx151_2
                    have hw151_1 := hx151_1
                    have hw151_0 := hx151_0
                    cases e151
                    replace hx151_0 := (HB.out.cell (World.block_lt_of_cell? w _ hx151_0)).trans hx151_0
                    replace hx151_1 := (HB.out.cell (World.block_lt_of_cell? w _ hx151_1)).trans hx151_1
                    replace hx151_2 := (HB.out.cell (World.block_lt_of_cell? w _ hx151_2)).trans hx151_2
                    replace p151 := eq_true p151
                    replace q151 := eq_true q151
                    refine start_ (n := 10) (S := fun w' => w'.cell? (ad150.add ((x5_1).toNat * 3)) = some (.int .i64 ((rd_T29 l0 x5_1).f0)) ∧ w'.cell? ⟨(ad150.add ((x5_1).toNat * 3)).block, (ad150.add ((x5_1).toNat * 3)).off + 1, none⟩ = some (.int .i64 ((rd_T29 l0 x5_1).f1)) ∧ w'.cell? ⟨(ad150.add ((x5_1).toNat * 3)).block, (ad150.add ((x5_1).toNat * 3)).off + 2, none⟩ = some (.string ((rd_T29 l0 x5_1).f2)) ∧ w'.cell? (ad151.add ((x5_1).toNat * 3)) = some (.int .i64 ((rd_T29 l1 x5_1).f0)) ∧ w'.cell? ⟨(ad151.add ((x5_1).toNat * 3)).block, (ad151.add ((x5_1).toNat * 3)).off + 1, none⟩ = some (.int .i64 ((rd_T29 l1 x5_1).f1)) ∧ w'.cell? ⟨(ad151.add ((x5_1).toNat * 3)).block, (ad151.add ((x5_1).toNat * 3)).off + 2, none⟩ = some (.string ((rd_T29 l1 x5_1).f2))) (ds := []) #[false, false, false, false, false, false, false, false, false, false] (by kernel_rfl) rfl rfl ⟨((HB.out.cell (World.block_lt_of_cell? w _ hw150_0)).trans hw150_0), ((HB.out.cell (World.block_lt_of_cell? w _ hw150_1)).trans hw150_1), ((HB.out.cell (World.block_lt_of_cell? w _ hw150_2)).trans hw150_2), ((HB.out.cell (World.block_lt_of_cell? w _ hw151_0)).trans hw151_0), ((HB.out.cell (World.block_lt_of_cell? w _ hw151_1)).trans hw151_1), ((HB.out.cell (World.block_lt_of_cell? w _ hw151_2)).trans hw151_2)⟩ (fun hHeld => ?_); refine with_tabW ringworkref01_CompareRows.tab4 ringworkref01_CompareRows.bits4 (fun HT_ HW_ => ?_)
                    generalize wc.drew = w11 at HB hx150_0 hx150_1 hx150_2 hx151_0 hx151_1 hx151_2 hHeld ⊢
                    refine pure_ (i := 0) (N := some 19) (v := ?_) (a' := ?_) #[true, false, false, false, false, false, false, false, false, false] rfl rfl (any_of HT_.out (by kernel_rfl)) (fun _ _ _ h => h) (Or.inl ⟨by rfl, ?_⟩) ?_ ?_
                    rotate_left
                    · intro w'
                      go_simp
                      with_reducible rfl
                    rotate_left
                    · simp only [Act.put, List.setIfInBounds_toArray, List.set_cons_zero, List.set_cons_succ, i64_w, i32_w]
                      rfl
                    refine pure_ (i := 1) (N := some 20) (v := ?_) (a' := ?_) #[true, true, false, false, false, false, false, false, false, false] rfl rfl (any_of HT_.out (by kernel_rfl)) (fun _ _ _ h => h) (Or.inl ⟨by rfl, ?_⟩) ?_ ?_
                    rotate_left
                    · intro w'
                      go_simp
                      with_reducible rfl
                    rotate_left
                    · simp only [Act.put, List.setIfInBounds_toArray, List.set_cons_zero, List.set_cons_succ, i64_w, i32_w]
                      rfl
                    refine pure_ (i := 2) (N := some 21) (v := ?_) (a' := ?_) #[true, true, true, false, false, false, false, false, false, false] rfl rfl (any_of HT_.out (by kernel_rfl)) (fun _ _ _ h => h) (Or.inl ⟨by rfl, ?_⟩) ?_ ?_
                    rotate_left
                    · intro w'
                      go_simp
                      with_reducible rfl
                    rotate_left
                    · simp only [Act.put, List.setIfInBounds_toArray, List.set_cons_zero, List.set_cons_succ, i64_w, i32_w]
                      rfl
                    refine pure_ (i := 4) (N := some 23) (v := ?_) (a' := ?_) #[true, true, true, false, true, false, false, false, false, false] rfl rfl (any_of HT_.out (by kernel_rfl)) (fun _ _ _ h => h) (Or.inl ⟨by rfl, ?_⟩) ?_ ?_
                    rotate_left
                    · intro w'
                      go_simp
                      with_reducible rfl
                    rotate_left
                    · simp only [Act.put, List.setIfInBounds_toArray, List.set_cons_zero, List.set_cons_succ, i64_w, i32_w]
                      rfl
                    refine pure_ (i := 5) (N := some 24) (v := ?_) (a' := ?_) #[true, true, true, false, true, true, false, false, false, false] rfl rfl (any_of HT_.out (by kernel_rfl)) (fun _ _ _ h => h) (Or.inl ⟨by rfl, ?_⟩) ?_ ?_
                    rotate_left
                    · intro w'
                      go_simp
                      with_reducible rfl
                    rotate_left
                    · simp only [Act.put, List.setIfInBounds_toArray, List.set_cons_zero, List.set_cons_succ, i64_w, i32_w]
                      rfl
                    refine pure_ (i := 6) (N := some 25) (v := ?_) (a' := ?_) #[true, true, true, false, true, true, true, false, false, false] rfl rfl (any_of HT_.out (by kernel_rfl)) (fun _ _ _ h => h) (Or.inl ⟨by rfl, ?_⟩) ?_ ?_
                    rotate_left
                    · intro w'
                      go_simp
                      with_reducible rfl
                    rotate_left
                    · simp only [Act.put, List.setIfInBounds_toArray, List.set_cons_zero, List.set_cons_succ, i64_w, i32_w]
                      rfl
                    refine take_ (i := 3) (N := some 22) (v := ?_) (a' := ?_) #[true, true, true, true, true, true, true, false, false, false] rfl rfl (take_ofW HT_.out HW_.out (by kernel_rfl)) (fun _ _ _ h => h) (Or.inl ⟨by rfl, ?_⟩) hHeld ?_ ?_
                    rotate_left
                    · rintro w' ⟨s0, s1, s2, s3, s4, s5⟩
                      go_simp
                      with_reducible rfl
                    rotate_left
                    · simp only [Act.put, List.setIfInBounds_toArray, List.set_cons_zero, List.set_cons_succ, i64_w, i32_w]
                      rfl
                    refine take_ (i := 7) (N := some 26) (v := ?_) (a' := ?_) #[true, true, true, true, true, true, true, true, false, false] rfl rfl (take_ofW HT_.out HW_.out (by kernel_rfl)) (fun _ _ _ h => h) (Or.inl ⟨by rfl, ?_⟩) hHeld ?_ ?_
                    rotate_left
                    · rintro w' ⟨s0, s1, s2, s3, s4, s5⟩
                      go_simp
                      with_reducible rfl
                    rotate_left
                    · simp only [Act.put, List.setIfInBounds_toArray, List.set_cons_zero, List.set_cons_succ, i64_w, i32_w]
                      rfl
                    refine one_ (i := 8) (N := some 27) #[true, true, true, true, true, true, true, true, true, false] rfl rfl (one_of HT_.out (by kernel_rfl)) (by decide) (fun K hK => ?_)
                    refine goes_ Tryd.func25 (by kernel_rfl) rfl #[.agg #[.int .i64 ((rd_T29 l0 x5_1).f0), .int .i64 ((rd_T29 l0 x5_1).f1), .string ((rd_T29 l0 x5_1).f2)], .agg #[.int .i64 ((rd_T29 l1 x5_1).f0), .int .i64 ((rd_T29 l1 x5_1).f1), .string ((rd_T29 l1 x5_1).f2)]] (by rfl) rfl rfl (by (try simp only [List.map_toArray, List.map_cons, List.map_nil]); first | done | rfl | (simp only [List.length_drop, List.length_take]; rfl)) ?_
                    with_reducible refine (ringworkref01_Compare.calls kj2 ((rd_T29 l0 x5_1).f0) ((rd_T29 l0 x5_1).f1) ((rd_T29 l0 x5_1).f2) ((rd_T29 l1 x5_1).f0) ((rd_T29 l1 x5_1).f1) ((rd_T29 l1 x5_1).f2) t152 _ A9.out).mono ?_
                    rintro e w12 ⟨rfl, hb⟩
                    refine ⟨_, rfl, ?_⟩
                    have n0_ := Aside0.mk (below_step (by repeat (first | (with_reducible first | exact HB.out | apply below_alloc | apply pw_below_drewN | apply below_drew1) | exact HB.out)) hb)
                    clear HB
                    have HB := n0_
                    clear n0_
                    (try clear hb)
                    (try clear hb2)
                    (try clear hk)
                    (try clear hi)
                    refine hK.out _ _ ⟨((HB.out.cell (World.block_lt_of_cell? w _ hw150_0)).trans hw150_0), ((HB.out.cell (World.block_lt_of_cell? w _ hw150_1)).trans hw150_1), ((HB.out.cell (World.block_lt_of_cell? w _ hw150_2)).trans hw150_2), ((HB.out.cell (World.block_lt_of_cell? w _ hw151_0)).trans hw151_0), ((HB.out.cell (World.block_lt_of_cell? w _ hw151_1)).trans hw151_1), ((HB.out.cell (World.block_lt_of_cell? w _ hw151_2)).trans hw151_2)⟩ (fun hHeld => ?_)
                    clear hK K
                    refine norm_ (a' := ?_) ?_ ?_
                    rotate_left
                    · show Act.put _ (some 27) _ = _
                      simp only [Act.put, List.setIfInBounds_toArray, List.set_cons_zero, List.set_cons_succ, i64_w, i32_w]
                      rfl
                    refine pure_ (i := 9) (N := some 6) (v := ?_) (a' := ?_) #[true, true, true, true, true, true, true, true, true, true] rfl rfl (any_of HT_.out (by kernel_rfl)) (fun _ _ _ h => h) (Or.inl ⟨by rfl, ?_⟩) ?_ ?_
                    rotate_left
                    · intro w'
                      go_simp
                      with_reducible rfl
                    rotate_left
                    · simp only [Act.put, List.setIfInBounds_toArray, List.set_cons_zero, List.set_cons_succ, i64_w, i32_w]
                      rfl
                    refine done_ (done_of HT_.out (by kernel_rfl)) ?_
                    try go_wp2
                    go_roundg kj2
                    case measure => have := HK1.out; have := HJ2.out; omega
                    case rel => exact ⟨(wrap64 (x5_1 + 1)), (by first | rfl | (simp; done) | (simp [*]; done)), H', ⟨by have := HK1.out; have := HJ2.out; omega⟩, ⟨by repeat (first | (with_reducible first | exact HB.out | apply below_alloc | apply pw_below_drewN | apply below_drew1) | exact HB.out)⟩⟩
                  · rw [if_neg c10] at H
                    have c10b0 : (t152 == 0) = false := beq_eq_false_iff_ne.mpr c10
                    have c10b1 : (t152 != 0) = true := bne_iff_ne.mpr c10
                    obtain rfl := Option.some.inj H
                    try go_wp2
                    have n0_ := Aside0.mk (below_drew1 HB.out)
                    clear HB
                    have HB := n0_
                    clear n0_
                    have p150 : 0 ≤ (x5_1 : Int) := of_decide_eq_true (by first | (with_reducible assumption) | assumption)
                    have q150 : x5_1 < (l0.length : Int) := of_decide_eq_true (by first | (with_reducible assumption) | assumption)
                    obtain ⟨ad150, e150, hx150_0, hx150_1, hx150_2⟩ := at_T29 HR0.out x5_1 p150 q150
                    have hw150_2 := hx150_2
                    have hw150_1 := hx150_1
                    have hw150_0 := hx150_0
                    cases e150
                    replace hx150_0 := (HB.out.cell (World.block_lt_of_cell? w _ hx150_0)).trans hx150_0
                    replace hx150_1 := (HB.out.cell (World.block_lt_of_cell? w _ hx150_1)).trans hx150_1
                    replace hx150_2 := (HB.out.cell (World.block_lt_of_cell? w _ hx150_2)).trans hx150_2
                    replace p150 := eq_true p150
                    replace q150 := eq_true q150
                    have p151 : 0 ≤ (x5_1 : Int) := of_decide_eq_true (by first | (with_reducible assumption) | assumption)
                    have q151 : x5_1 < (l1.length : Int) := of_decide_eq_true (by first | (with_reducible assumption) | assumption)
                    obtain ⟨ad151, e151, hx151_0, hx151_1, hx151_2⟩ := at_T29 HR1.out x5_1 p151 q151
                    have hw151_2 := hx151_2
                    have hw151_1 := hx151_1
                    have hw151_0 := hx151_0
                    cases e151
                    replace hx151_0 := (HB.out.cell (World.block_lt_of_cell? w _ hx151_0)).trans hx151_0
                    replace hx151_1 := (HB.out.cell (World.block_lt_of_cell? w _ hx151_1)).trans hx151_1
                    replace hx151_2 := (HB.out.cell (World.block_lt_of_cell? w _ hx151_2)).trans hx151_2
                    replace p151 := eq_true p151
                    replace q151 := eq_true q151
                    refine start_ (n := 10) (S := fun w' => w'.cell? (ad150.add ((x5_1).toNat * 3)) = some (.int .i64 ((rd_T29 l0 x5_1).f0)) ∧ w'.cell? ⟨(ad150.add ((x5_1).toNat * 3)).block, (ad150.add ((x5_1).toNat * 3)).off + 1, none⟩ = some (.int .i64 ((rd_T29 l0 x5_1).f1)) ∧ w'.cell? ⟨(ad150.add ((x5_1).toNat * 3)).block, (ad150.add ((x5_1).toNat * 3)).off + 2, none⟩ = some (.string ((rd_T29 l0 x5_1).f2)) ∧ w'.cell? (ad151.add ((x5_1).toNat * 3)) = some (.int .i64 ((rd_T29 l1 x5_1).f0)) ∧ w'.cell? ⟨(ad151.add ((x5_1).toNat * 3)).block, (ad151.add ((x5_1).toNat * 3)).off + 1, none⟩ = some (.int .i64 ((rd_T29 l1 x5_1).f1)) ∧ w'.cell? ⟨(ad151.add ((x5_1).toNat * 3)).block, (ad151.add ((x5_1).toNat * 3)).off + 2, none⟩ = some (.string ((rd_T29 l1 x5_1).f2))) (ds := []) #[false, false, false, false, false, false, false, false, false, false] (by kernel_rfl) rfl rfl ⟨((HB.out.cell (World.block_lt_of_cell? w _ hw150_0)).trans hw150_0), ((HB.out.cell (World.block_lt_of_cell? w _ hw150_1)).trans hw150_1), ((HB.out.cell (World.block_lt_of_cell? w _ hw150_2)).trans hw150_2), ((HB.out.cell (World.block_lt_of_cell? w _ hw151_0)).trans hw151_0), ((HB.out.cell (World.block_lt_of_cell? w _ hw151_1)).trans hw151_1), ((HB.out.cell (World.block_lt_of_cell? w _ hw151_2)).trans hw151_2)⟩ (fun hHeld => ?_); refine with_tabW ringworkref01_CompareRows.tab4 ringworkref01_CompareRows.bits4 (fun HT_ HW_ => ?_)
                    generalize wc.drew = w13 at HB hx150_0 hx150_1 hx150_2 hx151_0 hx151_1 hx151_2 hHeld ⊢
                    refine pure_ (i := 0) (N := some 19) (v := ?_) (a' := ?_) #[true, false, false, false, false, false, false, false, false, false] rfl rfl (any_of HT_.out (by kernel_rfl)) (fun _ _ _ h => h) (Or.inl ⟨by rfl, ?_⟩) ?_ ?_
                    rotate_left
                    · intro w'
                      go_simp
                      with_reducible rfl
                    rotate_left
                    · simp only [Act.put, List.setIfInBounds_toArray, List.set_cons_zero, List.set_cons_succ, i64_w, i32_w]
                      rfl
                    refine pure_ (i := 1) (N := some 20) (v := ?_) (a' := ?_) #[true, true, false, false, false, false, false, false, false, false] rfl rfl (any_of HT_.out (by kernel_rfl)) (fun _ _ _ h => h) (Or.inl ⟨by rfl, ?_⟩) ?_ ?_
                    rotate_left
                    · intro w'
                      go_simp
                      with_reducible rfl
                    rotate_left
                    · simp only [Act.put, List.setIfInBounds_toArray, List.set_cons_zero, List.set_cons_succ, i64_w, i32_w]
                      rfl
                    refine pure_ (i := 2) (N := some 21) (v := ?_) (a' := ?_) #[true, true, true, false, false, false, false, false, false, false] rfl rfl (any_of HT_.out (by kernel_rfl)) (fun _ _ _ h => h) (Or.inl ⟨by rfl, ?_⟩) ?_ ?_
                    rotate_left
                    · intro w'
                      go_simp
                      with_reducible rfl
                    rotate_left
                    · simp only [Act.put, List.setIfInBounds_toArray, List.set_cons_zero, List.set_cons_succ, i64_w, i32_w]
                      rfl
                    refine pure_ (i := 4) (N := some 23) (v := ?_) (a' := ?_) #[true, true, true, false, true, false, false, false, false, false] rfl rfl (any_of HT_.out (by kernel_rfl)) (fun _ _ _ h => h) (Or.inl ⟨by rfl, ?_⟩) ?_ ?_
                    rotate_left
                    · intro w'
                      go_simp
                      with_reducible rfl
                    rotate_left
                    · simp only [Act.put, List.setIfInBounds_toArray, List.set_cons_zero, List.set_cons_succ, i64_w, i32_w]
                      rfl
                    refine pure_ (i := 5) (N := some 24) (v := ?_) (a' := ?_) #[true, true, true, false, true, true, false, false, false, false] rfl rfl (any_of HT_.out (by kernel_rfl)) (fun _ _ _ h => h) (Or.inl ⟨by rfl, ?_⟩) ?_ ?_
                    rotate_left
                    · intro w'
                      go_simp
                      with_reducible rfl
                    rotate_left
                    · simp only [Act.put, List.setIfInBounds_toArray, List.set_cons_zero, List.set_cons_succ, i64_w, i32_w]
                      rfl
                    refine pure_ (i := 6) (N := some 25) (v := ?_) (a' := ?_) #[true, true, true, false, true, true, true, false, false, false] rfl rfl (any_of HT_.out (by kernel_rfl)) (fun _ _ _ h => h) (Or.inl ⟨by rfl, ?_⟩) ?_ ?_
                    rotate_left
                    · intro w'
                      go_simp
                      with_reducible rfl
                    rotate_left
                    · simp only [Act.put, List.setIfInBounds_toArray, List.set_cons_zero, List.set_cons_succ, i64_w, i32_w]
                      rfl
                    refine take_ (i := 3) (N := some 22) (v := ?_) (a' := ?_) #[true, true, true, true, true, true, true, false, false, false] rfl rfl (take_ofW HT_.out HW_.out (by kernel_rfl)) (fun _ _ _ h => h) (Or.inl ⟨by rfl, ?_⟩) hHeld ?_ ?_
                    rotate_left
                    · rintro w' ⟨s0, s1, s2, s3, s4, s5⟩
                      go_simp
                      with_reducible rfl
                    rotate_left
                    · simp only [Act.put, List.setIfInBounds_toArray, List.set_cons_zero, List.set_cons_succ, i64_w, i32_w]
                      rfl
                    refine take_ (i := 7) (N := some 26) (v := ?_) (a' := ?_) #[true, true, true, true, true, true, true, true, false, false] rfl rfl (take_ofW HT_.out HW_.out (by kernel_rfl)) (fun _ _ _ h => h) (Or.inl ⟨by rfl, ?_⟩) hHeld ?_ ?_
                    rotate_left
                    · rintro w' ⟨s0, s1, s2, s3, s4, s5⟩
                      go_simp
                      with_reducible rfl
                    rotate_left
                    · simp only [Act.put, List.setIfInBounds_toArray, List.set_cons_zero, List.set_cons_succ, i64_w, i32_w]
                      rfl
                    refine one_ (i := 8) (N := some 27) #[true, true, true, true, true, true, true, true, true, false] rfl rfl (one_of HT_.out (by kernel_rfl)) (by decide) (fun K hK => ?_)
                    refine goes_ Tryd.func25 (by kernel_rfl) rfl #[.agg #[.int .i64 ((rd_T29 l0 x5_1).f0), .int .i64 ((rd_T29 l0 x5_1).f1), .string ((rd_T29 l0 x5_1).f2)], .agg #[.int .i64 ((rd_T29 l1 x5_1).f0), .int .i64 ((rd_T29 l1 x5_1).f1), .string ((rd_T29 l1 x5_1).f2)]] (by rfl) rfl rfl (by (try simp only [List.map_toArray, List.map_cons, List.map_nil]); first | done | rfl | (simp only [List.length_drop, List.length_take]; rfl)) ?_
                    with_reducible refine (ringworkref01_Compare.calls kj2 ((rd_T29 l0 x5_1).f0) ((rd_T29 l0 x5_1).f1) ((rd_T29 l0 x5_1).f2) ((rd_T29 l1 x5_1).f0) ((rd_T29 l1 x5_1).f1) ((rd_T29 l1 x5_1).f2) t152 _ A9.out).mono ?_
                    rintro e w14 ⟨rfl, hb⟩
                    refine ⟨_, rfl, ?_⟩
                    have n0_ := Aside0.mk (below_step (by repeat (first | (with_reducible first | exact HB.out | apply below_alloc | apply pw_below_drewN | apply below_drew1) | exact HB.out)) hb)
                    clear HB
                    have HB := n0_
                    clear n0_
                    (try clear hb)
                    (try clear hb2)
                    (try clear hk)
                    (try clear hi)
                    refine hK.out _ _ ⟨((HB.out.cell (World.block_lt_of_cell? w _ hw150_0)).trans hw150_0), ((HB.out.cell (World.block_lt_of_cell? w _ hw150_1)).trans hw150_1), ((HB.out.cell (World.block_lt_of_cell? w _ hw150_2)).trans hw150_2), ((HB.out.cell (World.block_lt_of_cell? w _ hw151_0)).trans hw151_0), ((HB.out.cell (World.block_lt_of_cell? w _ hw151_1)).trans hw151_1), ((HB.out.cell (World.block_lt_of_cell? w _ hw151_2)).trans hw151_2)⟩ (fun hHeld => ?_)
                    clear hK K
                    refine norm_ (a' := ?_) ?_ ?_
                    rotate_left
                    · show Act.put _ (some 27) _ = _
                      simp only [Act.put, List.setIfInBounds_toArray, List.set_cons_zero, List.set_cons_succ, i64_w, i32_w]
                      rfl
                    refine pure_ (i := 9) (N := some 6) (v := ?_) (a' := ?_) #[true, true, true, true, true, true, true, true, true, true] rfl rfl (any_of HT_.out (by kernel_rfl)) (fun _ _ _ h => h) (Or.inl ⟨by rfl, ?_⟩) ?_ ?_
                    rotate_left
                    · intro w'
                      go_simp
                      with_reducible rfl
                    rotate_left
                    · simp only [Act.put, List.setIfInBounds_toArray, List.set_cons_zero, List.set_cons_succ, i64_w, i32_w]
                      rfl
                    refine done_ (done_of HT_.out (by kernel_rfl)) ?_
                    try go_wp2
                    go_ret
                    exact ⟨by first | rfl | (simp [errW_none, errW_some] <;> rfl) | (simp [*, errW_none, errW_some] <;> rfl), by repeat (first | (with_reducible first | exact HB.out | apply below_alloc | apply pw_below_drewN | apply below_drew1) | exact HB.out)⟩
                · rw [if_neg c8] at H
                  exact absurd H (by simp)
              · rw [if_neg c7] at H
                exact absurd H (by simp)
            · rw [if_neg c6] at H
              exact absurd H (by simp)
          · replace c5 := Bool.eq_false_iff.mpr c5
            subst c5
            have H1 : ((ringworkref01_less.f (l0.length : Int) (l1.length : Int)).bind fun t153 => (some t153)) = some r := by rw [if_neg (show ¬ (false = true) by decide)] at H; exact H
            clear H
            have H := H1
            clear H1
            replace H := Option.bind_eq_some_iff.mp H
            obtain ⟨t153, A150, H⟩ := H
            replace H : (some t153) = some r := H
            have A15 := Aside0.mk A150
            clear A150
            obtain rfl := Option.some.inj H
            go_wp2_with (first | ((with_reducible refine gate_callee (f := 67) rfl ?_); refine goesL_ (some 35) rfl rfl Tryd.func67 (by kernel_rfl) rfl #[.int .i64 (l0.length : Int), .int .i64 (l1.length : Int)] rfl (by (try simp only [List.map_toArray, List.map_cons, List.map_nil]); first | done | rfl | (simp only [List.length_drop, List.length_take]; rfl)) ?_; (with_reducible refine (ringworkref01_less.calls (l0.length : Int) (l1.length : Int) t153 _ A15.out).mono ?_); rintro e w' ⟨rfl, ⟨nd, rfl⟩⟩; refine ⟨_, rfl, ?_⟩))
            go_ret
            exact ⟨by first | rfl | (simp [errW_none, errW_some] <;> rfl) | (simp [*, errW_none, errW_some] <;> rfl), by repeat (first | (with_reducible first | exact HB.out | apply below_alloc | apply pw_below_drewN | apply below_drew1) | exact HB.out)⟩

/-! ### api_Value_70: function 70 -/
def api_Value_70.l0 : Nat → List (S29) → List (S29) → Int → Int → Option (Bool)
  | 0, _, _, _, _ => none
  | k + 1, x0, x1, x12, x13 => if x13 < x12 then (if 0 ≤ x13 then (if x13 < (x0.length : Int) then (if x13 < (x1.length : Int) then (if (!(((rd_T29 x0 x13).f0) == ((rd_T29 x1 x13).f0)) || (!(((rd_T29 x0 x13).f1) == ((rd_T29 x1 x13).f1)) || (!((((rd_T29 x0 x13).f2).toList) == (((rd_T29 x1 x13).f2).toList))))) = true then (some false) else (api_Value_70.l0 k x0 x1 x12 (wrap64 (x13 + 1)))) else (none)) else (none)) else (none)) else (some true)
def api_Value_70.f (k : Nat) (l0 : List (S29)) (l1 : List (S29)) : Option (Bool) := if (l0.length : Int) = (l1.length : Int) then (api_Value_70.l0 k l0 l1 (l0.length : Int) 0) else (some false)
theorem api_Value_70.mono_l : ∀ k, (∀ y0 y1 y2 y3, LeO (api_Value_70.l0 k y0 y1 y2 y3) (api_Value_70.l0 (k + 1) y0 y1 y2 y3))
  | 0 => fun _ _ _ _ r h => by simp [api_Value_70.l0] at h
  | k + 1 => by
    have ih0 := api_Value_70.mono_l k
    · intro y0 y1 y2 y3
      unfold api_Value_70.l0
      repeat' first
      | (with_reducible exact ih0 _ _ _ _)
      | (with_reducible exact LeO.refl _)
      | (with_reducible exact LeO.none _)
      | (with_reducible refine LeO.ite ?_ ?_)
      | (with_reducible refine LeO.bind ?_ (fun _ => ?_))
      | exact ih0 _ _ _ _
      | exact LeO.none _
      | refine LeO.ite ?_ ?_
      | refine LeO.bind ?_ (fun _ => ?_)
theorem api_Value_70.mono : ∀ a0 a1 k, LeO (api_Value_70.f k a0 a1) (api_Value_70.f (k + 1) a0 a1) := by
  intro a0 a1 k
  have ih0 := api_Value_70.mono_l k
  unfold api_Value_70.f
  repeat' first
      | (with_reducible exact ih0 _ _ _ _)
      | (with_reducible exact LeO.refl _)
      | (with_reducible exact LeO.none _)
      | (with_reducible refine LeO.ite ?_ ?_)
      | (with_reducible refine LeO.bind ?_ (fun _ => ?_))
      | exact ih0 _ _ _ _
      | exact LeO.none _
      | refine LeO.ite ?_ ?_
      | refine LeO.bind ?_ (fun _ => ?_)
/-! ### item_Same: function 28 -/
def item_Same.f (k : Nat) (l0 : List (S29)) (l1 : List (S29)) : Option (Bool) := (api_Value_70.f k l0 l1).bind fun t156 => (some t156)
theorem item_Same.mono : ∀ a0 a1 k, LeO (item_Same.f k a0 a1) (item_Same.f (k + 1) a0 a1) := by
  intro a0 a1 k
  unfold item_Same.f
  repeat' first
      | (with_reducible exact api_Value_70.mono _ _ _)
      | (with_reducible exact LeO.refl _)
      | (with_reducible exact LeO.none _)
      | (with_reducible refine LeO.ite ?_ ?_)
      | (with_reducible refine LeO.bind ?_ (fun _ => ?_))
      | exact api_Value_70.mono _ _ _
      | exact LeO.none _
      | refine LeO.ite ?_ ?_
      | refine LeO.bind ?_ (fun _ => ?_)
/-! ### ringworkref01_Same: function 29 -/
def ringworkref01_Same.f (k : Nat) (l0 : List (S29)) (l1 : List (S29)) : Option (Bool) := (ringworkref01_CompareRows.f k l0 l1).bind fun t157 => (some (t157 == 0))
theorem ringworkref01_Same.mono : ∀ a0 a1 k, LeO (ringworkref01_Same.f k a0 a1) (ringworkref01_Same.f (k + 1) a0 a1) := by
  intro a0 a1 k
  unfold ringworkref01_Same.f
  repeat' first
      | (with_reducible exact ringworkref01_CompareRows.mono _ _ _)
      | (with_reducible exact LeO.refl _)
      | (with_reducible exact LeO.none _)
      | (with_reducible refine LeO.ite ?_ ?_)
      | (with_reducible refine LeO.bind ?_ (fun _ => ?_))
      | exact ringworkref01_CompareRows.mono _ _ _
      | exact LeO.none _
      | refine LeO.ite ?_ ?_
      | refine LeO.bind ?_ (fun _ => ?_)
set_option maxHeartbeats 8000000 in
set_option maxRecDepth 100000 in
theorem ringworkref01_Same.calls (k : Nat) (A0 : Option Addr) (c0 : Nat) (l0 : List (S29)) (A1 : Option Addr) (c1 : Nat) (l1 : List (S29)) (r : Bool) (w : World) (hr0 : Kd.C k29 w A0 l0.length l0) (hc0 : l0.length ≤ c0) (hr1 : Kd.C k29 w A1 l1.length l1) (hc1 : l1.length ≤ c1) (h : ringworkref01_Same.f k l0 l1 = some r) :
    Calls Tryd.prog 29 #[.slice A0 l0.length c0, .slice A1 l1.length c1] w fun e w' => e = .returned (.bool r) ∧ Below w.heap.size w w' := by
  have HR0 := Aside0.mk hr0
  have HC0 := Aside0.mk hc0
  clear hr0 hc0
  have HR1 := Aside0.mk hr1
  have HC1 := Aside0.mk hc1
  clear hr1 hc1
  have HB := Aside0.mk (Below.refl w.heap.size w)
  have H : ((ringworkref01_CompareRows.f k l0 l1).bind fun t157 => (some (t157 == 0))) = some r := h
  clear h
  replace H := Option.bind_eq_some_iff.mp H
  obtain ⟨t157, A30, H⟩ := H
  replace H : (some (t157 == 0)) = some r := H
  have A3 := Aside0.mk A30
  clear A30
  obtain rfl := Option.some.inj H
  go_enter Tryd.func29, Tryd.ntmps29
  go_wp2_with (first | ((with_reducible refine gate_callee (f := 27) rfl ?_); refine goesL_ (some 7) rfl rfl Tryd.func27 (by kernel_rfl) rfl #[.slice A0 l0.length c0, .slice A1 l1.length c1] rfl (by (try simp only [List.map_toArray, List.map_cons, List.map_nil]); first | done | rfl | (simp only [List.length_drop, List.length_take]; rfl)) ?_; (with_reducible refine (ringworkref01_CompareRows.calls k _ _ l0 _ _ l1 t157 _ ?side1 ?side2 ?side3 ?side4 A3.out).mono ?_); (case side1 => repeat (first | exact HR0.out | (with_reducible refine Kd.C_alloc ?_ _) | (with_reducible refine Kd.C_drewN ?_ _) | (with_reducible refine Kd.C_drew ?_))); (case side2 => exact HC0.out); (case side3 => repeat (first | exact HR1.out | (with_reducible refine Kd.C_alloc ?_ _) | (with_reducible refine Kd.C_drewN ?_ _) | (with_reducible refine Kd.C_drew ?_))); (case side4 => exact HC1.out); rintro e w4 ⟨rfl, hb⟩; refine ⟨_, rfl, ?_⟩; have n0_ := Aside0.mk (below_step (by repeat (first | (with_reducible first | exact HB.out | apply below_alloc | apply pw_below_drewN | apply below_drew1) | exact HB.out)) hb); clear HB; have HB := n0_; clear n0_; (try clear hb); (try clear hb2); (try clear hk); (try clear hi)))
  go_ret
  exact ⟨by first | rfl | (simp [errW_none, errW_some] <;> rfl) | (simp [*, errW_none, errW_some] <;> rfl), by repeat (first | (with_reducible first | exact HB.out | apply below_alloc | apply pw_below_drewN | apply below_drew1) | exact HB.out)⟩


end Go.Proofs.YtibgjfeifpanhaaDoor.PItemValid

namespace Go.Proofs.YtibgjfeifpanhaaDoor.B

structure IsCmp {α : Type} (c : α → α → Int) : Prop where
  lo : ∀ x y, -1 ≤ c x y
  hi : ∀ x y, c x y ≤ 1
  refl : ∀ x, c x x = 0
  eq : ∀ x y, c x y = 0 → x = y
  anti : ∀ x y, c x y = - c y x
  trans : ∀ x y z, c x y ≤ 0 → c y z ≤ 0 → c x z ≤ 0
def cmpI (a b : Int) : Int := if a < b then -1 else if a > b then 1 else 0
theorem cmpI_is : IsCmp cmpI where
  lo x y := by unfold cmpI; split <;> (try split) <;> omega
  hi x y := by unfold cmpI; split <;> (try split) <;> omega
  refl x := by unfold cmpI; rw [if_neg (by omega), if_neg (by omega)]
  eq x y h := by unfold cmpI at h; split at h <;> (try split at h) <;> omega
  anti x y := by unfold cmpI; split <;> (try split) <;> (try split) <;> (try split) <;> omega
  trans x y z := by
    unfold cmpI
    intro h1 h2
    repeat' split at h1
    all_goals (repeat' split at h2)
    all_goals (repeat' split)
    all_goals omega
def pairC {α β : Type} (c : α → α → Int) (d : β → β → Int) (x y : α × β) : Int := if c x.1 y.1 = 0 then d x.2 y.2 else c x.1 y.1
theorem pairC_is {α β : Type} {c : α → α → Int} {d : β → β → Int} (hc : IsCmp c) (hd : IsCmp d) : IsCmp (pairC c d) where
  lo x y := by unfold pairC; split; exact hd.lo _ _; exact hc.lo _ _
  hi x y := by unfold pairC; split; exact hd.hi _ _; exact hc.hi _ _
  refl x := by unfold pairC; rw [if_pos (hc.refl _)]; exact hd.refl _
  eq x y h := by
    unfold pairC at h
    split at h
    · rename_i e
      exact Prod.ext (hc.eq _ _ e) (hd.eq _ _ h)
    · rename_i e; exact absurd h e
  anti x y := by
    unfold pairC
    have h := hc.anti x.1 y.1
    by_cases e : c x.1 y.1 = 0
    · rw [if_pos e, if_pos (by omega)]; exact hd.anti _ _
    · rw [if_neg e, if_neg (by omega)]; exact h
  trans x y z h1 h2 := by
    unfold pairC at h1 h2 ⊢
    by_cases e1 : c x.1 y.1 = 0
    · rw [if_pos e1] at h1
      rw [hc.eq _ _ e1]
      split at h2
      · rename_i e2
        rw [if_pos e2]
        exact hd.trans _ _ _ h1 h2
      · rename_i e2
        rw [if_neg e2]
        exact h2
    · rw [if_neg e1] at h1
      split at h2
      · rename_i e2
        rw [← hc.eq _ _ e2, if_neg e1]
        exact h1
      · rename_i e2
        have h3 := hc.trans _ _ _ h1 h2
        by_cases e3 : c x.1 z.1 = 0
        · have h4 := hc.eq _ _ e3
          rw [← h4] at h2 e2
          have := hc.anti x.1 y.1
          omega
        · rw [if_neg e3]; exact h3
def lexC {α : Type} (c : α → α → Int) : List α → List α → Int
  | [], [] => 0
  | [], _ :: _ => -1
  | _ :: _, [] => 1
  | x :: r, y :: s => if c x y = 0 then lexC c r s else c x y
theorem lexC_is {α : Type} {c : α → α → Int} (hc : IsCmp c) : IsCmp (lexC c) where
  lo x := by
    induction x with
    | nil => intro y; cases y <;> simp [lexC]
    | cons a r ih => intro y; cases y with
      | nil => simp [lexC]
      | cons b s => unfold lexC; split; exact ih s; exact hc.lo _ _
  hi x := by
    induction x with
    | nil => intro y; cases y <;> simp [lexC]
    | cons a r ih => intro y; cases y with
      | nil => simp [lexC]
      | cons b s => unfold lexC; split; exact ih s; exact hc.hi _ _
  refl x := by
    induction x with
    | nil => rfl
    | cons a r ih => unfold lexC; rw [if_pos (hc.refl _)]; exact ih
  eq x := by
    induction x with
    | nil => intro y h; cases y with
      | nil => rfl
      | cons b s => simp [lexC] at h
    | cons a r ih => intro y h; cases y with
      | nil => simp [lexC] at h
      | cons b s =>
        unfold lexC at h
        split at h
        · rename_i e
          rw [hc.eq _ _ e, ih s h]
        · rename_i e; exact absurd h e
  anti x := by
    induction x with
    | nil => intro y; cases y <;> simp [lexC]
    | cons a r ih => intro y; cases y with
      | nil => simp [lexC]
      | cons b s =>
        unfold lexC
        have h := hc.anti a b
        by_cases e : c a b = 0
        · rw [if_pos e, if_pos (by omega)]; exact ih s
        · rw [if_neg e, if_neg (by omega)]; exact h
  trans x := by
    induction x with
    | nil => intro y z h1 h2; cases z <;> simp [lexC]
    | cons a r ih =>
      intro y z h1 h2
      cases y with
      | nil => simp [lexC] at h1
      | cons b s =>
        cases z with
        | nil => simp [lexC] at h2
        | cons d t =>
          unfold lexC at h1 h2 ⊢
          by_cases e1 : c a b = 0
          · rw [if_pos e1] at h1
            rw [hc.eq _ _ e1]
            split at h2
            · rename_i e2; rw [if_pos e2]; exact ih _ _ h1 h2
            · rename_i e2; rw [if_neg e2]; exact h2
          · rw [if_neg e1] at h1
            split at h2
            · rename_i e2; rw [← hc.eq _ _ e2, if_neg e1]; exact h1
            · rename_i e2
              have h3 := hc.trans _ _ _ h1 h2
              by_cases e3 : c a d = 0
              · have h4 := hc.eq _ _ e3
                rw [← h4] at h2 e2
                have := hc.anti a b
                omega
              · rw [if_neg e3]; exact h3
def cmpB (x y : UInt8) : Int := cmpI x.toNat y.toNat
theorem cmpB_is : IsCmp cmpB where
  lo x y := cmpI_is.lo _ _
  hi x y := cmpI_is.hi _ _
  refl x := cmpI_is.refl _
  eq x y h := UInt8.toNat_inj.1 (by have := cmpI_is.eq _ _ h; omega)
  anti x y := cmpI_is.anti _ _
  trans x y z := cmpI_is.trans _ _ _
def cmpS : List UInt8 → List UInt8 → Int := lexC cmpB
theorem cmpS_is : IsCmp cmpS := lexC_is cmpB_is
theorem lexC_len {α : Type} {c : α → α → Int} : ∀ x y : List α, (∀ (i : Nat) a b, x[i]? = some a → y[i]? = some b → c a b = 0) → lexC c x y = cmpI x.length y.length
  | [], [], _ => by simp [lexC, cmpI]
  | [], _ :: s, _ => by simp only [lexC, cmpI, List.length_nil, List.length_cons]; rw [if_pos (by omega)]
  | _ :: r, [], _ => by simp only [lexC, cmpI, List.length_nil, List.length_cons]; rw [if_neg (by omega), if_pos (by omega)]
  | a :: r, b :: s, h => by
    rw [lexC, if_pos (h 0 a b rfl rfl), lexC_len r s (fun i x y hx hy => h (i + 1) x y hx hy)]
    simp only [cmpI, List.length_cons]
    split <;> split <;> (try split) <;> (try split) <;> omega
end Go.Proofs.YtibgjfeifpanhaaDoor.B

set_option linter.unusedVariables false
set_option linter.unusedSimpArgs false
namespace Go.Proofs.YtibgjfeifpanhaaDoor.B
open Go.RowKit Go.Proofs.YtibgjfeifpanhaaDoorW.PrintWords PItemValid

def kV (x : S29) : Int × (Int × List UInt8) := (x.f0, x.f1, x.f2.data.toList)
theorem kV_inj {x y : S29} (h : kV x = kV y) : x = y := by
  cases x; cases y
  simp only [kV, Prod.mk.injEq] at h
  obtain ⟨rfl, rfl, h⟩ := h
  congr
  exact ByteArray.ext (Array.toList_inj.1 h)
def cmpV (x y : S29) : Int := pairC cmpI (pairC cmpI cmpS) (kV x) (kV y)
theorem cmpV0_is : IsCmp (pairC cmpI (pairC cmpI cmpS)) := pairC_is cmpI_is (pairC_is cmpI_is cmpS_is)
theorem cmpV_is : IsCmp cmpV where
  lo x y := cmpV0_is.lo _ _
  hi x y := cmpV0_is.hi _ _
  refl x := cmpV0_is.refl _
  eq x y h := kV_inj (cmpV0_is.eq _ _ h)
  anti x y := cmpV0_is.anti _ _
  trans x y z := cmpV0_is.trans _ _ _
def cmpR : List S29 → List S29 → Int := lexC cmpV
theorem cmpR_is : IsCmp cmpR := lexC_is cmpV_is
theorem w64 {x : Int} (h0 : -9223372036854775808 ≤ x) (h1 : x ≤ 9223372036854775807) : wrap64 x = x := by unfold wrap64; omega
theorem ref_less (a b : Int) : ringworkref01_less.f a b = some (cmpI a b) := by
  unfold ringworkref01_less.f cmpI
  split <;> (try split) <;> rfl
theorem ref_sign (a b : Int) : ringworkref01_Sign.f (a - b) = some (cmpI a b) := by
  unfold ringworkref01_Sign.f cmpI
  by_cases h1 : a < b
  · rw [if_pos h1, if_pos (by omega)]
  · by_cases h2 : a > b
    · rw [if_neg h1, if_neg (by omega), if_pos h2, if_pos (by omega)]
    · rw [if_neg h1, if_neg (by omega), if_neg h2, if_neg (by omega)]
theorem bt_get (s : ByteArray) (i : Nat) (h : i < s.data.toList.length) : bt s (i : Int) = (s.data.toList[i].toNat : Int) := by
  have h2 : i < s.size := h
  unfold bt
  rw [dif_pos (by simpa using h2)]
  rfl
theorem ref_texts (a b : ByteArray) (ha : a.size ≤ 1000000) (hb : b.size ≤ 1000000) : ∀ (n i k : Nat), a.size - i ≤ n → i ≤ a.size → i ≤ b.size → 2 * n + 2 ≤ k →
    ringworkref01_texts.l0 k a b (i : Int) = some (cmpS (a.data.toList.drop i) (b.data.toList.drop i))
  | n, i, k, hn, hi, hib, hk => by
    obtain ⟨k', rfl⟩ : ∃ k', k = k' + 2 := ⟨k - 2, by omega⟩
    have la : a.data.toList.length = a.size := rfl
    have lb : b.data.toList.length = b.size := rfl
    have hend : (¬ i < a.size ∨ ¬ i < b.size) → ringworkref01_texts.j1 (k' + 1) a b (i : Int) false = some (cmpS (a.data.toList.drop i) (b.data.toList.drop i)) := fun h => by
      unfold ringworkref01_texts.j1
      rw [if_neg (by simp), w64 (by omega) (by omega), ref_sign]
      simp only [Option.bind_some]
      unfold cmpS
      rw [lexC_len]
      · simp only [List.length_drop, la, lb]
        unfold cmpI
        split <;> split <;> (try split) <;> (try split) <;> first | rfl | omega
      · intro j x y hx hy
        have h1 := (List.getElem?_eq_some_iff.1 hx).1
        have h2 := (List.getElem?_eq_some_iff.1 hy).1
        simp only [List.length_drop] at h1 h2
        omega
    unfold ringworkref01_texts.l0
    by_cases h1 : i < a.size
    · rw [if_pos (by omega)]
      by_cases h2 : i < b.size
      · rw [show decide ((i : Int) < (b.size : Int)) = true from decide_eq_true (by omega)]
        unfold ringworkref01_texts.j1
        rw [if_pos rfl, if_pos (by omega), if_pos (by omega), if_pos (by omega), bt_get a i (by omega), bt_get b i (by omega)]
        rw [List.drop_eq_getElem_cons (show i < a.data.toList.length by omega), List.drop_eq_getElem_cons (show i < b.data.toList.length by omega)]
        unfold cmpS lexC
        by_cases e : (a.data.toList[i].toNat : Int) = (b.data.toList[i].toNat : Int)
        · have e2 : a.data.toList[i] = b.data.toList[i] := UInt8.toNat_inj.1 (by omega)
          rw [if_pos e, e2, if_pos (cmpB_is.refl _), w64 (by omega) (by omega)]
          cases n with
          | zero => omega
          | succ n => exact ref_texts a b ha hb n (i + 1) k' (by omega) (by omega) (by omega) (by omega)
        · have h3 := (a.data.toList[i]).toNat_lt
          have h4 := (b.data.toList[i]).toNat_lt
          rw [if_neg e, if_neg (fun h => e (by have := cmpB_is.eq _ _ h; rw [this])), w64 (x := ((a.data.toList[i]).toNat : Int)) (by omega) (by omega), w64 (x := ((b.data.toList[i]).toNat : Int)) (by omega) (by omega), w64 (by omega) (by omega), ref_sign]
          rfl
      · rw [show decide ((i : Int) < (b.size : Int)) = false from decide_eq_false (by omega)]
        exact hend (.inr h2)
    · rw [if_neg (by omega)]
      exact hend (.inl h1)
end Go.Proofs.YtibgjfeifpanhaaDoor.B

set_option linter.unusedVariables false
set_option linter.unusedSimpArgs false
namespace Go.Proofs.YtibgjfeifpanhaaDoor.B
open Go.RowKit Go.Proofs.YtibgjfeifpanhaaDoorW.PrintWords PItemValid

theorem rd_get (l : List S29) (i : Nat) (h : i < l.length) : rd_T29 l (i : Int) = l[i] := by
  simp [rd_T29, List.getD_eq_getElem?_getD, List.getElem?_eq_getElem h]
theorem ref_Compare_is (k : Nat) (x y : S29) (hx : x.f2.size ≤ 200) (hy : y.f2.size ≤ 200) (hk : 402 ≤ k) : ringworkref01_Compare.f k x.f0 x.f1 x.f2 y.f0 y.f1 y.f2 = some (cmpV x y) := by
  unfold ringworkref01_Compare.f ringworkref01_texts.f
  rw [ref_less, ref_less]
  have h := ref_texts x.f2 y.f2 (by omega) (by omega) 200 0 k (by omega) (by omega) (by omega) (by omega)
  simp only [Int.ofNat_zero, List.drop_zero] at h
  have h' : ringworkref01_texts.l0 k x.f2 y.f2 0 = some (cmpS x.f2.data.toList y.f2.data.toList) := h
  rw [h']
  simp only [Option.bind_some]
  unfold cmpV pairC kV
  dsimp only
  split <;> (try split) <;> rfl
def okLen (l : List S29) : Prop := l.length ≤ 20 ∧ ∀ x ∈ l, x.f2.size ≤ 200
theorem ref_rows (a b : List S29) (ha : okLen a) (hb : okLen b) (z : Nat) (hz : 402 ≤ z) (n : Nat) : ∀ (i k : Nat), a.length - i ≤ n → i ≤ a.length → i ≤ b.length → 2 * n + 2 + z ≤ k →
    ringworkref01_CompareRows.l0 k a b (i : Int) = some (cmpR (a.drop i) (b.drop i)) := by
  induction n with
  | zero =>
    intro i k hn hi hib hk
    obtain ⟨k', rfl⟩ : ∃ k', k = k' + 2 := ⟨k - 2, by omega⟩
    have la := ha.1
    have lb := hb.1
    have hend : (¬ i < a.length ∨ ¬ i < b.length) → ringworkref01_CompareRows.j1 (k' + 1) a b (i : Int) false = some (cmpR (a.drop i) (b.drop i)) := fun h => by
      unfold ringworkref01_CompareRows.j1
      rw [if_neg (by simp), ref_less]
      simp only [Option.bind_some]
      unfold cmpR
      rw [lexC_len]
      · simp only [List.length_drop]
        unfold cmpI
        split <;> split <;> (try split) <;> (try split) <;> first | rfl | omega
      · intro j x y hx hy
        have h1 := (List.getElem?_eq_some_iff.1 hx).1
        have h2 := (List.getElem?_eq_some_iff.1 hy).1
        simp only [List.length_drop] at h1 h2
        omega
    unfold ringworkref01_CompareRows.l0
    by_cases h1 : i < a.length
    · rw [if_pos (by omega)]
      by_cases h2 : i < b.length
      · rw [show decide ((i : Int) < (b.length : Int)) = true from decide_eq_true (by omega)]
        unfold ringworkref01_CompareRows.j1
        rw [if_pos rfl, if_pos (by omega), if_pos (by omega), if_pos (by omega), rd_get a i h1, rd_get b i h2, ref_Compare_is k' _ _ (ha.2 _ (List.getElem_mem h1)) (hb.2 _ (List.getElem_mem h2)) (by omega)]
        rw [List.drop_eq_getElem_cons h1, List.drop_eq_getElem_cons h2]
        simp only [Option.bind_some]
        unfold cmpR lexC
        by_cases e : cmpV a[i] b[i] = 0
        · rw [if_pos e, if_pos e, w64 (by omega) (by omega)]
          omega
        · rw [if_neg e, if_neg e]
      · rw [show decide ((i : Int) < (b.length : Int)) = false from decide_eq_false (by omega)]
        exact hend (.inr h2)
    · rw [if_neg (by omega)]
      exact hend (.inl h1)
  | succ n IH =>
    intro i k hn hi hib hk
    obtain ⟨k', rfl⟩ : ∃ k', k = k' + 2 := ⟨k - 2, by omega⟩
    have la := ha.1
    have lb := hb.1
    have hend : (¬ i < a.length ∨ ¬ i < b.length) → ringworkref01_CompareRows.j1 (k' + 1) a b (i : Int) false = some (cmpR (a.drop i) (b.drop i)) := fun h => by
      unfold ringworkref01_CompareRows.j1
      rw [if_neg (by simp), ref_less]
      simp only [Option.bind_some]
      unfold cmpR
      rw [lexC_len]
      · simp only [List.length_drop]
        unfold cmpI
        split <;> split <;> (try split) <;> (try split) <;> first | rfl | omega
      · intro j x y hx hy
        have h1 := (List.getElem?_eq_some_iff.1 hx).1
        have h2 := (List.getElem?_eq_some_iff.1 hy).1
        simp only [List.length_drop] at h1 h2
        omega
    unfold ringworkref01_CompareRows.l0
    by_cases h1 : i < a.length
    · rw [if_pos (by omega)]
      by_cases h2 : i < b.length
      · rw [show decide ((i : Int) < (b.length : Int)) = true from decide_eq_true (by omega)]
        unfold ringworkref01_CompareRows.j1
        rw [if_pos rfl, if_pos (by omega), if_pos (by omega), if_pos (by omega), rd_get a i h1, rd_get b i h2, ref_Compare_is k' _ _ (ha.2 _ (List.getElem_mem h1)) (hb.2 _ (List.getElem_mem h2)) (by omega)]
        rw [List.drop_eq_getElem_cons h1, List.drop_eq_getElem_cons h2]
        simp only [Option.bind_some]
        unfold cmpR lexC
        by_cases e : cmpV a[i] b[i] = 0
        · rw [if_pos e, if_pos e, w64 (by omega) (by omega)]
          exact IH (i + 1) k' (by omega) (by omega) (by omega) (by omega)
        · rw [if_neg e, if_neg e]
      · rw [show decide ((i : Int) < (b.length : Int)) = false from decide_eq_false (by omega)]
        exact hend (.inr h2)
    · rw [if_neg (by omega)]
      exact hend (.inl h1)
theorem ref_CompareRows_is (a b : List S29) (ha : okLen a) (hb : okLen b) : ringworkref01_CompareRows.f 600 a b = some (cmpR a b) := by
  unfold ringworkref01_CompareRows.f
  have h := ref_rows a b ha hb 402 (by omega) 20 0 600 (by have := ha.1; omega) (by omega) (by omega) (by omega)
  simpa using h
theorem ref_Same_is (a b : List S29) (ha : okLen a) (hb : okLen b) : ringworkref01_Same.f 600 a b = some (decide (cmpR a b = 0)) := by
  unfold ringworkref01_Same.f
  rw [ref_CompareRows_is a b ha hb]
  simp only [Option.bind_some]
  by_cases h : cmpR a b = 0 <;> simp [h]
end Go.Proofs.YtibgjfeifpanhaaDoor.B

set_option linter.unusedVariables false
set_option linter.unusedSimpArgs false
namespace Go.Proofs.YtibgjfeifpanhaaDoor.B
open Go.RowKit Go.Proofs.YtibgjfeifpanhaaDoorW.PrintWords Go.Maps PItemValid

theorem refSame_is {a b : List S29} {r : Bool} (h : decide (cmpR a b = 0) = r) (ha : okLen a) (hb : okLen b) (A : Option Addr) (c : Nat) (A' : Option Addr) (c' : Nat) (w : World) (hx : Kd.C k29 w A a.length a) (hc : a.length ≤ c) (hy : Kd.C k29 w A' b.length b) (hc' : b.length ≤ c') :
    Calls Tryd.prog 29 #[.slice A a.length c, .slice A' b.length c'] w fun e w' => e = .returned (.bool r) ∧ Below w.heap.size w w' := by
  subst h
  exact ringworkref01_Same.calls 600 A c a A' c' b _ w hx hc hy hc' (ref_Same_is a b ha hb)
end Go.Proofs.YtibgjfeifpanhaaDoor.B

set_option linter.unusedVariables false
set_option linter.unusedSimpArgs false
namespace Go.Proofs.YtibgjfeifpanhaaDoor.B
open Go.RowKit Go.Proofs.YtibgjfeifpanhaaDoorW.PrintWords PItemValid

def shortV (x : S29) : Bool := decide (x.f2.size ≤ 200)
def okLenB (l : List S29) : Bool := decide (l.length ≤ 20) && l.all shortV
theorem okLenB_iff (l : List S29) : okLenB l = true ↔ okLen l := by
  unfold okLenB okLen shortV
  simp
def rowsF (ls : List (List S29)) : Bool := ls.all okLenB
theorem rd4_get (l : List (List S29)) (i : Nat) (h : i < l.length) : rd_L4 l (i : Int) = l[i] := by
  simp [rd_L4, List.getD_eq_getElem?_getD, List.getElem?_eq_getElem h]
theorem rows_in (x0 : List (List S29)) (hl : x0.length ≤ 1000) (i : Nat) (hi : i < x0.length) (z : Nat) (h20 : x0[i].length ≤ 20)
    (hnext : ∀ k, z ≤ k → ringworklaw01_Rows.l0 k x0 ((i + 1 : Nat) : Int) = some (rowsF (x0.drop (i + 1)))) (n : Nat) : ∀ (j k : Nat), x0[i].length - j ≤ n → j ≤ x0[i].length → n + 1 + z ≤ k →
    ringworklaw01_Rows.l1 k x0 (i : Int) (j : Int) = some ((x0[i].drop j).all shortV && rowsF (x0.drop (i + 1))) := by
  induction n with
  | zero =>
    intro j k hn hj hk
    obtain ⟨k', rfl⟩ : ∃ k', k = k' + 1 := ⟨k - 1, by omega⟩
    unfold ringworklaw01_Rows.l1
    rw [if_pos (by omega), if_pos (by omega), rd4_get x0 i hi, if_neg (by omega), w64 (by omega) (by omega), List.drop_eq_nil_of_le (by omega)]
    simpa using hnext k' (by omega)
  | succ n IH =>
    intro j k hn hj hk
    obtain ⟨k', rfl⟩ : ∃ k', k = k' + 1 := ⟨k - 1, by omega⟩
    unfold ringworklaw01_Rows.l1
    rw [if_pos (by omega), if_pos (by omega), rd4_get x0 i hi]
    by_cases h1 : j < x0[i].length
    · rw [if_pos (by omega), if_pos (by omega), rd_get _ j h1, List.drop_eq_getElem_cons h1, List.all_cons]
      by_cases h2 : ((x0[i][j].f2.size : Int) > 200)
      · rw [if_pos h2, show shortV x0[i][j] = false from decide_eq_false (by omega)]
        simp
      · rw [if_neg h2, show shortV x0[i][j] = true from decide_eq_true (by omega), w64 (by omega) (by omega)]
        have := IH (j + 1) k' (by omega) (by omega) (by omega)
        simpa using this
    · rw [if_neg (by omega), w64 (by omega) (by omega), List.drop_eq_nil_of_le (by omega)]
      simpa using hnext k' (by omega)
theorem rows_out (x0 : List (List S29)) (hl : x0.length ≤ 1000) (n : Nat) : ∀ (i k : Nat), x0.length - i ≤ n → i ≤ x0.length → 22 * n + 1 ≤ k → ringworklaw01_Rows.l0 k x0 (i : Int) = some (rowsF (x0.drop i)) := by
  induction n with
  | zero =>
    intro i k hn hi hk
    obtain ⟨k', rfl⟩ : ∃ k', k = k' + 1 := ⟨k - 1, by omega⟩
    unfold ringworklaw01_Rows.l0
    rw [if_neg (by omega), List.drop_eq_nil_of_le (by omega)]
    rfl
  | succ n IH =>
    intro i k hn hi hk
    obtain ⟨k', rfl⟩ : ∃ k', k = k' + 1 := ⟨k - 1, by omega⟩
    unfold ringworklaw01_Rows.l0
    by_cases h1 : i < x0.length
    · rw [if_pos (by omega), if_pos (by omega), rd4_get x0 i h1, List.drop_eq_getElem_cons h1]
      have e : rowsF (x0[i] :: x0.drop (i + 1)) = (okLenB x0[i] && rowsF (x0.drop (i + 1))) := List.all_cons
      rw [e]
      by_cases h2 : ((x0[i].length : Int) > 20)
      · rw [if_pos h2]
        have : okLenB x0[i] = false := by unfold okLenB; rw [decide_eq_false (by omega)]; rfl
        rw [this]; rfl
      · rw [if_neg h2]
        have h3 := rows_in x0 hl i h1 (22 * n + 1) (by omega) (fun k hk => IH (i + 1) k (by omega) (by omega) hk) 20 0 k' (by omega) (by omega) (by omega)
        have h4 : okLenB x0[i] = (x0[i]).all shortV := by unfold okLenB; rw [decide_eq_true (by omega)]; rfl
        rw [h4]
        simpa using h3
    · rw [if_neg (by omega), List.drop_eq_nil_of_le (by omega)]
      rfl
theorem Rows_is {ls : List (List S29)} {r : Bool} (h : rowsF ls = r) (hl : ls.length ≤ 4) (A : Option Addr) (c : Nat) (w : World) (hr : Kd.C (Kd.slice 29 k29) w A ls.length ls) (hc : ls.length ≤ c) :
    Calls Tryd.prog 10 #[.slice A ls.length c] w fun e w' => e = .returned (.bool r) ∧ Drawn0 w w' := by
  subst h
  refine ringworklaw01_Rows.calls 100 A c ls _ w hr hc ?_
  have := rows_out ls (by omega) 4 0 100 (by omega) (by omega) (by omega)
  simpa [ringworklaw01_Rows.f] using this
end Go.Proofs.YtibgjfeifpanhaaDoor.B

set_option linter.unusedVariables false
set_option linter.unusedSimpArgs false
namespace Go.Proofs.YtibgjfeifpanhaaDoor.B
open Go.RowKit Go.Proofs.YtibgjfeifpanhaaDoorW.PrintWords PItemValid

def smI (c : Int) : Bool := decide (97 ≤ c) && decide (c ≤ 122)
def inI (c : Int) : Bool := smI c || (decide (48 ≤ c) && decide (c ≤ 57)) || (c == 95)
def inB (c : UInt8) : Bool := inI (c.toNat : Int)
def smB (c : UInt8) : Bool := smI (c.toNat : Int)
def nameF : List UInt8 → Bool
  | [] => false
  | c :: r => decide ((c :: r).length ≤ 16) && smB c && (c :: r).all inB
theorem small_is (c : Int) : item_small.f c = some (smI c) := by
  unfold item_small.f smI
  by_cases h : c ≥ 97
  · rw [if_pos h, show decide (97 ≤ c) = true from decide_eq_true h]; simp
  · rw [if_neg h, show decide (97 ≤ c) = false from decide_eq_false h]; simp
theorem inner_is (c : Int) : item_inner.f c = some (inI c) := by
  unfold item_inner.f inI
  rw [small_is]
  simp only [Option.bind_some]
  cases smI c with
  | true => simp
  | false =>
    by_cases h : c ≥ 48
    · by_cases h2 : c ≤ 57
      · simp [h, h2]
      · simp [h, h2]
    · have : ¬ 48 ≤ c := h
      simp [h]
theorem sm_in (c : UInt8) (h : smB c = true) : inB c = true := by
  unfold inB inI
  unfold smB at h
  rw [h]; rfl
theorem name_loop (s : ByteArray) (hs : s.size ≤ 1000000) (n : Nat) : ∀ (i k : Nat), s.size - i ≤ n → i ≤ s.size → n + 1 ≤ k → item_Name.l0 k s (s.size : Int) (i : Int) = some ((s.data.toList.drop i).all inB) := by
  have ls : s.data.toList.length = s.size := rfl
  induction n with
  | zero =>
    intro i k hn hi hk
    obtain ⟨k', rfl⟩ : ∃ k', k = k' + 1 := ⟨k - 1, by omega⟩
    unfold item_Name.l0
    rw [if_neg (by omega), List.drop_eq_nil_of_le (by omega)]
    rfl
  | succ n IH =>
    intro i k hn hi hk
    obtain ⟨k', rfl⟩ : ∃ k', k = k' + 1 := ⟨k - 1, by omega⟩
    unfold item_Name.l0
    by_cases h1 : i < s.size
    · rw [if_pos (by omega), if_pos (by omega), if_pos (by omega), bt_get s i (by omega), inner_is, List.drop_eq_getElem_cons (show i < s.data.toList.length by omega), List.all_cons, w64 (by omega) (by omega)]
      simp only [Option.bind_some]
      have e : inI ((s.data.toList[i]).toNat : Int) = inB s.data.toList[i] := rfl
      rw [e]
      cases inB s.data.toList[i] with
      | true =>
        rw [if_pos rfl]
        have := IH (i + 1) k' (by omega) (by omega) (by omega)
        simpa using this
      | false => rw [if_neg (by simp)]; rfl
    · rw [if_neg (by omega), List.drop_eq_nil_of_le (by omega)]
      rfl
theorem nameF_list : ∀ (l : List UInt8) (h : 0 < l.length), nameF l = (decide (l.length ≤ 16) && smB (l[0]'h) && l.all inB)
  | [], h => absurd h (by simp)
  | _ :: _, _ => rfl
theorem nameF_of (s : ByteArray) (h : 0 < s.size) : nameF s.data.toList = (decide (s.size ≤ 16) && smB (s.data.toList[0]'h) && s.data.toList.all inB) := nameF_list s.data.toList h
theorem item_Name_is (s : ByteArray) : item_Name.f 40 s = some (nameF s.data.toList) := by
  have ls : s.data.toList.length = s.size := rfl
  unfold item_Name.f
  rw [ByteArray.toList_eq]
  by_cases h0 : s.data.toList = []
  · rw [if_pos h0, h0]
    rfl
  · have hp : 0 < s.size := by
      have := List.length_pos_iff.2 h0
      omega
    rw [if_neg h0, nameF_of s hp]
    by_cases h1 : (s.size : Int) > 16
    · rw [if_pos h1, show decide (s.size ≤ 16) = false from decide_eq_false (by omega)]
      rfl
    · have hb := bt_get s 0 (by omega)
      rw [if_neg h1, if_pos (by omega), small_is]
      simp only [Option.bind_some]
      rw [show bt s 0 = ((s.data.toList[0]'(by omega)).toNat : Int) from hb]
      rw [show decide (s.size ≤ 16) = true from decide_eq_true (by omega)]
      have e : smI ((s.data.toList[0]'(by omega)).toNat : Int) = smB (s.data.toList[0]'(by omega)) := rfl
      rw [e]
      cases smB (s.data.toList[0]'(by omega)) with
      | false => rfl
      | true =>
        have := name_loop s (by omega) 20 0 39 (by omega) (by omega) (by omega)
        simpa [item_Name.j0] using this
theorem refname_step (s : ByteArray) (hs : s.size ≤ 16) (k i : Nat) (h1 : i < s.size) : ringworkref01_Name.l0 (k + 1) s (i : Int) = if (smB (s.data.toList[i]'h1) = true ∨ (i ≠ 0 ∧ inB (s.data.toList[i]'h1) = true)) then ringworkref01_Name.l0 k s ((i + 1 : Nat) : Int) else some false := by
  conv => lhs; unfold ringworkref01_Name.l0
  rw [if_pos (by omega), if_pos (by omega), bt_get s i h1, w64 (by omega) (by omega)]
  unfold smB inB inI smI
  generalize ((s.data.toList[i]'h1).toNat : Int) = c
  rw [show ((i + 1 : Nat) : Int) = (i : Int) + 1 by omega]
  by_cases a1 : c ≥ 97
  · by_cases a2 : c ≤ 122
    · rw [if_pos a1, if_pos a2, if_pos (.inl (by simp; omega))]
    · rw [if_pos a1, if_neg a2]
      by_cases a3 : i = 0
      · rw [if_pos (by omega), if_neg (by simp; omega)]
      · rw [if_neg (by omega)]
        have hc : ¬ c = 95 := by omega
        rw [if_neg hc, if_neg (by omega), if_pos (by omega), if_neg (by simp; omega)]
  · rw [if_neg a1]
    by_cases a3 : i = 0
    · rw [if_pos (by omega), if_neg (by simp; omega)]
    · rw [if_neg (by omega)]
      by_cases hc : c = 95
      · rw [if_pos hc, if_pos (.inr ⟨a3, by simp [hc]⟩)]
      · rw [if_neg hc]
        by_cases a4 : c < 48
        · rw [if_pos a4, if_neg (by simp; omega)]
        · rw [if_neg a4]
          by_cases a5 : c > 57
          · rw [if_pos a5, if_neg (by simp; omega)]
          · rw [if_neg a5, if_pos (.inr ⟨a3, by simp; omega⟩)]
theorem refname_loop (s : ByteArray) (hs : s.size ≤ 16) (n : Nat) : ∀ (i k : Nat), s.size - i ≤ n → 1 ≤ i → i ≤ s.size → n + 1 ≤ k → ringworkref01_Name.l0 k s (i : Int) = some ((s.data.toList.drop i).all inB) := by
  have ls : s.data.toList.length = s.size := rfl
  induction n with
  | zero =>
    intro i k hn h1 hi hk
    obtain ⟨k', rfl⟩ : ∃ k', k = k' + 1 := ⟨k - 1, by omega⟩
    unfold ringworkref01_Name.l0
    rw [if_neg (by omega), List.drop_eq_nil_of_le (by omega)]
    rfl
  | succ n IH =>
    intro i k hn h1 hi hk
    obtain ⟨k', rfl⟩ : ∃ k', k = k' + 1 := ⟨k - 1, by omega⟩
    by_cases h2 : i < s.size
    · rw [refname_step s hs k' i h2, List.drop_eq_getElem_cons (show i < s.data.toList.length by omega), List.all_cons]
      cases hb : inB (s.data.toList[i]'h2) with
      | true => rw [if_pos (.inr ⟨by omega, rfl⟩), IH (i + 1) k' (by omega) (by omega) (by omega) (by omega)]; rfl
      | false =>
        rw [if_neg (by
          rintro (h | h)
          · rw [sm_in _ h] at hb; cases hb
          · exact absurd h.2 (by simp))]
        rfl
    · unfold ringworkref01_Name.l0
      rw [if_neg (by omega), List.drop_eq_nil_of_le (by omega)]
      rfl
theorem ref_Name_is (s : ByteArray) : ringworkref01_Name.f 40 s = some (nameF s.data.toList) := by
  have ls : s.data.toList.length = s.size := rfl
  unfold ringworkref01_Name.f
  by_cases h0 : s.size = 0
  · have e : s.data.toList = [] := List.eq_nil_of_length_eq_zero (by omega)
    rw [if_pos (by omega), e]
    rfl
  · have hp : 0 < s.size := by omega
    rw [if_neg (by omega), nameF_of s hp]
    by_cases h1 : (s.size : Int) > 16
    · rw [show decide ((s.size : Int) > 16) = true from decide_eq_true h1, show decide (s.size ≤ 16) = false from decide_eq_false (by omega)]
      rfl
    · rw [show decide ((s.size : Int) > 16) = false from decide_eq_false h1, show decide (s.size ≤ 16) = true from decide_eq_true (by omega)]
      show ringworkref01_Name.l0 (38 + 1) s ((0 : Nat) : Int) = _
      rw [refname_step s (by omega) 38 0 hp]
      cases hb : smB (s.data.toList[0]'hp) with
      | false => rw [if_neg (by simp)]; rfl
      | true =>
        rw [if_pos (.inl rfl), refname_loop s (by omega) 20 1 38 (by omega) (by omega) (by omega) (by omega)]
        have e := List.drop_eq_getElem_cons (show 0 < s.data.toList.length from hp)
        rw [List.drop_zero] at e
        have e2 : s.data.toList.all inB = (inB (s.data.toList[0]'hp) && (s.data.toList.drop 1).all inB) := by conv => lhs; rw [e]; rw [List.all_cons]
        rw [e2, sm_in _ hb]
        simp
end Go.Proofs.YtibgjfeifpanhaaDoor.B

set_option linter.unusedVariables false
set_option linter.unusedSimpArgs false
namespace Go.Proofs.YtibgjfeifpanhaaDoor.B
open Go.RowKit Go.Proofs.YtibgjfeifpanhaaDoorW.PrintWords Go.Maps PItemValid

theorem law9 : Keyed Tryd.prog 9 := string_keyed Tryd.underlying9
theorem zero4 (w : World) : (zeroValue 4).run Tryd.prog w = .ok (.bool false) w := by kernel_rfl
theorem plainElem_bool_inv {e : TypeId} (he : Tryd.prog.underlying e = some .bool) {v : Value} {z : DataW Unit × List MemPlace} (h : plainElem Tryd.prog e v = some z) : ∃ a, v = .bool a ∧ z = (.lit (.bool a), []) := by
  unfold plainElem at h
  rw [he] at h
  cases v <;> simp at h
  exact ⟨_, rfl, h.symm⟩
abbrev nmL (s : ByteArray) : List UInt8 := s.data.toList
/-- Block b is a map whose keys are S, each with true. -/
def Met (w : World) (b : Nat) (S : List (List UInt8)) : Prop :=
  ∃ D : DataW Unit, w.ownsMap Tryd.prog 9 (plainElem Tryd.prog 4) b S.length D ∧ Maps.size D = S.length ∧ ∀ x : ByteArray, x.size ≤ 1000000 → D.atKey (.string (nmL x)) (.lit (.bool false)) = .lit (.bool (decide (nmL x ∈ S))) ∧ Maps.has D (.string (nmL x)) = decide (nmL x ∈ S)
theorem met_made (w : World) : Met (w.alloc (.map #[] 0)) w.heap.size [] :=
  ⟨.map [], World.ownsMap_made _ _ _ _, rfl, fun x _ => by simp [DataW.atKey, Maps.has]⟩
theorem Met.lt {w : World} {b : Nat} {S : List (List UInt8)} (h : Met w b S) : b < w.heap.size := by
  obtain ⟨D, h1, _⟩ := h
  exact h1.lt
theorem Met.kept {w w' : World} {b : Nat} {S : List (List UInt8)} {row : Option Nat} (h : Met w b S) (hg : w.grownBy w' row) (hne : some b ≠ row) : Met w' b S := by
  obtain ⟨D, h1, h2⟩ := h
  exact ⟨D, h1.kept hg hne, h2⟩
theorem Met.below {w w' : World} {b : Nat} {S : List (List UInt8)} (h : Met w b S) (hb : Below w.heap.size w w') : Met w' b S := h.kept (grown_of_below hb none) (by simp)
theorem keyOf_name {x : ByteArray} (h : x.size ≤ 1000000) : keyOf Tryd.prog 9 (.string x) = some (.string (nmL x)) := by
  exact Go.WideMaps.keyOf_string_mk Tryd.underlying9 (by unfold maxLen; omega)
set_option maxRecDepth 100000 in
theorem Met.look {w : World} {b : Nat} {S : List (List UInt8)} (h : Met w b S) {x : ByteArray} (hx : x.size ≤ 1000000) : (Instr.lookup 69 (.map (some b)) (.string x) false).run Tryd.prog w = .ok (.bool (decide (nmL x ∈ S))) w := by
  obtain ⟨D, h1, h2, h3⟩ := h
  obtain ⟨v, ps, hrun, hv⟩ := h1.lookup law9 Tryd.underlying69 (zero4 w) (plainElem_bool Tryd.underlying4 false) (keyOf_name hx)
  rw [(h3 x hx).1] at hv
  obtain ⟨a, rfl, ha⟩ := plainElem_bool_inv Tryd.underlying4 hv
  injection ha with ha
  injection ha with ha
  injection ha with ha
  rw [hrun, ha]
set_option maxRecDepth 100000 in
theorem Met.put {w : World} {b : Nat} {S : List (List UInt8)} (h : Met w b S) {x : ByteArray} (hx : x.size ≤ 1000000) (hn : nmL x ∉ S) (hm : S.length < maxLen) :
    ∃ w', (Instr.mapUpdate 69 (.map (some b)) (.string x) (.bool true)).run Tryd.prog w = .ok () w' ∧ Met w' b (S ++ [nmL x]) ∧ w.grownBy w' (some b) := by
  obtain ⟨D, h1, h2, h3⟩ := h
  obtain ⟨w', hr, hw, hg⟩ := h1.update law9 Tryd.underlying69 hm (keyOf_name hx) (plainElem_bool Tryd.underlying4 true)
  have hk : WideAt.IsKeyLit (.string (nmL x)) := trivial
  refine ⟨w', hr, ⟨_, by simpa using hw, ?_, fun y hy => ?_⟩, hg⟩
  · rw [size_put (h1.tidy law9), (h3 x hx).2, h2]
    simp [hn]
  · by_cases e : nmL y = nmL x
    · rw [e, atKey_put_same h1.isMap hk, has_put_same h1.isMap hk]
      simp
    · have e' : Lit.string (nmL y) ≠ Lit.string (nmL x) := fun h => e (by injection h)
      rw [atKey_put_other e', has_put_other e', (h3 y hy).1, (h3 y hy).2]
      simp [e]
end Go.Proofs.YtibgjfeifpanhaaDoor.B

set_option linter.unusedVariables false
set_option linter.unusedSimpArgs false
namespace Go.Proofs.YtibgjfeifpanhaaDoor.B
open Go.RowKit Go.Proofs.YtibgjfeifpanhaaDoorW.PrintWords PItemValid

def nmI (x : S32) : List UInt8 := x.f0.data.toList
def okI (x : S32) : Bool := nameF (nmI x) && (if x.f1 = 1 then (decide (x.f2 ≤ x.f3) && decide (-1000000000 ≤ x.f2) && decide (x.f3 ≤ 1000000000) && (x.f4 == 0)) else if x.f1 = 2 then (decide (1 ≤ x.f4) && decide (x.f4 ≤ 40) && (x.f2 == 0) && (x.f3 == 0)) else false)
theorem item_ValidItem_is (x : S32) : item_ValidItem.f 40 x.f0 x.f1 x.f2 x.f3 x.f4 = some (okI x) := by
  unfold item_ValidItem.f okI nmI
  rw [item_Name_is]
  simp only [Option.bind_some]
  cases nameF x.f0.data.toList with
  | false => rfl
  | true =>
    unfold item_within.f
    simp only [if_true, Bool.true_and]
    by_cases k1 : x.f1 = 1
    · rw [if_pos k1, if_pos k1]
      by_cases a : x.f2 ≤ x.f3 <;> by_cases b : x.f2 ≥ (-1000000000) <;> by_cases c : x.f3 ≤ 1000000000 <;> simp [a, b, c] <;> omega
    · rw [if_neg k1, if_neg k1]
      by_cases k2 : x.f1 = 2
      · rw [if_pos k2, if_pos k2]
        by_cases a : x.f4 ≥ 1 <;> by_cases b : x.f4 ≤ 40 <;> by_cases c : x.f2 = 0 <;> simp [a, b, c] <;> omega
      · rw [if_neg k2, if_neg k2]
theorem ref_ValidItem40 (x : S32) : ringworkref01_ValidItem.f 40 x.f0 x.f1 x.f2 x.f3 x.f4 = some (okI x) := by
  unfold ringworkref01_ValidItem.f okI nmI
  rw [ref_Name_is]
  simp only [Option.bind_some]
  cases nameF x.f0.data.toList with
  | false => rfl
  | true =>
    simp only [if_true, Bool.true_and]
    by_cases k1 : x.f1 = 1
    · rw [if_pos k1, if_pos k1]
      by_cases a : x.f2 ≤ x.f3 <;> by_cases b : (-1000000000) ≤ x.f2 <;> by_cases c : x.f4 = 0 <;> simp [a, b, c] <;> omega
    · rw [if_neg k1, if_neg k1]
      by_cases k2 : x.f1 = 2
      · rw [if_pos k2, if_pos k2]
        by_cases a : 1 ≤ x.f4 <;> by_cases b : x.f2 = 0 <;> by_cases c : x.f3 = 0 <;> simp [a, b, c] <;> omega
      · rw [if_neg k2, if_neg k2]
theorem ref_ValidItem_is (x : S32) (j : Nat) : ringworkref01_ValidItem.f (40 + j) x.f0 x.f1 x.f2 x.f3 x.f4 = some (okI x) := by
  induction j with
  | zero => exact ref_ValidItem40 x
  | succ j ih => exact ringworkref01_ValidItem.mono _ _ _ _ _ _ _ ih
theorem ref_ValidValue_is (x : S29) : ringworkref01_ValidValue.f x.f0 x.f1 x.f2 = some (okV x) := by
  unfold ringworkref01_ValidValue.f okV okV1 okV2
  by_cases k1 : x.f0 = 1
  · rw [if_pos k1, if_pos k1]
    by_cases a : x.f1 ≥ (-1000000000) <;> by_cases b : x.f1 ≤ 1000000000 <;> simp [a, b] <;> omega
  · rw [if_neg k1, if_neg k1]
    by_cases k2 : x.f0 = 2
    · rw [if_pos k2, if_pos k2]
      by_cases a : x.f1 = 0 <;> simp [a]
    · rw [if_neg k2, if_neg k2]
theorem rd32_get (l : List S32) (i : Nat) (h : i < l.length) : rd_T32 l (i : Int) = l[i] := by
  simp [rd_T32, List.getD_eq_getElem?_getD, List.getElem?_eq_getElem h]
def idxN (nm : List UInt8) : Nat → List S32 → Int
  | _, [] => -1
  | i, x :: r => if nmI x = nm then i else idxN nm (i + 1) r
theorem ref_index_loop (l : List S32) (hl : l.length ≤ 20) (a : ByteArray) (n : Nat) : ∀ (i k : Nat), l.length - i ≤ n → i ≤ l.length → n + 1 ≤ k → ringworkref01_index.l0 k l a (i : Int) = some (idxN a.data.toList i (l.drop i)) := by
  induction n with
  | zero =>
    intro i k hn hi hk
    obtain ⟨k', rfl⟩ : ∃ k', k = k' + 1 := ⟨k - 1, by omega⟩
    unfold ringworkref01_index.l0
    rw [if_neg (by omega), List.drop_eq_nil_of_le (by omega)]
    rfl
  | succ n IH =>
    intro i k hn hi hk
    obtain ⟨k', rfl⟩ : ∃ k', k = k' + 1 := ⟨k - 1, by omega⟩
    unfold ringworkref01_index.l0
    by_cases h1 : i < l.length
    · rw [if_pos (by omega), if_pos (by omega), rd32_get l i h1, List.drop_eq_getElem_cons h1, idxN, ByteArray.toList_eq, ByteArray.toList_eq, w64 (by omega) (by omega)]
      rw [show l[i].f0.data.toList = nmI l[i] from rfl]
      by_cases e : nmI l[i] = a.data.toList
      · rw [if_pos e, if_pos e]
      · rw [if_neg e, if_neg e]
        have := IH (i + 1) k' (by omega) (by omega) (by omega)
        simpa using this
    · rw [if_neg (by omega), List.drop_eq_nil_of_le (by omega)]
      rfl
theorem ref_index_is (l : List S32) (hl : l.length ≤ 20) (a : ByteArray) (k : Nat) (hk : 21 ≤ k) : ringworkref01_index.f k l a = some (idxN a.data.toList 0 l) := by
  unfold ringworkref01_index.f
  have := ref_index_loop l hl a 20 0 k (by omega) (by omega) (by omega)
  simpa using this
/-- All are valid and none has the name of one before it. -/
def seenL : List (List UInt8) → List S32 → Bool
  | _, [] => true
  | S, x :: r => okI x && !decide (nmI x ∈ S) && seenL (S ++ [nmI x]) r
def validF (l : List S32) : Bool := decide (1 ≤ (l.length : Int)) && decide ((l.length : Int) ≤ 8) && seenL [] l
theorem idxN_here (x : S32) (r : List S32) : ∀ (pre : List S32) (i : Nat), (idxN (nmI x) i (pre ++ x :: r) = ((i + pre.length : Nat) : Int)) ↔ nmI x ∉ pre.map nmI
  | [], i => by simp [idxN]
  | y :: pre, i => by
    rw [List.cons_append, idxN]
    by_cases e : nmI y = nmI x
    · rw [if_pos e]
      simp [e]
      omega
    · rw [if_neg e]
      have := idxN_here x r pre (i + 1)
      rw [show (i + (y :: pre).length : Nat) = i + 1 + pre.length by simp; omega, this]
      simp [Ne.symm e]
theorem known_loop (l : List S32) (hl : l.length ≤ 20) (z : Nat) (hz : 40 ≤ z) (n : Nat) : ∀ (i k : Nat), l.length - i ≤ n → i ≤ l.length → n + 1 + z ≤ k → ringworkref01_Known.l0 k l (i : Int) = some (seenL ((l.take i).map nmI) (l.drop i) && decide ((l.length : Int) ≤ 8)) := by
  induction n with
  | zero =>
    intro i k hn hi hk
    obtain ⟨k', rfl⟩ : ∃ k', k = k' + 1 := ⟨k - 1, by omega⟩
    unfold ringworkref01_Known.l0
    rw [if_neg (by omega), List.drop_eq_nil_of_le (by omega)]
    rfl
  | succ n IH =>
    intro i k hn hi hk
    obtain ⟨k', rfl⟩ : ∃ k', k = k' + 1 := ⟨k - 1, by omega⟩
    unfold ringworkref01_Known.l0
    by_cases h1 : i < l.length
    · obtain ⟨j, rfl⟩ : ∃ j, k' = 40 + j := ⟨k' - 40, by omega⟩
      rw [if_pos (by omega), if_pos (by omega), rd32_get l i h1, ref_ValidItem_is, List.drop_eq_getElem_cons h1, seenL]
      simp only [Option.bind_some]
      cases okI l[i] with
      | false => rw [if_neg (by simp)]; rfl
      | true =>
        rw [if_pos rfl, ref_index_is l hl _ _ (by omega), w64 (by omega) (by omega), show l[i].f0.data.toList = nmI l[i] from rfl]
        simp only [Option.bind_some]
        have hh := idxN_here l[i] (l.drop (i + 1)) (l.take i) 0
        rw [← List.drop_eq_getElem_cons h1, List.take_append_drop, List.length_take, Nat.min_eq_left (by omega), Nat.zero_add] at hh
        have hT : (l.take (i + 1)).map nmI = (l.take i).map nmI ++ [nmI l[i]] := by rw [List.take_succ_eq_append_getElem h1, List.map_append]; rfl
        by_cases e : nmI l[i] ∈ (l.take i).map nmI
        · rw [if_neg (fun h => (hh.1 h) e), decide_eq_true e]
          rfl
        · rw [if_pos (hh.2 e), decide_eq_false e, ← hT]
          have := IH (i + 1) (40 + j) (by omega) (by omega) (by omega)
          simpa using this
    · rw [if_neg (by omega), List.drop_eq_nil_of_le (by omega)]
      rfl
theorem ref_ValidItems_is (l : List S32) (hl : l.length ≤ 20) (k : Nat) (hk : 61 ≤ k) : ringworkref01_ValidItems.f k l = some (validF l) := by
  unfold ringworkref01_ValidItems.f ringworkref01_Known.f validF
  have := known_loop l hl 40 (by omega) 20 0 k (by omega) (by omega) (by omega)
  have h2 : ringworkref01_Known.l0 k l 0 = some (seenL [] l && decide ((l.length : Int) ≤ 8)) := by simpa using this
  by_cases h : (l.length : Int) > 0
  · rw [if_pos h, h2, show decide (1 ≤ (l.length : Int)) = true from decide_eq_true (by omega)]
    simp only [Option.bind_some, Bool.true_and, Bool.and_comm]
  · rw [if_neg h, show decide (1 ≤ (l.length : Int)) = false from decide_eq_false (by omega)]
    rfl
end Go.Proofs.YtibgjfeifpanhaaDoor.B

set_option linter.unusedVariables false
set_option linter.unusedSimpArgs false
namespace Go.Proofs.YtibgjfeifpanhaaDoor.B
open Go.RowKit Go.Proofs.YtibgjfeifpanhaaDoorW.PrintWords Go.Maps PItemValid

/-- An item as the program holds it. -/
def vI (x : S32) : Value := .agg #[.string x.f0, .int .i64 x.f1, .int .i64 x.f2, .int .i64 x.f3, .int .i64 x.f4]
theorem C_item {w : World} {A : Option Addr} {n : Nat} {xs : List S32} (h : Kd.C k32 w A n xs) (i : Nat) (h1 : i < n) :
    ∃ ad x, A = some ad ∧ xs.drop i = x :: xs.drop (i + 1) ∧ w.cell? (ad.add (i * 5)) = some (.string x.f0) ∧ w.cell? ⟨(ad.add (i * 5)).block, (ad.add (i * 5)).off + 1, none⟩ = some (.int .i64 x.f1) ∧ w.cell? ⟨(ad.add (i * 5)).block, (ad.add (i * 5)).off + 2, none⟩ = some (.int .i64 x.f2) ∧ w.cell? ⟨(ad.add (i * 5)).block, (ad.add (i * 5)).off + 3, none⟩ = some (.int .i64 x.f3) ∧ w.cell? ⟨(ad.add (i * 5)).block, (ad.add (i * 5)).off + 4, none⟩ = some (.int .i64 x.f4) := by
  obtain ⟨ad, e, c0, c1, c2, c3, c4⟩ := at_T32 h i (by omega) (by omega)
  have hn : xs.length = n := h.1
  have e1 : rd_T32 xs (i : Int) = xs[i]'(by omega) := rd32_get xs i (by omega)
  rw [e1] at c0 c1 c2 c3 c4
  exact ⟨ad, xs[i]'(by omega), e, List.drop_eq_getElem_cons (by omega), c0, c1, c2, c3, c4⟩
theorem ValidItem_is {x : S32} {r : Bool} (h : okI x = r) (w : World) : Calls Tryd.prog 14 #[vI x] w fun e w' => e = .returned (.bool r) ∧ Below w.heap.size w w' := by
  subst h
  refine (item_ValidItem.calls 40 x.f0 x.f1 x.f2 x.f3 x.f4 _ w (item_ValidItem_is x)).mono ?_
  rintro e w' ⟨rfl, hd⟩
  exact ⟨rfl, by first | exact hd | exact hd.below⟩
theorem okI_len {x : S32} (h : okI x = true) : x.f0.size ≤ 16 := by
  unfold okI nmI at h
  rw [Bool.and_eq_true] at h
  have h1 := h.1
  by_cases h0 : 0 < x.f0.size
  · rw [nameF_of x.f0 h0] at h1
    simp at h1
    exact h1.1.1
  · omega
set_option maxRecDepth 100000 in
set_option maxHeartbeats 4000000 in
theorem ValidItems_calls (A : Option Addr) (c : Nat) (l : List S32) (w : World) (hl : l.length ≤ 20) (hr : Kd.C k32 w A l.length l) :
    Calls Tryd.prog 20 #[.slice A l.length c] w fun e w' => e = .returned (.bool (validF l)) ∧ Below w.heap.size w w' := by
  have HR := Aside0.mk hr
  clear hr
  have hmm := @run_makeMap Tryd.prog
  have HV : Aside0 (validF l = ((decide (1 ≤ (l.length : Int)) && decide ((l.length : Int) ≤ 8)) && seenL [] (l.drop 0))) := ⟨rfl⟩
  go_enter Tryd.func20, Tryd.ntmps20
  go_wp2
  go_loopg [9] l.length (fun g v9 wr => ∃ (i : Nat) (S : List (List UInt8)), g = l.length - i ∧ i ≤ l.length ∧ v9 = .int .i64 i ∧ Aside0 (validF l = ((decide (1 ≤ (l.length : Int)) && decide ((l.length : Int) ≤ 8)) && seenL S (l.drop i))) ∧ Aside0 (S.length ≤ i) ∧ Met wr w.heap.size S ∧ Below w.heap.size w wr)
  case atStart => exact ⟨0, [], rfl, Nat.zero_le _, rfl, HV, ⟨Nat.le_refl _⟩, met_made w, (Below.refl _ _).alloc (Nat.le_refl _) _⟩
  case round =>
    obtain ⟨i, S, hg, hi, rfl, HT, HSL, hmet, hbel⟩ := hrel
    have HG := Aside0.mk hg
    clear hg HV
    by_cases hlt : i < l.length
    · obtain ⟨ad, x, hA, hdx, c0, c1, c2, c3, c4⟩ := C_item HR.out i hlt
      subst hA
      replace c0 := pw_cell_below hbel c0
      replace c1 := pw_cell_below hbel c1
      replace c2 := pw_cell_below hbel c2
      replace c3 := pw_cell_below hbel c3
      replace c4 := pw_cell_below hbel c4
      have HD := Aside0.mk hdx
      clear hdx
      have hb2 := below_alloc hbel (.cells #[.string x.f0, .int .i64 x.f1, .int .i64 x.f2, .int .i64 x.f3, .int .i64 x.f4] 32)
      have hmet2 := hmet.below (below_alloc (Below.refl _ wr) (.cells #[.string x.f0, .int .i64 x.f1, .int .i64 x.f2, .int .i64 x.f3, .int .i64 x.f4] 32))
      cases hok : okI x with
      | false =>
        have HC := fun W => Aside0.mk (ValidItem_is hok W)
        unfold vI at HC
        have HOK := Aside0.mk hok
        clear hok
        go_wp2_with (go_at_call 14; go_must (refine (HC _).out.mono ?_; rintro e w2 ⟨rfl, hd⟩))
        go_ret
        exact ⟨ret_bool (by rw [HT.out, HD.out, seenL, HOK.out]; simp), below_then hb2 hd⟩
      | true =>
        have HC := fun W => Aside0.mk (ValidItem_is hok W)
        unfold vI at HC
        have HOK := Aside0.mk hok
        have hsz : x.f0.size ≤ 1000000 := by have := okI_len hok; omega
        have HSZ := Aside0.mk hsz
        clear hok hsz
        have hbx : (wr.alloc (.cells #[.string x.f0, .int .i64 x.f1, .int .i64 x.f2, .int .i64 x.f3, .int .i64 x.f4] 32)).cell? ⟨wr.heap.size, 0, none⟩ = some (.string x.f0) := by simp
        by_cases hin : nmL x.f0 ∈ S
        · have HIN := Aside0.mk hin
          clear hin
          go_wp2_with (go_at_call 14; go_must (refine (HC _).out.mono ?_; rintro e w2 ⟨rfl, hd⟩; have hlook := (hmet2.below hd).look HSZ.out; rw [decide_eq_true HIN.out] at hlook; have hbx2 := pw_cell_below hd hbx))
          go_ret
          exact ⟨ret_bool (by rw [HT.out, HD.out, seenL, decide_eq_true (show nmI x ∈ S from HIN.out)]; simp), below_then hb2 hd⟩
        · have HIN := Aside0.mk hin
          clear hin
          have hs8 : S.length < maxLen := by have := HSL.out; unfold maxLen; omega
          have HS8 := Aside0.mk hs8
          clear hs8
          go_wp2_with (go_at_call 14; go_must (refine (HC _).out.mono ?_; rintro e w2 ⟨rfl, hd⟩; have hlook := (hmet2.below hd).look HSZ.out; rw [decide_eq_false HIN.out] at hlook; have hbx2 := pw_cell_below hd hbx; obtain ⟨w3, hput, hmet3, hgr⟩ := (hmet2.below hd).put HSZ.out HIN.out HS8.out; have hb3 := below_then hb2 hd))
          go_roundg (l.length - (i + 1))
          case measure => have := HG.out; omega
          case rel => exact ⟨i + 1, S ++ [nmL x.f0], rfl, by omega, by go_num, ⟨by rw [HT.out, HD.out, seenL, HOK.out, decide_eq_false (show nmI x ∉ S from HIN.out)]; rfl⟩, ⟨by have := HSL.out; simp; omega⟩, hmet3, hb3.grown hgr hb3.size (fun j hj => by cases hj; exact Nat.le_refl _)⟩
    · have HE : Aside0 (validF l = (decide (1 ≤ (l.length : Int)) && decide ((l.length : Int) ≤ 8))) := ⟨by rw [HT.out, List.drop_eq_nil_of_le (by omega), seenL, Bool.and_true]⟩
      go_wp2_with (go_at_call 54; go_must (refine (within_calls _ _ _ _).mono ?_; rintro e w2 ⟨rfl, hd⟩))
      go_ret
      exact ⟨ret_bool HE.out.symm, below_then hbel hd.below⟩
end Go.Proofs.YtibgjfeifpanhaaDoor.B

set_option linter.unusedVariables false
set_option linter.unusedSimpArgs false
namespace Go.Proofs.YtibgjfeifpanhaaDoor.B
open Go.RowKit Go.Proofs.YtibgjfeifpanhaaDoorW.PrintWords Go.Maps PItemValid

def holdsF (x : S32) (v : S29) : Bool := okV v && (v.f0 == x.f1) && (if v.f0 = 1 then decide (x.f2 ≤ v.f1) && decide (v.f1 ≤ x.f3) else decide ((v.f2.size : Int) ≤ x.f4))
def fitsL : List S32 → List S29 → Bool
  | x :: r, v :: s => holdsF x v && fitsL r s
  | _, _ => true
def eqF (l : List S32) (r : List S29) : Bool := decide (l.length = r.length) && fitsL l r
def fitsF (l : List S32) (r : List S29) : Bool := validF l && eqF l r
theorem okV_kind {v : S29} (h : okV v = true) : v.f0 = 1 ∨ v.f0 = 2 := by
  unfold okV at h
  split at h
  · exact .inl ‹_›
  · split at h
    · exact .inr ‹_›
    · cases h
theorem valid_is {v : S29} {r : Bool} (h : okV v = r) (w : World) : Calls Tryd.prog 12 #[vV v] w fun e w' => e = .returned (.bool r) ∧ Below w.heap.size w w' := by
  subst h
  exact ValidValue_calls v w
set_option maxRecDepth 100000 in
set_option maxHeartbeats 4000000 in
theorem takes_is {x : S32} {v : S29} {r : Bool} (h : holdsF x v = r) (w : World) : Calls Tryd.prog 62 #[vI x, vV v] w fun e w' => e = .returned (.bool r) ∧ Below w.heap.size w w' := by
  subst h
  have hb1 : Below w.heap.size w ((w.alloc (.cells #[.string x.f0, .int .i64 x.f1, .int .i64 x.f2, .int .i64 x.f3, .int .i64 x.f4] 32)).alloc (.cells #[.int .i64 v.f0, .int .i64 v.f1, .string v.f2] 29)) := below_alloc (below_alloc (Below.refl _ _) _) _
  have X : ∀ (j : Nat) u, (#[.string x.f0, .int .i64 x.f1, .int .i64 x.f2, .int .i64 x.f3, .int .i64 x.f4] : Array Value)[j]? = some u → ((w.alloc (.cells #[.string x.f0, .int .i64 x.f1, .int .i64 x.f2, .int .i64 x.f3, .int .i64 x.f4] 32)).alloc (.cells #[.int .i64 v.f0, .int .i64 v.f1, .string v.f2] 29)).cell? ⟨w.heap.size, j, none⟩ = some u := fun j u hu => by
    exact pw_cell_below (below_alloc (Below.refl _ _) _) (by rw [World.cell?_alloc_new]; exact hu)
  have V : ∀ (j : Nat) u, (#[.int .i64 v.f0, .int .i64 v.f1, .string v.f2] : Array Value)[j]? = some u → ((w.alloc (.cells #[.string x.f0, .int .i64 x.f1, .int .i64 x.f2, .int .i64 x.f3, .int .i64 x.f4] 32)).alloc (.cells #[.int .i64 v.f0, .int .i64 v.f1, .string v.f2] 29)).cell? ⟨w.heap.size + 1, j, none⟩ = some u := fun j u hu => by
    have := World.cell?_alloc_new (w := w.alloc (.cells #[.string x.f0, .int .i64 x.f1, .int .i64 x.f2, .int .i64 x.f3, .int .i64 x.f4] 32)) #[.int .i64 v.f0, .int .i64 v.f1, .string v.f2] 29 j
    rw [World.size_alloc] at this
    exact this.trans hu
  have x1 := X 1 _ rfl
  have x2 := X 2 _ rfl
  have x3 := X 3 _ rfl
  have x4 := X 4 _ rfl
  have v0 := V 0 _ rfl
  have v1 := V 1 _ rfl
  have v2 := V 2 _ rfl
  clear X V
  cases hok : okV v with
  | false =>
    have HC := fun W => Aside0.mk (valid_is hok W)
    have HF : Aside0 (holdsF x v = false) := ⟨by unfold holdsF; rw [hok]; rfl⟩
    clear hok x1 x2 x3 x4 v0 v1 v2
    unfold vV vI at *
    go_enter Tryd.func62, Tryd.ntmps62
    go_wp2_with (go_at_call 12; go_must (refine (HC _).out.mono ?_; rintro e w2 ⟨rfl, hd⟩))
    go_ret
    exact ⟨ret_bool HF.out.symm, below_then hb1 hd⟩
  | true =>
    have HC := fun W => Aside0.mk (valid_is hok W)
    cases hk : (v.f0 == x.f1) with
    | false =>
      have HF : Aside0 (holdsF x v = false) := ⟨by unfold holdsF; rw [hok, hk]; rfl⟩
      clear hok x2 x3 x4 v1 v2
      unfold vV vI at *
      go_enter Tryd.func62, Tryd.ntmps62
      go_wp2_with (go_at_call 12; go_must (refine (HC _).out.mono ?_; rintro e w2 ⟨rfl, hd⟩; have x1' := pw_cell_below hd x1; have v0' := pw_cell_below hd v0))
      go_ret
      exact ⟨ret_bool HF.out.symm, below_then hb1 hd⟩
    | true =>
      rcases okV_kind hok with h1 | h1
      · have k2 : (v.f0 == 2) = false := by rw [h1]; rfl
        have k1 : (v.f0 == 1) = true := by rw [h1]; rfl
        have HF : Aside0 (holdsF x v = (decide (x.f2 ≤ v.f1) && decide (v.f1 ≤ x.f3))) := ⟨by unfold holdsF; rw [hok, hk, if_pos h1]; rfl⟩
        clear hok h1 x4 v2
        unfold vV vI at *
        go_enter Tryd.func62, Tryd.ntmps62
        go_wp2_with (first | (go_at_call 12; go_must (refine (HC _).out.mono ?_; rintro e w2 ⟨rfl, hd⟩; have x1' := pw_cell_below hd x1; have x2' := pw_cell_below hd x2; have x3' := pw_cell_below hd x3; have v0' := pw_cell_below hd v0; have v1' := pw_cell_below hd v1)) | (go_at_call 54; go_must (refine (within_calls _ _ _ _).mono ?_; rintro e w3 ⟨rfl, hd3⟩)))
        go_ret
        exact ⟨ret_bool (by first | (rw [HF.out]; done) | (rw [HF.out]; simp)), below_then (below_then hb1 hd) hd3.below⟩
      · have k2 : (v.f0 == 2) = true := by rw [h1]; rfl
        have k1 : (v.f0 == 1) = false := by rw [h1]; rfl
        have HF : Aside0 (holdsF x v = decide ((v.f2.size : Int) ≤ x.f4)) := ⟨by unfold holdsF; rw [hok, hk, if_neg (by omega)]; rfl⟩
        clear hok h1 x2 x3 v1
        unfold vV vI at *
        cases hs : decide ((v.f2.size : Int) ≤ x.f4) with
        | false =>
          go_enter Tryd.func62, Tryd.ntmps62
          go_wp2_with (go_at_call 12; go_must (refine (HC _).out.mono ?_; rintro e w2 ⟨rfl, hd⟩; have x1' := pw_cell_below hd x1; have x4' := pw_cell_below hd x4; have v0' := pw_cell_below hd v0; have v2' := pw_cell_below hd v2))
          go_ret
          exact ⟨ret_bool (by rw [HF.out, hs]), below_then hb1 hd⟩
        | true =>
          go_enter Tryd.func62, Tryd.ntmps62
          go_wp2_with (go_at_call 12; go_must (refine (HC _).out.mono ?_; rintro e w2 ⟨rfl, hd⟩; have x1' := pw_cell_below hd x1; have x4' := pw_cell_below hd x4; have v0' := pw_cell_below hd v0; have v2' := pw_cell_below hd v2))
          go_ret
          exact ⟨ret_bool (by rw [HF.out, hs]), below_then hb1 hd⟩
end Go.Proofs.YtibgjfeifpanhaaDoor.B

set_option linter.unusedVariables false
set_option linter.unusedSimpArgs false
namespace Go.Proofs.YtibgjfeifpanhaaDoor.B
open Go.RowKit Go.Proofs.YtibgjfeifpanhaaDoorW.PrintWords Go.Maps PItemValid

set_option maxRecDepth 100000 in
set_option maxHeartbeats 4000000 in
theorem EqualFunc_calls (A : Option Addr) (c : Nat) (a : List S32) (A' : Option Addr) (c' : Nat) (b : List S29) (w : World) (hx : Kd.C k32 w A a.length a) (hy : Kd.C k29 w A' b.length b) :
    Calls Tryd.prog 61 #[.slice A a.length c, .slice A' b.length c', .func (.func 62) #[] #[]] w fun e w' => e = .returned (.bool (eqF a b)) ∧ Below w.heap.size w w' := by
  have HX := Aside0.mk hx
  have HY := Aside0.mk hy
  have hmx := (C_len hx).2
  have hmy := (C_len hy).2
  clear hx hy
  by_cases hl : a.length = b.length
  · have hl1 : ((a.length : Int) != (b.length : Int)) = false := by rw [hl]; exact bne_self_eq_false _
    have HL := Aside0.mk hl
    have HS : Aside0 (eqF a b = fitsL (a.drop 0) (b.drop 0)) := ⟨by unfold eqF; rw [decide_eq_true hl]; rfl⟩
    clear hl
    go_enter Tryd.func61, Tryd.ntmps61
    go_wp2
    go_loopg [17] a.length (fun g v17 wr => ∃ (i : Nat), g = a.length - i ∧ i ≤ a.length ∧ v17 = .int .i64 i ∧ Aside0 (eqF a b = fitsL (a.drop i) (b.drop i)) ∧ Below w.heap.size w wr)
    case atStart => exact ⟨0, rfl, Nat.zero_le _, rfl, HS, Below.refl _ _⟩
    case round =>
      obtain ⟨i, hg, hi, rfl, HT, hbel⟩ := hrel
      have HG := Aside0.mk hg
      clear hg HS
      by_cases hlt : i < a.length
      · have hlb : i < b.length := by have := HL.out; omega
        obtain ⟨ad, x, hA, hdx, c0, c1, c2, c3, c4⟩ := C_item HX.out i hlt
        subst hA
        replace c0 := pw_cell_below hbel c0
        replace c1 := pw_cell_below hbel c1
        replace c2 := pw_cell_below hbel c2
        replace c3 := pw_cell_below hbel c3
        replace c4 := pw_cell_below hbel c4
        obtain ⟨ad', y, hA', hdy, d0, d1, d2⟩ := C_val HY.out i hlb
        subst hA'
        have hbelA := below_alloc hbel (.cells #[.string x.f0, .int .i64 x.f1, .int .i64 x.f2, .int .i64 x.f3, .int .i64 x.f4] 32)
        replace d0 := pw_cell_below hbelA d0
        replace d1 := pw_cell_below hbelA d1
        replace d2 := pw_cell_below hbelA d2
        have HD := Aside0.mk hdx
        have HE := Aside0.mk hdy
        clear hdx hdy
        have hb3 := below_alloc hbelA (.cells #[.int .i64 y.f0, .int .i64 y.f1, .string y.f2] 29)
        cases hq : holdsF x y with
        | false =>
          have HC := fun W => Aside0.mk (takes_is hq W)
          have HQ := Aside0.mk hq
          unfold vV vI at HC
          clear hq
          go_wp2_with (go_at_call 62; go_must (refine (HC _).out.mono ?_; rintro e w2 ⟨rfl, hd⟩))
          go_ret
          exact ⟨ret_bool (by rw [HT.out, HD.out, HE.out, fitsL, HQ.out]; rfl), below_then hb3 hd⟩
        | true =>
          have HC := fun W => Aside0.mk (takes_is hq W)
          have HQ := Aside0.mk hq
          unfold vV vI at HC
          clear hq
          go_wp2_with (go_at_call 62; go_must (refine (HC _).out.mono ?_; rintro e w2 ⟨rfl, hd⟩))
          go_roundg (a.length - (i + 1))
          case measure => have := HG.out; omega
          case rel => exact ⟨i + 1, rfl, by omega, by go_num, ⟨by rw [HT.out, HD.out, HE.out, fitsL, HQ.out]; rfl⟩, below_then hb3 hd⟩
      · go_wp2
        go_ret
        exact ⟨ret_bool (by rw [HT.out, List.drop_eq_nil_of_le (show a.length ≤ i by omega)]; rfl), hbel⟩
  · have hl1 : ((a.length : Int) != (b.length : Int)) = true := bne_iff_ne.2 (by omega)
    have HF : Aside0 (eqF a b = false) := ⟨by unfold eqF; rw [decide_eq_false hl]; rfl⟩
    clear hl
    go_enter Tryd.func61, Tryd.ntmps61
    go_wp2
    go_ret
    exact ⟨ret_bool HF.out.symm, Below.refl _ _⟩
theorem items_is {l : List S32} {r : Bool} (h : validF l = r) (hl : l.length ≤ 20) (A : Option Addr) (c : Nat) (w : World) (hr : Kd.C k32 w A l.length l) :
    Calls Tryd.prog 20 #[.slice A l.length c] w fun e w' => e = .returned (.bool r) ∧ Below w.heap.size w w' := by
  subst h
  exact ValidItems_calls A c l w hl hr
theorem Fits_is {a : List S32} {b : List S29} {r : Bool} (h : fitsF a b = r) (hl : a.length ≤ 20) (A : Option Addr) (c : Nat) (A' : Option Addr) (c' : Nat) (w : World) (hx : Kd.C k32 w A a.length a) (hy : Kd.C k29 w A' b.length b) :
    Calls Tryd.prog 22 #[.slice A a.length c, .slice A' b.length c'] w fun e w' => e = .returned (.bool r) ∧ Below w.heap.size w w' := by
  subst h
  have HX := Aside0.mk hx
  have HY := Aside0.mk hy
  cases hv : validF a with
  | false =>
    have HF : Aside0 (fitsF a b = false) := ⟨by unfold fitsF; rw [hv]; rfl⟩
    have HC := Aside0.mk (items_is hv hl A c w hx)
    clear hv hx hy
    go_enter Tryd.func22, Tryd.ntmps22
    go_wp2_with (go_at_call 20; go_must (refine HC.out.mono ?_; rintro e w2 ⟨rfl, hd⟩))
    go_ret
    exact ⟨ret_bool HF.out.symm, hd⟩
  | true =>
    have HF : Aside0 (fitsF a b = eqF a b) := ⟨by unfold fitsF; rw [hv]; rfl⟩
    have HC := Aside0.mk (items_is hv hl A c w hx)
    have HE := fun W h => Aside0.mk (EqualFunc_calls A c a A' c' b W (Kd.C_below HX.out h) (Kd.C_below HY.out h))
    clear hv hx hy
    generalize eqF a b = q at HF HE
    go_enter Tryd.func22, Tryd.ntmps22
    go_wp2_with (first | (go_at_call 20; go_must (refine HC.out.mono ?_; rintro e w2 ⟨rfl, hd⟩)) | (go_at_call 61; go_must (refine (HE _ hd).out.mono ?_; rintro e w3 ⟨rfl, hd3⟩)))
    go_ret
    exact ⟨ret_bool (by first | (rw [HF.out]; done) | (rw [HF.out]; simp)), below_then hd hd3⟩
theorem ref_Holds_is (x : S32) (v : S29) (k : Nat) : ringworkref01_Holds.f (k + 1) x.f0 x.f1 x.f2 x.f3 x.f4 v.f0 v.f1 v.f2 = some (holdsF x v) := by
  unfold ringworkref01_Holds.f ringworkref01_Holds.j0 holdsF
  rw [ref_ValidValue_is]
  simp only [Option.bind_some]
  cases okV v with
  | false => rfl
  | true =>
    simp only [if_true, Bool.true_and]
    by_cases e : v.f0 = x.f1
    · rw [show (v.f0 != x.f1) = false by simpa using e, show (v.f0 == x.f1) = true by simpa using e]
      simp only [Bool.false_eq_true, if_false, Bool.true_and]
      by_cases k1 : v.f0 = 1
      · rw [if_pos k1, if_pos k1]
        by_cases h : x.f2 ≤ v.f1 <;> simp [h]
      · rw [if_neg k1, if_neg k1]
    · rw [show (v.f0 != x.f1) = true by simpa using e, show (v.f0 == x.f1) = false by simpa using e]
      simp
theorem ref_fits_loop (l : List S32) (r : List S29) (hl : l.length ≤ 20) (hr : l.length = r.length) (n : Nat) : ∀ (i k : Nat), l.length - i ≤ n → i ≤ l.length → n + 2 ≤ k → ringworkref01_Fits.l0 k l r (i : Int) = some (fitsL (l.drop i) (r.drop i)) := by
  induction n with
  | zero =>
    intro i k hn hi hk
    obtain ⟨k', rfl⟩ : ∃ k', k = k' + 1 := ⟨k - 1, by omega⟩
    unfold ringworkref01_Fits.l0
    rw [if_neg (by omega), List.drop_eq_nil_of_le (by omega)]
    rfl
  | succ n IH =>
    intro i k hn hi hk
    obtain ⟨k', rfl⟩ : ∃ k', k = k' + 1 + 1 := ⟨k - 2, by omega⟩
    unfold ringworkref01_Fits.l0
    by_cases h1 : i < l.length
    · have h2 : i < r.length := by omega
      rw [if_pos (by omega), if_pos (by omega), if_pos (by omega), rd32_get l i h1, rd_get r i h2, ref_Holds_is, List.drop_eq_getElem_cons h1, List.drop_eq_getElem_cons h2, fitsL, w64 (by omega) (by omega)]
      simp only [Option.bind_some]
      cases holdsF l[i] r[i] with
      | false => rw [if_neg (by simp)]; rfl
      | true =>
        rw [if_pos rfl]
        have := IH (i + 1) (k' + 1) (by omega) (by omega) (by omega)
        simpa using this
    · rw [if_neg (by omega), List.drop_eq_nil_of_le (by omega)]
      rfl
theorem ref_Fits_is (l : List S32) (r : List S29) (hl : l.length ≤ 20) : ringworkref01_Fits.f 70 l r = some (fitsF l r) := by
  unfold ringworkref01_Fits.f fitsF eqF
  rw [ref_ValidItems_is l hl 70 (by omega)]
  simp only [Option.bind_some]
  cases validF l with
  | false => rfl
  | true =>
    rw [if_pos rfl]
    by_cases e : l.length = r.length
    · rw [show ((r.length : Int) != (l.length : Int)) = false by rw [e]; exact bne_self_eq_false _, decide_eq_true e]
      show ringworkref01_Fits.l0 69 l r ((0 : Nat) : Int) = _
      rw [ref_fits_loop l r hl e 20 0 69 (by omega) (by omega) (by omega)]
      rfl
    · rw [show ((r.length : Int) != (l.length : Int)) = true from bne_iff_ne.2 (by omega), decide_eq_false e]
      rfl
end Go.Proofs.YtibgjfeifpanhaaDoor.B

set_option linter.unusedVariables false
set_option linter.unusedSimpArgs false
namespace Go.Proofs.YtibgjfeifpanhaaDoor.B
open Go.RowKit Go.Deep Go.ChangeShapes Go.WideShapes Go.Proofs.YtibgjfeifpanhaaDoorW.PrintWords Go.Maps PItemValid

section
variable {H : Type} {enc : TypeId × Value → H} {W : World} {held : Bool}
set_option maxRecDepth 100000 in
theorem open_items_C {a : Option Addr} {len cap fuel : Nat} {x : DataW H × List MemPlace} (h : DataW.trod enc Tryd.prog W 0 (fun _ => true) held fuel 22 [.slice a len cap] = some x) :
    ∃ l : List S32, l.length = len ∧ len ≤ cap ∧ Kd.C k32 W a l.length l := by
  refine open_C k32 Tryd.underlying22 (by kernel_rfl) (fun n cs y hy => ?_) h
  obtain ⟨xs, m, _, _, hl, hn, hf⟩ := DataW.trod_struct Tryd.underlying32 hy
  have hc : Tryd.prog.cellsOf 32 = 5 := by kernel_rfl
  have hc3 : Tryd.prog.cellsOf 3 = 1 := by kernel_rfl
  have hc9 : Tryd.prog.cellsOf 9 = 1 := by kernel_rfl
  rw [hc] at hl
  match cs, hl with
  | [u0, u1, u2, u3, u4], _ =>
    match xs, hn with
    | [x0, x1, x2, x3, x4], _ =>
      have h0 := hf 0 _ rfl
      have h1 := hf 1 _ rfl
      have h2 := hf 2 _ rfl
      have h3 := hf 3 _ rfl
      have h4 := hf 4 _ rfl
      simp [hc3, hc9] at h0 h1 h2 h3 h4
      obtain ⟨s0, e0, _, _⟩ := DataW.trod_string Tryd.underlying9 h0
      obtain ⟨n1, e1, _, _⟩ := DataW.trod_int Tryd.underlying3 h1
      obtain ⟨n2, e2, _, _⟩ := DataW.trod_int Tryd.underlying3 h2
      obtain ⟨n3, e3, _, _⟩ := DataW.trod_int Tryd.underlying3 h3
      obtain ⟨n4, e4, _, _⟩ := DataW.trod_int Tryd.underlying3 h4
      simp at e0 e1 e2 e3 e4
      subst e0 e1 e2 e3 e4
      exact ⟨⟨s0, n1, n2, n3, n4⟩, k32_mk _ _⟩
end
theorem items_end (l : List S32) (i k : Nat) (h : 20 ≤ i ∨ l.length ≤ i) : ringworklaw01_Items.l0 (k + 2) l (i : Int) = some (decide ((l.length : Int) ≤ 20)) := by
  unfold ringworklaw01_Items.l0
  by_cases h1 : i < l.length
  · rw [if_pos (by omega), show decide ((i : Int) < 20) = false from decide_eq_false (by omega)]
    unfold ringworklaw01_Items.j1
    rw [if_neg (by simp)]
  · rw [if_neg (by omega)]
    unfold ringworklaw01_Items.j1
    rw [if_neg (by simp)]
theorem items_loop (l : List S32) (n : Nat) : ∀ (i k : Nat), 20 - i ≤ n → i ≤ 20 → 2 * n + 3 ≤ k → ∃ r, ringworklaw01_Items.l0 k l (i : Int) = some r ∧ (r = true → l.length ≤ 20) := by
  induction n with
  | zero =>
    intro i k hn hi hk
    obtain ⟨k', rfl⟩ : ∃ k', k = k' + 2 := ⟨k - 2, by omega⟩
    exact ⟨_, items_end l i k' (.inl (by omega)), fun h => by have := of_decide_eq_true h; omega⟩
  | succ n IH =>
    intro i k hn hi hk
    obtain ⟨k', rfl⟩ : ∃ k', k = k' + 2 := ⟨k - 2, by omega⟩
    by_cases h0 : 20 ≤ i ∨ l.length ≤ i
    · exact ⟨_, items_end l i k' h0, fun h => by have := of_decide_eq_true h; omega⟩
    · unfold ringworklaw01_Items.l0
      rw [if_pos (by omega), show decide ((i : Int) < 20) = true from decide_eq_true (by omega)]
      unfold ringworklaw01_Items.j1
      rw [if_pos rfl, if_pos (by omega), if_pos (by omega)]
      by_cases h1 : ((rd_T32 l (i : Int)).f0.size : Int) > 100
      · rw [if_pos h1]
        exact ⟨false, rfl, fun h => by cases h⟩
      · rw [if_neg h1, w64 (by omega) (by omega)]
        have := IH (i + 1) k' (by omega) (by omega) (by omega)
        simpa using this
end Go.Proofs.YtibgjfeifpanhaaDoor.B

set_option linter.unusedVariables false
set_option linter.unusedSimpArgs false
namespace Go.Proofs.YtibgjfeifpanhaaDoor.B
open Go.RowKit Go.Proofs.YtibgjfeifpanhaaDoorW.PrintWords Go.Maps PItemValid

theorem named_is {x : S32} {nm : ByteArray} {r : Bool} (h : decide (nmI x = nm.data.toList) = r) (Bx : Nat) (w : World) (hb : w.cell? ⟨Bx, 0, none⟩ = some (.string nm)) :
    Calls Tryd.prog 97 #[vI x, .pointer (some ⟨Bx, 0, none⟩)] w fun e w' => e = .returned (.bool r) ∧ Below w.heap.size w w' := by
  have hd : (x.f0.toList == nm.toList) = r := by
    rw [ByteArray.toList_eq, ByteArray.toList_eq, ← h]
    unfold nmI
    generalize x.f0.data.toList = p
    generalize nm.data.toList = q
    by_cases e : p = q <;> simp [e]
  have hb2 := pw_cell_below (below_alloc (Below.refl _ w) (.cells #[.string x.f0, .int .i64 x.f1, .int .i64 x.f2, .int .i64 x.f3, .int .i64 x.f4] 32)) hb
  clear h hb
  unfold vI
  go_enter Tryd.func97, Tryd.ntmps97
  go_wp2
  go_ret
  exact ⟨ret_bool (by first | rfl | exact hd), below_alloc (Below.refl _ _) _⟩
set_option maxHeartbeats 2000000 in
theorem IndexItem_calls (A : Option Addr) (c : Nat) (l : List S32) (Bx : Nat) (nm : ByteArray) (w : World) (hr : Kd.C k32 w A l.length l) (hb : w.cell? ⟨Bx, 0, none⟩ = some (.string nm)) :
    Calls Tryd.prog 96 #[.slice A l.length c, .func (.func 97) #[] #[.pointer (some ⟨Bx, 0, none⟩)]] w fun e w' => e = .returned (.int .i64 (idxN nm.data.toList 0 l)) ∧ Below w.heap.size w w' := by
  have HR := Aside0.mk hr
  have HBX := Aside0.mk hb
  have hmx := (C_len hr).2
  clear hr hb
  have HS : Aside0 (idxN nm.data.toList 0 l = idxN nm.data.toList 0 (l.drop 0)) := ⟨rfl⟩
  go_enter Tryd.func96, Tryd.ntmps96
  go_wp2
  go_loopg [8] l.length (fun g v8 wr => ∃ (i : Nat), g = l.length - i ∧ i ≤ l.length ∧ v8 = .int .i64 i ∧ Aside0 (idxN nm.data.toList 0 l = idxN nm.data.toList i (l.drop i)) ∧ Below w.heap.size w wr)
  case atStart => exact ⟨0, rfl, Nat.zero_le _, rfl, HS, Below.refl _ _⟩
  case round =>
    obtain ⟨i, hg, hi, rfl, HT, hbel⟩ := hrel
    have HG := Aside0.mk hg
    clear hg HS
    by_cases hlt : i < l.length
    · obtain ⟨ad, x, hA, hdx, c0, c1, c2, c3, c4⟩ := C_item HR.out i hlt
      subst hA
      replace c0 := pw_cell_below hbel c0
      replace c1 := pw_cell_below hbel c1
      replace c2 := pw_cell_below hbel c2
      replace c3 := pw_cell_below hbel c3
      replace c4 := pw_cell_below hbel c4
      have HD := Aside0.mk hdx
      have HB2 := Aside0.mk (pw_cell_below hbel HBX.out)
      clear hdx
      cases hq : decide (nmI x = nm.data.toList) with
      | true =>
        have HQ := Aside0.mk (of_decide_eq_true hq)
        have HC := Aside0.mk (named_is hq Bx wr HB2.out)
        unfold vI at HC
        clear hq
        go_wp2_with (go_at_call 97; go_must (refine HC.out.mono ?_; rintro e w2 ⟨rfl, hd⟩))
        go_ret
        exact ⟨ret_i (by rw [HT.out, HD.out, idxN, if_pos HQ.out]), below_then hbel hd⟩
      | false =>
        have HQ := Aside0.mk (of_decide_eq_false hq)
        have HC := Aside0.mk (named_is hq Bx wr HB2.out)
        unfold vI at HC
        clear hq
        go_wp2_with (go_at_call 97; go_must (refine HC.out.mono ?_; rintro e w2 ⟨rfl, hd⟩))
        go_roundg (l.length - (i + 1))
        case measure => have := HG.out; omega
        case rel => exact ⟨i + 1, rfl, by omega, by go_num, ⟨by rw [HT.out, HD.out, idxN, if_neg HQ.out]⟩, below_then hbel hd⟩
    · go_wp2
      go_ret
      exact ⟨ret_i (by rw [HT.out, List.drop_eq_nil_of_le (by omega), idxN]), hbel⟩
theorem place_calls (A : Option Addr) (c : Nat) (l : List S32) (nm : ByteArray) (w : World) (hr : Kd.C k32 w A l.length l) :
    Calls Tryd.prog 71 #[.slice A l.length c, .string nm] w fun e w' => e = .returned (.int .i64 (idxN nm.data.toList 0 l)) ∧ Below w.heap.size w w' := by
  have HC := Aside0.mk (IndexItem_calls A c l w.heap.size nm (w.alloc (.cells #[.string nm] 9)) (Kd.C_alloc hr _) (by simp))
  clear hr
  go_enter Tryd.func71, Tryd.ntmps71
  go_wp2_with (go_at_call 96; go_must (refine HC.out.mono ?_; rintro e w2 ⟨rfl, hd⟩))
  go_ret
  exact ⟨rfl, below_then (below_alloc (Below.refl _ _) _) hd⟩
end Go.Proofs.YtibgjfeifpanhaaDoor.B

set_option linter.unusedVariables false
set_option linter.unusedSimpArgs false
namespace Go.Proofs.YtibgjfeifpanhaaDoor.B
open Go.RowKit Go.Proofs.YtibgjfeifpanhaaDoorW.PrintWords Go.Maps PItemValid

def findF (l : List S32) (nm : ByteArray) : Int × Int := if validF l = true then (if 0 ≤ idxN nm.data.toList 0 l then (idxN nm.data.toList 0 l, 0) else (0, 5)) else (0, 1)
theorem ret2i {F : Int × Int} {x y : Int} (h : F = (x, y)) : Ending.returned (.tuple #[.int .i64 x, .int .i64 y]) = Ending.returned (.tuple #[.int .i64 F.1, .int .i64 F.2]) := by rw [h]
theorem Find_calls (A : Option Addr) (c : Nat) (l : List S32) (nm : ByteArray) (w : World) (hl : l.length ≤ 20) (hr : Kd.C k32 w A l.length l) :
    Calls Tryd.prog 38 #[.slice A l.length c, .string nm] w fun e w' => e = .returned (.tuple #[.int .i64 (findF l nm).1, .int .i64 (findF l nm).2]) ∧ Below w.heap.size w w' := by
  have HR := Aside0.mk hr
  cases hv : validF l with
  | false =>
    have HC := Aside0.mk (items_is hv hl A c w hr)
    have HF : Aside0 (findF l nm = (0, 1)) := ⟨by unfold findF; rw [hv]; rfl⟩
    clear hv hr
    go_enter Tryd.func38, Tryd.ntmps38
    go_wp2_with (go_at_call 20; go_must (refine HC.out.mono ?_; rintro e w2 ⟨rfl, hd⟩))
    go_ret2
    exact ⟨ret2i HF.out, hd⟩
  | true =>
    have HC := Aside0.mk (items_is hv hl A c w hr)
    have HP := fun W h => Aside0.mk (place_calls A c l nm W (Kd.C_below HR.out h))
    have HF : Aside0 (findF l nm = if 0 ≤ idxN nm.data.toList 0 l then (idxN nm.data.toList 0 l, 0) else (0, 5)) := ⟨by unfold findF; rw [hv]; rfl⟩
    clear hv hr
    generalize idxN nm.data.toList 0 l = q at HP HF
    by_cases h : 0 ≤ q
    · have HG : Aside0 (findF l nm = (q, 0)) := ⟨by rw [HF.out, if_pos h]⟩
      go_enter Tryd.func38, Tryd.ntmps38
      go_wp2_with (first | (go_at_call 20; go_must (refine HC.out.mono ?_; rintro e w2 ⟨rfl, hd⟩)) | (go_at_call 71; go_must (refine (HP _ hd).out.mono ?_; rintro e w3 ⟨rfl, hd3⟩)))
      go_ret2
      exact ⟨ret2i HG.out, below_then hd hd3⟩
    · have HG : Aside0 (findF l nm = (0, 5)) := ⟨by rw [HF.out, if_neg h]⟩
      go_enter Tryd.func38, Tryd.ntmps38
      go_wp2_with (first | (go_at_call 20; go_must (refine HC.out.mono ?_; rintro e w2 ⟨rfl, hd⟩)) | (go_at_call 71; go_must (refine (HP _ hd).out.mono ?_; rintro e w3 ⟨rfl, hd3⟩)))
      go_ret2
      exact ⟨ret2i HG.out, below_then hd hd3⟩
end Go.Proofs.YtibgjfeifpanhaaDoor.B

namespace Go.Proofs.YtibgjfeifpanhaaDoor.PItemValid
open Go.RowKit Go.Proofs.YtibgjfeifpanhaaDoorW.PrintWords Go.Proofs.YtibgjfeifpanhaaDoorW.PrintLast Go.Proofs.YtibgjfeifpanhaaDoorW.PrintMore
attribute [local go_sem] max2_int min2_int max_two min_two max_three min_three max_four min_four   -- for this text's walks alone
set_option linter.unusedVariables false
set_option linter.unusedSimpArgs false

theorem info29 : (Tryd.prog.info? 29).map (fun i => (i.zero, i.size, i.bytes)) = some (some (.agg #[(.int .i64 0), (.int .i64 0), (.string ⟨#[]⟩)]), 3, 32) := by kernel_rfl
theorem eqA32 (d : Nat) (w : World) (x0 y0 : ByteArray) (x1 y1 : Int) (x2 y2 : Int) (x3 y3 : Int) (x4 y4 : Int) :
    (Op.equalIn (d + 2) 32 (.agg #[.string x0, .int .i64 x1, .int .i64 x2, .int .i64 x3, .int .i64 x4]) (.agg #[.string y0, .int .i64 y1, .int .i64 y2, .int .i64 y3, .int .i64 y4])).run Tryd.prog w = .ok (x0.toList == y0.toList && (x1 == y1 && (x2 == y2 && (x3 == y3 && (x4 == y4))))) w := by
  refine eqA_of Tryd.underlying32 (by kernel_rfl) ?_
  refine eqf_cons (by rfl) (by go_simp; rfl) (by go_simp; rfl) (by go_simp) ?_
  refine eqf_cons (by rfl) (by go_simp; rfl) (by go_simp; rfl) (by go_simp) ?_
  refine eqf_cons (by rfl) (by go_simp; rfl) (by go_simp; rfl) (by go_simp) ?_
  refine eqf_cons (by rfl) (by go_simp; rfl) (by go_simp; rfl) (by go_simp) ?_
  exact eqf_last (by rfl) (by go_simp; rfl) (by go_simp; rfl) (by go_simp)
end Go.Proofs.YtibgjfeifpanhaaDoor.PItemValid

set_option linter.unusedVariables false
set_option linter.unusedSimpArgs false
namespace Go.Proofs.YtibgjfeifpanhaaDoor.B
open Go.RowKit Go.Proofs.YtibgjfeifpanhaaDoorW.PrintWords Go.Maps PItemValid

theorem idxN_lt (nm : List UInt8) : ∀ (l : List S32) (i : Nat), idxN nm i l < ((i + l.length : Nat) : Int)
  | [], i => by simp [idxN]; omega
  | x :: r, i => by
    rw [idxN]
    split
    · simp; omega
    · have := idxN_lt nm r (i + 1)
      simp only [List.length_cons]
      omega
end Go.Proofs.YtibgjfeifpanhaaDoor.B

set_option linter.unusedVariables false
set_option linter.unusedSimpArgs false
namespace Go.Proofs.YtibgjfeifpanhaaDoor.B
open Go.RowKit Go.Proofs.YtibgjfeifpanhaaDoorW.PrintWords Go.Maps PItemValid

abbrev OVal (w : World) (base : Nat) (v : Value) (xs : List S29) : Prop := Kd.R k29 29 w base Tr v xs
/-- The values of names, in their order; none if one is unknown. -/
def picksV (l : List S32) (r : List S29) : List ByteArray → Option (List S29)
  | [] => some []
  | n :: ns => if idxN n.data.toList 0 l < 0 then none else (picksV l r ns).map (r.getD (idxN n.data.toList 0 l).toNat z29 :: ·)
def pickF (l : List S32) (r : List S29) (names : List ByteArray) : List S29 × Int :=
  if fitsF l r = true then (match picksV l r names with
    | none => ([], 5)
    | some out => if 8 < out.length then ([], 4) else (out, 0)) else ([], 1)
theorem ret_vv {v : Value} {F : List S29 × Int} {x : List S29} {y : Int} (h : F = (x, y)) : Ending.returned (.tuple #[v, .int .i64 y]) = Ending.returned (.tuple #[v, .int .i64 F.2]) := by rw [h]
set_option maxRecDepth 100000 in
set_option maxHeartbeats 4000000 in
theorem Pick_calls (A : Option Addr) (c : Nat) (l : List S32) (A1 : Option Addr) (c1 : Nat) (r : List S29) (A' : Option Addr) (c' : Nat) (names : List ByteArray) (w : World) (hl : l.length ≤ 20) (hn : names.length ≤ 20) (hr : Kd.C k32 w A l.length l) (h1 : Kd.C k29 w A1 r.length r) (hs : Kd.C Kd.string w A' names.length names) :
    Calls Tryd.prog 34 #[.slice A l.length c, .slice A1 r.length c1, .slice A' names.length c'] w fun e w' => ∃ v, e = .returned (.tuple #[v, .int .i64 (pickF l r names).2]) ∧ OVal w' w.heap.size v (pickF l r names).1 ∧ Below w.heap.size w w' := by
  have HR := Aside0.mk hr
  have H1 := Aside0.mk h1
  have HS := Aside0.mk hs
  have hmy := (C_len hs).2
  cases hv : fitsF l r with
  | false =>
    have HC := Aside0.mk (Fits_is hv hl A c A1 c1 w hr h1)
    have HF : Aside0 (pickF l r names = ([], 1)) := ⟨by unfold pickF; rw [hv]; rfl⟩
    clear hv hr h1 hs
    go_enter Tryd.func34, Tryd.ntmps34
    go_wp2_with (go_at_call 22; go_must (refine HC.out.mono ?_; rintro e w2 ⟨rfl, hd⟩))
    go_ret2
    exact ⟨_, ret_vv HF.out, by rw [HF.out]; exact Kd.R_nil _ _ _ _ _, hd⟩
  | true =>
    have HC := Aside0.mk (Fits_is hv hl A c A1 c1 w hr h1)
    have HV := Aside0.mk hv
    have hlr : l.length = r.length := by
      unfold fitsF eqF at hv
      simp only [Bool.and_eq_true, decide_eq_true_eq] at hv
      exact hv.2.1
    have HLR := Aside0.mk hlr
    have HP := fun W h nm => Aside0.mk (place_calls A c l nm W (Kd.C_below HR.out h))
    clear hv hr h1 hs hlr
    go_enter Tryd.func34, Tryd.ntmps34
    go_wp2_with (go_at_call 22; go_must (refine HC.out.mono ?_; rintro e w2 ⟨rfl, hd⟩))
    go_loopg [8, 18] names.length (fun g v8 v18 wr => ∃ (i : Nat) (acc : List S29), g = names.length - i ∧ i ≤ names.length ∧ v18 = .int .i64 i ∧ Aside0 (picksV l r names = (picksV l r (names.drop i)).map (acc ++ ·) ∧ acc.length = i) ∧ Aside0 (OVal wr w.heap.size v8 acc) ∧ Below w.heap.size w wr)
    case atStart => exact ⟨0, [], rfl, Nat.zero_le _, rfl, ⟨by simp, rfl⟩, ⟨Kd.R_nil _ _ _ _ _⟩, hd⟩
    case round =>
      clear hd
      obtain ⟨i, acc, hg, hi, rfl, HT, HO, hbel⟩ := hrel
      have HG := Aside0.mk hg
      clear hg
      by_cases hlt : i < names.length
      · obtain ⟨ad, nm, hA, hdx, k0⟩ := C_str HS.out i hlt
        subst hA
        replace k0 := pw_cell_below hbel k0
        have HD := Aside0.mk hdx
        have HPN := HP wr hbel nm
        clear hdx
        have hqlt := idxN_lt nm.data.toList l 0
        obtain ⟨q, hq⟩ : ∃ q, idxN nm.data.toList 0 l = q := ⟨_, rfl⟩
        rw [hq] at HPN hqlt
        have HQ := Aside0.mk hq
        clear hq
        by_cases hneg : q < 0
        · have HF : Aside0 (pickF l r names = ([], 5)) := ⟨by
            unfold pickF
            rw [HV.out, HT.out.1, HD.out, picksV, HQ.out, if_pos hneg]; rfl⟩
          go_wp2_with (go_at_call 71; go_must (refine HPN.out.mono ?_; rintro e w3 ⟨rfl, hd3⟩))
          go_ret2
          exact ⟨_, ret_vv HF.out, by rw [HF.out]; exact Kd.R_nil _ _ _ _ _, below_then hbel hd3⟩
        · obtain ⟨m, rfl⟩ : ∃ m : Nat, q = m := ⟨q.toNat, by omega⟩
          have hml : m < r.length := by have := HLR.out; omega
          obtain ⟨ad2, x, hA2, hdx2, c0, c1', c2⟩ := C_val H1.out m hml
          subst hA2
          have hxd : r.getD m z29 = x := by
            rw [List.drop_eq_getElem_cons hml] at hdx2
            injection hdx2 with h1 _
            rw [List.getD_eq_getElem?_getD, List.getElem?_eq_getElem hml, ← h1]; rfl
          have HT2 : Aside0 (picksV l r names = (picksV l r (names.drop (i + 1))).map ((acc ++ [x]) ++ ·) ∧ (acc ++ [x]).length = i + 1) := ⟨by
            refine ⟨?_, by rw [List.length_append, HT.out.2]; rfl⟩
            rw [HT.out.1, HD.out, picksV, HQ.out, if_neg hneg, show ((m : Int)).toNat = m from rfl, hxd, Option.map_map]
            congr 1
            funext o
            simp⟩
          have hacc : acc.length ≤ 20 := by have := HT.out.2; omega
          have HAC := Aside0.mk hacc
          clear hdx2 hxd hacc hqlt
          go_wp2_with (first | (go_at_call 71; go_must (refine HPN.out.mono ?_; rintro e w3 ⟨rfl, hd3⟩; have hb3 := below_then hbel hd3; have d0 := pw_cell_below hb3 c0; have d1 := pw_cell_below hb3 c1'; have d2 := pw_cell_below hb3 c2; have HO3 := Aside0.mk (Kd.R_below HO.out hd3))) | ((with_reducible refine at_b (b := .append) (xs := #[.tmp 27, .tmp 32]) rfl ?_); go_must (refine Kd.R_append k29 (w0 := w) (W := w3) w.heap.size rfl (.tmp 27) (.tmp 32) 23 29 (.agg #[(.int .i64 0), (.int .i64 0), (.string ⟨#[]⟩)]) 32 rfl Tryd.underlying23 info29 rfl (by decide) (by omega) u8 acc x [.int .i64 x.f0, .int .i64 x.f1, .string x.f2] Tr (fun _ => False) rfl rfl (k29_mkM _ _ _ x) (fun _ h => h.elim) (fun _ _ => trivial) HO3.out hb3 hb3.size ?bL ?_; (case bL => have := HAC.out; omega); intro v5 w5 ho5 hb5 hg5 hat5; have HO5 := Aside0.mk ho5; clear ho5 hg5 hat5)))
          go_roundg (names.length - (i + 1))
          case measure => have := HG.out; omega
          case rel => exact ⟨i + 1, acc ++ [x], rfl, by omega, by go_num, HT2, HO5, hb5⟩
      · obtain ⟨A9, c9, e9, _, hC9⟩ := Kd.R_reads HO.out
        subst e9
        have hpk : picksV l r names = some acc := by
          rw [HT.out.1, List.drop_eq_nil_of_le (by omega)]
          simp [picksV]
        by_cases h8 : 8 < acc.length
        · have HF : Aside0 (pickF l r names = ([], 4)) := ⟨by unfold pickF; rw [HV.out, hpk]; simp [h8]⟩
          have h82 : (8 : Int) < (acc.length : Int) := by omega
          clear hpk
          go_wp2
          go_ret2
          exact ⟨_, ret_vv HF.out, by rw [HF.out]; exact Kd.R_nil _ _ _ _ _, hbel⟩
        · have HF : Aside0 (pickF l r names = (acc, 0)) := ⟨by unfold pickF; rw [HV.out, hpk]; simp [h8]⟩
          have h82 : ¬ (8 : Int) < (acc.length : Int) := by omega
          clear hpk
          go_wp2
          go_ret2
          exact ⟨_, ret_vv HF.out, by rw [HF.out]; exact HO.out, hbel⟩
end Go.Proofs.YtibgjfeifpanhaaDoor.B

set_option linter.unusedVariables false
set_option linter.unusedSimpArgs false
namespace Go.Proofs.YtibgjfeifpanhaaDoor.B
open Go.RowKit Go.Proofs.YtibgjfeifpanhaaDoorW.PrintWords Go.Proofs.YtibgjfeifpanhaaDoorW.PrintLast Go.Proofs.YtibgjfeifpanhaaDoorW.PrintMore Go.Maps PItemValid
attribute [local go_sem] max2_int min2_int

def defV (x : S32) : S29 := ⟨x.f1, if x.f1 = 1 then min (max 0 x.f2) x.f3 else 0, ⟨#[]⟩⟩
def defF (l : List S32) : List S29 × Int := if validF l = true then (l.map defV, 0) else ([], 1)
set_option maxRecDepth 100000 in
set_option maxHeartbeats 4000000 in
theorem Default_calls (A : Option Addr) (c : Nat) (l : List S32) (w : World) (hl : l.length ≤ 20) (hr : Kd.C k32 w A l.length l) :
    Calls Tryd.prog 42 #[.slice A l.length c] w fun e w' => ∃ v, e = .returned (.tuple #[v, .int .i64 (defF l).2]) ∧ OVal w' w.heap.size v (defF l).1 ∧ Below w.heap.size w w' := by
  have HR := Aside0.mk hr
  cases hv : validF l with
  | false =>
    have HC := Aside0.mk (items_is hv hl A c w hr)
    have HF : Aside0 (defF l = ([], 1)) := ⟨by unfold defF; rw [hv]; rfl⟩
    clear hv hr
    go_enter Tryd.func42, Tryd.ntmps42
    go_wp2_with (go_at_call 20; go_must (refine HC.out.mono ?_; rintro e w2 ⟨rfl, hd⟩))
    go_ret2
    exact ⟨_, ret_vv HF.out, by rw [HF.out]; exact Kd.R_nil _ _ _ _ _, hd⟩
  | true =>
    have HC := Aside0.mk (items_is hv hl A c w hr)
    have HF : Aside0 (defF l = (l.map defV, 0)) := ⟨by unfold defF; rw [hv]; rfl⟩
    clear hv hr
    go_enter Tryd.func42, Tryd.ntmps42
    go_wp2_with (go_at_call 20; go_must (refine HC.out.mono ?_; rintro e w2 ⟨rfl, hd⟩))
    go_loopg [4, 13] l.length (fun g v4 v13 wr => ∃ (i : Nat), g = l.length - i ∧ i ≤ l.length ∧ v13 = .int .i64 i ∧ Aside0 (OVal wr w.heap.size v4 ((l.take i).map defV)) ∧ Below w.heap.size w wr)
    case atStart => exact ⟨0, rfl, Nat.zero_le _, rfl, ⟨Kd.R_nil _ _ _ _ _⟩, hd⟩
    case round =>
      clear hd
      obtain ⟨i, hg, hi, rfl, HO, hbel⟩ := hrel
      have HG := Aside0.mk hg
      clear hg
      by_cases hlt : i < l.length
      · obtain ⟨ad, x, hA, hdx, c0, c1, c2, c3, c4⟩ := C_item HR.out i hlt
        subst hA
        replace c0 := pw_cell_below hbel c0
        replace c1 := pw_cell_below hbel c1
        replace c2 := pw_cell_below hbel c2
        replace c3 := pw_cell_below hbel c3
        replace c4 := pw_cell_below hbel c4
        have HTK : Aside0 ((l.take (i + 1)).map defV = (l.take i).map defV ++ [defV x]) := ⟨by
          rw [List.drop_eq_getElem_cons hlt] at hdx
          injection hdx with h1 _
          rw [List.take_succ_eq_append_getElem hlt, List.map_append, h1]; rfl⟩
        have HL8 : Aside0 (((l.take i).map defV).length ≤ 20) := ⟨by rw [List.length_map, List.length_take]; omega⟩
        clear hdx
        have main : ∀ (n : Int), defV x = ⟨x.f1, n, ⟨#[]⟩⟩ → Aside0 (OVal ((wr.alloc (.cells #[.string x.f0, .int .i64 x.f1, .int .i64 x.f2, .int .i64 x.f3, .int .i64 x.f4] 32)).alloc (.cells #[.int .i64 x.f1, .int .i64 n, .string ⟨#[]⟩] 29)) w.heap.size u4 ((l.take i).map defV)) ∧ Below w.heap.size w ((wr.alloc (.cells #[.string x.f0, .int .i64 x.f1, .int .i64 x.f2, .int .i64 x.f3, .int .i64 x.f4] 32)).alloc (.cells #[.int .i64 x.f1, .int .i64 n, .string ⟨#[]⟩] 29)) := fun n _ =>
          ⟨⟨Kd.R_below HO.out (below_alloc (below_alloc (Below.refl _ wr) _) _)⟩, below_alloc (below_alloc hbel _) _⟩
        by_cases h1 : x.f1 = 1
        · have hk : (x.f1 == 1) = true := by simpa using h1
          have hdv : defV x = ⟨x.f1, min (max 0 x.f2) x.f3, ⟨#[]⟩⟩ := by unfold defV; rw [if_pos h1]
          obtain ⟨HO3, hb3⟩ := main _ hdv
          have HDV := Aside0.mk hdv
          clear h1 main hdv
          go_wp2_with ((with_reducible refine at_b (b := .append) (xs := #[.tmp 30, .tmp 32]) rfl ?_); go_must (refine Kd.R_append k29 (w0 := w) w.heap.size rfl (.tmp 30) (.tmp 32) 23 29 (.agg #[(.int .i64 0), (.int .i64 0), (.string ⟨#[]⟩)]) 32 rfl Tryd.underlying23 info29 rfl (by decide) (by omega) u4 ((l.take i).map defV) ⟨x.f1, min (max 0 x.f2) x.f3, ⟨#[]⟩⟩ [.int .i64 x.f1, .int .i64 (min (max 0 x.f2) x.f3), .string ⟨#[]⟩] Tr (fun _ => False) rfl (by simp [Act.eval]) (k29_mkM _ _ _ _) (fun _ h => h.elim) (fun _ _ => trivial) HO3.out hb3 hb3.size ?bL ?_; (case bL => have := HL8.out; omega); intro v5 w5 ho5 hb5 hg5 hat5; have HO5 := Aside0.mk ho5; clear ho5 hg5 hat5))
          go_roundg (l.length - (i + 1))
          case measure => have := HG.out; omega
          case rel => exact ⟨i + 1, rfl, by omega, by go_num, ⟨by rw [HTK.out, HDV.out]; exact HO5.out⟩, hb5⟩
        · have hk : (x.f1 == 1) = false := by simpa using h1
          have hdv : defV x = ⟨x.f1, 0, ⟨#[]⟩⟩ := by unfold defV; rw [if_neg h1]
          obtain ⟨HO3, hb3⟩ := main _ hdv
          have HDV := Aside0.mk hdv
          clear h1 main hdv
          go_wp2_with ((with_reducible refine at_b (b := .append) (xs := #[.tmp 30, .tmp 32]) rfl ?_); go_must (refine Kd.R_append k29 (w0 := w) w.heap.size rfl (.tmp 30) (.tmp 32) 23 29 (.agg #[(.int .i64 0), (.int .i64 0), (.string ⟨#[]⟩)]) 32 rfl Tryd.underlying23 info29 rfl (by decide) (by omega) u4 ((l.take i).map defV) ⟨x.f1, 0, ⟨#[]⟩⟩ [.int .i64 x.f1, .int .i64 0, .string ⟨#[]⟩] Tr (fun _ => False) rfl (by simp [Act.eval]) (k29_mkM _ _ _ _) (fun _ h => h.elim) (fun _ _ => trivial) HO3.out hb3 hb3.size ?bL ?_; (case bL => have := HL8.out; omega); intro v5 w5 ho5 hb5 hg5 hat5; have HO5 := Aside0.mk ho5; clear ho5 hg5 hat5))
          go_roundg (l.length - (i + 1))
          case measure => have := HG.out; omega
          case rel => exact ⟨i + 1, rfl, by omega, by go_num, ⟨by rw [HTK.out, HDV.out]; exact HO5.out⟩, hb5⟩
      · have e : l.take i = l := List.take_of_length_le (by omega)
        have HO4 : Aside0 (OVal wr w.heap.size u4 (l.map defV)) := ⟨by have := HO.out; rwa [e] at this⟩
        clear e
        go_wp2
        go_ret2
        exact ⟨_, ret_vv HF.out, by rw [HF.out]; exact HO4.out, hbel⟩
end Go.Proofs.YtibgjfeifpanhaaDoor.B

namespace Go.Proofs.YtibgjfeifpanhaaDoor.PItemValid
open Go.RowKit Go.Proofs.YtibgjfeifpanhaaDoorW.PrintWords Go.Proofs.YtibgjfeifpanhaaDoorW.PrintLast Go.Proofs.YtibgjfeifpanhaaDoorW.PrintMore
attribute [local go_sem] max2_int min2_int max_two min_two max_three min_three max_four min_four   -- for this text's walks alone
attribute [local go_sem high] eqA32
set_option linter.unusedVariables false
set_option linter.unusedSimpArgs false

/-! ### ringworklaw01_Names: function 30 -/
mutual
def ringworklaw01_Names.l0 : Nat → List ByteArray → Int → Option (Bool)
  | 0, _, _ => none
  | k + 1, x0, x3 => if x3 < (x0.length : Int) then (ringworklaw01_Names.j1 k x0 x3 (decide (x3 < 20))) else (ringworklaw01_Names.j1 k x0 x3 false)
def ringworklaw01_Names.j1 : Nat → List ByteArray → Int → Bool → Option (Bool)
  | 0, _, _, _ => none
  | k + 1, x0, x3, x11 => if x11 = true then (if 0 ≤ x3 then (if x3 < (x0.length : Int) then (if ((rdOf ByteArray.empty x0 x3).size : Int) > 100 then (some false) else (ringworklaw01_Names.l0 k x0 (wrap64 (x3 + 1)))) else (none)) else (none)) else (some (decide ((x0.length : Int) ≤ 20)))
end
def ringworklaw01_Names.f (k : Nat) (l0 : List ByteArray) : Option (Bool) := ringworklaw01_Names.l0 k l0 0
theorem ringworklaw01_Names.mono_l : ∀ k, (∀ y0 y1, LeO (ringworklaw01_Names.l0 k y0 y1) (ringworklaw01_Names.l0 (k + 1) y0 y1)) ∧ (∀ y0 y1 y2, LeO (ringworklaw01_Names.j1 k y0 y1 y2) (ringworklaw01_Names.j1 (k + 1) y0 y1 y2))
  | 0 => ⟨fun _ _ r h => by simp [ringworklaw01_Names.l0] at h, fun _ _ _ r h => by simp [ringworklaw01_Names.j1] at h⟩
  | k + 1 => by
    obtain ⟨ih0, ih1⟩ := ringworklaw01_Names.mono_l k
    refine ⟨?_, ?_⟩
    · intro y0 y1
      unfold ringworklaw01_Names.l0
      repeat' first
      | (with_reducible exact ih0 _ _)
      | (with_reducible exact ih1 _ _ _)
      | (with_reducible exact LeO.refl _)
      | (with_reducible exact LeO.none _)
      | (with_reducible refine LeO.ite ?_ ?_)
      | (with_reducible refine LeO.bind ?_ (fun _ => ?_))
      | exact ih0 _ _
      | exact ih1 _ _ _
      | exact LeO.none _
      | refine LeO.ite ?_ ?_
      | refine LeO.bind ?_ (fun _ => ?_)
    · intro y0 y1 y2
      unfold ringworklaw01_Names.j1
      repeat' first
      | (with_reducible exact ih0 _ _)
      | (with_reducible exact ih1 _ _ _)
      | (with_reducible exact LeO.refl _)
      | (with_reducible exact LeO.none _)
      | (with_reducible refine LeO.ite ?_ ?_)
      | (with_reducible refine LeO.bind ?_ (fun _ => ?_))
      | exact ih0 _ _
      | exact ih1 _ _ _
      | exact LeO.none _
      | refine LeO.ite ?_ ?_
      | refine LeO.bind ?_ (fun _ => ?_)
theorem ringworklaw01_Names.mono : ∀ a0 k, LeO (ringworklaw01_Names.f k a0) (ringworklaw01_Names.f (k + 1) a0) := by
  intro a0 k
  obtain ⟨ih0, ih1⟩ := ringworklaw01_Names.mono_l k
  unfold ringworklaw01_Names.f
  repeat' first
      | (with_reducible exact ih0 _ _)
      | (with_reducible exact ih1 _ _ _)
      | (with_reducible exact LeO.refl _)
      | (with_reducible exact LeO.none _)
      | (with_reducible refine LeO.ite ?_ ?_)
      | (with_reducible refine LeO.bind ?_ (fun _ => ?_))
      | exact ih0 _ _
      | exact ih1 _ _ _
      | exact LeO.none _
      | refine LeO.ite ?_ ?_
      | refine LeO.bind ?_ (fun _ => ?_)
set_option maxHeartbeats 8000000 in
set_option maxRecDepth 100000 in
theorem ringworklaw01_Names.calls (k : Nat) (A0 : Option Addr) (c0 : Nat) (l0 : List ByteArray) (r : Bool) (w : World) (hr0 : Kd.C Kd.string w A0 l0.length l0) (hc0 : l0.length ≤ c0) (h : ringworklaw01_Names.f k l0 = some r) :
    Calls Tryd.prog 30 #[.slice A0 l0.length c0] w fun e w' => e = .returned (.bool r) ∧ Drawn0 w w' := by
  have HR0 := Aside0.mk hr0
  have HC0 := Aside0.mk hc0
  clear hr0 hc0
  have H : (ringworklaw01_Names.l0 k l0 0) = some r := h
  clear h
  have H' := Aside0.mk H
  clear H
  go_enter Tryd.func30, Tryd.ntmps30
  go_wp2
  go_loopg [3] k (fun kq v3 w' => ∃ (x3_1 : Int), v3 = .int .i64 x3_1 ∧ Aside0 (ringworklaw01_Names.l0 kq l0 x3_1 = some r) ∧ Aside0 (kq ≤ k) ∧ Drawn0 w w')
  case atStart => exact ⟨(0), (by first | rfl | (simp; done) | (simp [*]; done)), H', ⟨Nat.le_refl _⟩, by repeat (first | exact Drawn0.refl _ | apply Drawn0.step)⟩
  case round =>
    clear H'
    obtain ⟨x3_1, rfl, HA, HK1, ⟨m1, rfl⟩⟩ := hrel
    cases gk with
    | zero => exact absurd HA.out (by simp [ringworklaw01_Names.l0])
    | succ k1 =>
      have H := HA.out
      clear HA
      simp only [ringworklaw01_Names.l0] at H
      have HC2 := Aside0.mk H
      clear H
      go_upto_region 2 with (fail)
      go_cut [11] (fun v11 wc => ∃ (kq : Nat) (x11_1 : Bool), v11 = .bool x11_1 ∧ Aside0 (ringworklaw01_Names.j1 kq l0 x3_1 x11_1 = some r) ∧ Aside0 (kq ≤ k1) ∧ Drawn0 w wc)
      case first =>
        have H := HC2.out
        clear HC2
        by_cases c3 : x3_1 < (l0.length : Int)
        · rw [if_pos c3] at H
          have c3b0 : decide (x3_1 < (l0.length : Int)) = true := decide_eq_true c3
          clear c3
          (first | rw [c3b0] | (simp only [i64_w, i32_w]; rw [c3b0]) | skip)
          have H' := Aside0.mk H
          clear H
          go_wp2
          go_meet
          case rel => exact ⟨_, (decide (x3_1 < 20)), (by first | rfl | (simp; done) | (simp [*]; done)), H', ⟨by have := HK1.out; first | omega | exact Nat.le_refl _⟩, by repeat (first | exact Drawn0.refl _ | apply Drawn0.step)⟩
        · rw [if_neg c3] at H
          have c3b0 : decide (x3_1 < (l0.length : Int)) = false := decide_eq_false c3
          clear c3
          (first | rw [c3b0] | (simp only [i64_w, i32_w]; rw [c3b0]) | skip)
          have H' := Aside0.mk H
          clear H
          go_wp2
          go_meet
          case rel => exact ⟨_, (false), (by first | rfl | (simp; done) | (simp [*]; done)), H', ⟨by have := HK1.out; first | omega | exact Nat.le_refl _⟩, by repeat (first | exact Drawn0.refl _ | apply Drawn0.step)⟩
      case rest =>
        clear HC2
        try clear p2
        try clear c3
        try clear c3b0
        obtain ⟨kq, x11_1, rfl, HA, HJ1, ⟨mc1, rfl⟩⟩ := hcut
        cases kq with
        | zero => exact absurd HA.out (by simp [ringworklaw01_Names.j1])
        | succ kj1 =>
          have H := HA.out
          clear HA
          simp only [ringworklaw01_Names.j1] at H
          by_cases c4 : x11_1 = true
          · subst c4
            have H1 : (if 0 ≤ x3_1 then (if x3_1 < (l0.length : Int) then (if ((rdOf ByteArray.empty l0 x3_1).size : Int) > 100 then (some false) else (ringworklaw01_Names.l0 kj1 l0 (wrap64 (x3_1 + 1)))) else (none)) else (none)) = some r := by rw [if_pos rfl] at H; exact H
            clear H
            have H := H1
            clear H1
            by_cases c5 : 0 ≤ x3_1
            · rw [if_pos c5] at H
              have c5b0 : decide (0 ≤ x3_1) = true := decide_eq_true c5
              clear c5
              by_cases c6 : x3_1 < (l0.length : Int)
              · rw [if_pos c6] at H
                have c6b0 : decide (x3_1 < (l0.length : Int)) = true := decide_eq_true c6
                clear c6
                by_cases c7 : ((rdOf ByteArray.empty l0 x3_1).size : Int) > 100
                · rw [if_pos c7] at H
                  have c7b0 : decide (100 < ((rdOf ByteArray.empty l0 x3_1).size : Int)) = true := decide_eq_true c7
                  have c7b1 : decide (100 < (rdOf ByteArray.empty l0 x3_1).size) = true := decide_eq_true (by omega)
                  clear c7
                  obtain rfl := Option.some.inj H
                  have p140 : 0 ≤ (x3_1 : Int) := of_decide_eq_true (by first | (with_reducible assumption) | assumption)
                  have q140 : x3_1 < (l0.length : Int) := of_decide_eq_true (by first | (with_reducible assumption) | assumption)
                  obtain ⟨ad140, e140, hx140_0⟩ := Kd.at_string HR0.out x3_1 p140 q140
                  cases e140
                  replace p140 := eq_true p140
                  replace q140 := eq_true q140
                  go_wp2
                  go_ret
                  exact ⟨by first | rfl | (simp; done) | (simp [*]; done), by repeat (first | exact Drawn0.refl _ | apply Drawn0.step)⟩
                · rw [if_neg c7] at H
                  have c7b0 : decide (100 < ((rdOf ByteArray.empty l0 x3_1).size : Int)) = false := decide_eq_false c7
                  have c7b1 : decide (100 < (rdOf ByteArray.empty l0 x3_1).size) = false := decide_eq_false (by omega)
                  clear c7
                  have H' := Aside0.mk H
                  clear H
                  have p140 : 0 ≤ (x3_1 : Int) := of_decide_eq_true (by first | (with_reducible assumption) | assumption)
                  have q140 : x3_1 < (l0.length : Int) := of_decide_eq_true (by first | (with_reducible assumption) | assumption)
                  obtain ⟨ad140, e140, hx140_0⟩ := Kd.at_string HR0.out x3_1 p140 q140
                  cases e140
                  replace p140 := eq_true p140
                  replace q140 := eq_true q140
                  go_wp2
                  go_roundg kj1
                  case measure => have := HK1.out; have := HJ1.out; omega
                  case rel => exact ⟨(wrap64 (x3_1 + 1)), (by first | rfl | (simp; done) | (simp [*]; done)), H', ⟨by have := HK1.out; have := HJ1.out; omega⟩, by repeat (first | exact Drawn0.refl _ | apply Drawn0.step)⟩
              · rw [if_neg c6] at H
                exact absurd H (by simp)
            · rw [if_neg c5] at H
              exact absurd H (by simp)
          · replace c4 := Bool.eq_false_iff.mpr c4
            subst c4
            have H1 : (some (decide ((l0.length : Int) ≤ 20))) = some r := by rw [if_neg (show ¬ (false = true) by decide)] at H; exact H
            clear H
            have H := H1
            clear H1
            obtain rfl := Option.some.inj H
            go_wp2
            go_ret
            exact ⟨by first | rfl | (simp; done) | (simp [*]; done), by repeat (first | exact Drawn0.refl _ | apply Drawn0.step)⟩




/-! ### ringworkref01_Narrow: function 32 -/
mutual
def ringworkref01_Narrow.l0 : Nat → List (S32) → List ByteArray → List (S32) → Int → Option ((List (S32)) × Int)
  | 0, _, _, _, _ => none
  | k + 1, x0, x1, x6, x7 => if x7 < (x1.length : Int) then (if 0 ≤ x7 then ((ringworkref01_index.f k x0 (rdOf ByteArray.empty x1 x7)).bind fun t151 => (if t151 < 0 then (some (([] : List (S32)), 5)) else (if 0 ≤ t151 then (if t151 < (x0.length : Int) then (if x6.length < 2932031007402 then (ringworkref01_Narrow.l0 k x0 x1 (x6 ++ [(⟨(rd_T32 x0 t151).f0, (rd_T32 x0 t151).f1, (rd_T32 x0 t151).f2, (rd_T32 x0 t151).f3, (rd_T32 x0 t151).f4⟩ : S32)]) (wrap64 (x7 + 1))) else (none)) else (none)) else (none)))) else (none)) else (ringworkref01_Narrow.l1 k x6 0)
def ringworkref01_Narrow.l1 : Nat → List (S32) → Int → Option ((List (S32)) × Int)
  | 0, _, _ => none
  | k + 1, x6, x9 => if x9 < (x6.length : Int) then (if 0 ≤ x9 then ((ringworkref01_index.f k x6 ((rd_T32 x6 x9).f0)).bind fun t157 => (if t157 = x9 then (ringworkref01_Narrow.l1 k x6 (wrap64 (x9 + 1))) else (some (([] : List (S32)), 6)))) else (none)) else (if (x6.length : Int) = 0 then (some (([] : List (S32)), 11)) else (some (x6, 0)))
end
def ringworkref01_Narrow.f (k : Nat) (l0 : List (S32)) (l1 : List ByteArray) : Option ((List (S32)) × Int) := (ringworkref01_ValidItems.f k l0).bind fun t149 => (if t149 = true then (ringworkref01_Narrow.l0 k l0 l1 ([] : List (S32)) 0) else (some (([] : List (S32)), 1)))
theorem ringworkref01_Narrow.mono_l : ∀ k, (∀ y0 y1 y2 y3, LeO (ringworkref01_Narrow.l0 k y0 y1 y2 y3) (ringworkref01_Narrow.l0 (k + 1) y0 y1 y2 y3)) ∧ (∀ y0 y1, LeO (ringworkref01_Narrow.l1 k y0 y1) (ringworkref01_Narrow.l1 (k + 1) y0 y1))
  | 0 => ⟨fun _ _ _ _ r h => by simp [ringworkref01_Narrow.l0] at h, fun _ _ r h => by simp [ringworkref01_Narrow.l1] at h⟩
  | k + 1 => by
    obtain ⟨ih0, ih1⟩ := ringworkref01_Narrow.mono_l k
    refine ⟨?_, ?_⟩
    · intro y0 y1 y2 y3
      unfold ringworkref01_Narrow.l0
      repeat' first
      | (with_reducible exact ih0 _ _ _ _)
      | (with_reducible exact ih1 _ _)
      | (with_reducible exact ringworkref01_ValidItems.mono _ _)
      | (with_reducible exact ringworkref01_index.mono _ _ _)
      | (with_reducible exact LeO.refl _)
      | (with_reducible exact LeO.none _)
      | (with_reducible refine LeO.ite ?_ ?_)
      | (with_reducible refine LeO.bind ?_ (fun _ => ?_))
      | exact ih0 _ _ _ _
      | exact ih1 _ _
      | exact ringworkref01_ValidItems.mono _ _
      | exact ringworkref01_index.mono _ _ _
      | exact LeO.none _
      | refine LeO.ite ?_ ?_
      | refine LeO.bind ?_ (fun _ => ?_)
    · intro y0 y1
      unfold ringworkref01_Narrow.l1
      repeat' first
      | (with_reducible exact ih0 _ _ _ _)
      | (with_reducible exact ih1 _ _)
      | (with_reducible exact ringworkref01_ValidItems.mono _ _)
      | (with_reducible exact ringworkref01_index.mono _ _ _)
      | (with_reducible exact LeO.refl _)
      | (with_reducible exact LeO.none _)
      | (with_reducible refine LeO.ite ?_ ?_)
      | (with_reducible refine LeO.bind ?_ (fun _ => ?_))
      | exact ih0 _ _ _ _
      | exact ih1 _ _
      | exact ringworkref01_ValidItems.mono _ _
      | exact ringworkref01_index.mono _ _ _
      | exact LeO.none _
      | refine LeO.ite ?_ ?_
      | refine LeO.bind ?_ (fun _ => ?_)
theorem ringworkref01_Narrow.mono : ∀ a0 a1 k, LeO (ringworkref01_Narrow.f k a0 a1) (ringworkref01_Narrow.f (k + 1) a0 a1) := by
  intro a0 a1 k
  obtain ⟨ih0, ih1⟩ := ringworkref01_Narrow.mono_l k
  unfold ringworkref01_Narrow.f
  repeat' first
      | (with_reducible exact ih0 _ _ _ _)
      | (with_reducible exact ih1 _ _)
      | (with_reducible exact ringworkref01_ValidItems.mono _ _)
      | (with_reducible exact ringworkref01_index.mono _ _ _)
      | (with_reducible exact LeO.refl _)
      | (with_reducible exact LeO.none _)
      | (with_reducible refine LeO.ite ?_ ?_)
      | (with_reducible refine LeO.bind ?_ (fun _ => ?_))
      | exact ih0 _ _ _ _
      | exact ih1 _ _
      | exact ringworkref01_ValidItems.mono _ _
      | exact ringworkref01_index.mono _ _ _
      | exact LeO.none _
      | refine LeO.ite ?_ ?_
      | refine LeO.bind ?_ (fun _ => ?_)
/-! ### ringworklaw01_SameItems: function 33 -/
def ringworklaw01_SameItems.l0 : Nat → List (S32) → List (S32) → Int → Option (Bool)
  | 0, _, _, _ => none
  | k + 1, x0, x1, x5 => if x5 < (x0.length : Int) then (if 0 ≤ x5 then (if x5 < (x1.length : Int) then (if (!((((rd_T32 x0 x5).f0).toList) == (((rd_T32 x1 x5).f0).toList)) || (!(((rd_T32 x0 x5).f1) == ((rd_T32 x1 x5).f1)) || (!(((rd_T32 x0 x5).f2) == ((rd_T32 x1 x5).f2)) || (!(((rd_T32 x0 x5).f3) == ((rd_T32 x1 x5).f3)) || (!(((rd_T32 x0 x5).f4) == ((rd_T32 x1 x5).f4))))))) = true then (some false) else (ringworklaw01_SameItems.l0 k x0 x1 (wrap64 (x5 + 1)))) else (none)) else (none)) else (some true)
def ringworklaw01_SameItems.f (k : Nat) (l0 : List (S32)) (l1 : List (S32)) : Option (Bool) := if (l0.length : Int) = (l1.length : Int) then (ringworklaw01_SameItems.l0 k l0 l1 0) else (some false)
theorem ringworklaw01_SameItems.mono_l : ∀ k, (∀ y0 y1 y2, LeO (ringworklaw01_SameItems.l0 k y0 y1 y2) (ringworklaw01_SameItems.l0 (k + 1) y0 y1 y2))
  | 0 => fun _ _ _ r h => by simp [ringworklaw01_SameItems.l0] at h
  | k + 1 => by
    have ih0 := ringworklaw01_SameItems.mono_l k
    · intro y0 y1 y2
      unfold ringworklaw01_SameItems.l0
      repeat' first
      | (with_reducible exact ih0 _ _ _)
      | (with_reducible exact LeO.refl _)
      | (with_reducible exact LeO.none _)
      | (with_reducible refine LeO.ite ?_ ?_)
      | (with_reducible refine LeO.bind ?_ (fun _ => ?_))
      | exact ih0 _ _ _
      | exact LeO.none _
      | refine LeO.ite ?_ ?_
      | refine LeO.bind ?_ (fun _ => ?_)
theorem ringworklaw01_SameItems.mono : ∀ a0 a1 k, LeO (ringworklaw01_SameItems.f k a0 a1) (ringworklaw01_SameItems.f (k + 1) a0 a1) := by
  intro a0 a1 k
  have ih0 := ringworklaw01_SameItems.mono_l k
  unfold ringworklaw01_SameItems.f
  repeat' first
      | (with_reducible exact ih0 _ _ _)
      | (with_reducible exact LeO.refl _)
      | (with_reducible exact LeO.none _)
      | (with_reducible refine LeO.ite ?_ ?_)
      | (with_reducible refine LeO.bind ?_ (fun _ => ?_))
      | exact ih0 _ _ _
      | exact LeO.none _
      | refine LeO.ite ?_ ?_
      | refine LeO.bind ?_ (fun _ => ?_)
/-! ### ringworkref01_Rename: function 36 -/
mutual
def ringworkref01_Rename.l0 : Nat → List ByteArray → List (S32) → Int → Option ((List (S32)) × Int)
  | 0, _, _, _ => none
  | k + 1, x1, x6, x7 => if x7 < (x1.length : Int) then (if 0 ≤ x7 then ((ringworkref01_Name.f k (rdOf ByteArray.empty x1 x7)).bind fun t168 => (if t168 = true then (if x7 < (x6.length : Int) then (ringworkref01_Rename.l0 k x1 (x6.set (x7 : Int).toNat (⟨rdOf ByteArray.empty x1 x7, (rd_T32 x6 x7).f1, (rd_T32 x6 x7).f2, (rd_T32 x6 x7).f3, (rd_T32 x6 x7).f4⟩ : S32)) (wrap64 (x7 + 1))) else (none)) else (some (([] : List (S32)), 1)))) else (none)) else (ringworkref01_Rename.l1 k x6 0)
def ringworkref01_Rename.l1 : Nat → List (S32) → Int → Option ((List (S32)) × Int)
  | 0, _, _ => none
  | k + 1, x6, x8 => if x8 < (x6.length : Int) then (if 0 ≤ x8 then ((ringworkref01_index.f k x6 ((rd_T32 x6 x8).f0)).bind fun t172 => (if t172 = x8 then (ringworkref01_Rename.l1 k x6 (wrap64 (x8 + 1))) else (some (([] : List (S32)), 6)))) else (none)) else (some (x6, 0))
end
def ringworkref01_Rename.f (k : Nat) (l0 : List (S32)) (l1 : List ByteArray) : Option ((List (S32)) × Int) := (ringworkref01_ValidItems.f k l0).bind fun t160 => (if t160 = true then (if (l1.length : Int) = (l0.length : Int) then ((some (([] : List (S32)) : List (S32))).bind fun y161 => (if y161.length + l0.length < 2932031007402 then (ringworkref01_Rename.l0 k l1 (y161 ++ l0) 0) else (none))) else (some (([] : List (S32)), 11))) else (some (([] : List (S32)), 1)))
theorem ringworkref01_Rename.mono_l : ∀ k, (∀ y0 y1 y2, LeO (ringworkref01_Rename.l0 k y0 y1 y2) (ringworkref01_Rename.l0 (k + 1) y0 y1 y2)) ∧ (∀ y0 y1, LeO (ringworkref01_Rename.l1 k y0 y1) (ringworkref01_Rename.l1 (k + 1) y0 y1))
  | 0 => ⟨fun _ _ _ r h => by simp [ringworkref01_Rename.l0] at h, fun _ _ r h => by simp [ringworkref01_Rename.l1] at h⟩
  | k + 1 => by
    obtain ⟨ih0, ih1⟩ := ringworkref01_Rename.mono_l k
    refine ⟨?_, ?_⟩
    · intro y0 y1 y2
      unfold ringworkref01_Rename.l0
      repeat' first
      | (with_reducible exact ih0 _ _ _)
      | (with_reducible exact ih1 _ _)
      | (with_reducible exact ringworkref01_Name.mono _ _)
      | (with_reducible exact ringworkref01_ValidItems.mono _ _)
      | (with_reducible exact ringworkref01_index.mono _ _ _)
      | (with_reducible exact LeO.refl _)
      | (with_reducible exact LeO.none _)
      | (with_reducible refine LeO.ite ?_ ?_)
      | (with_reducible refine LeO.bind ?_ (fun _ => ?_))
      | exact ih0 _ _ _
      | exact ih1 _ _
      | exact ringworkref01_Name.mono _ _
      | exact ringworkref01_ValidItems.mono _ _
      | exact ringworkref01_index.mono _ _ _
      | exact LeO.none _
      | refine LeO.ite ?_ ?_
      | refine LeO.bind ?_ (fun _ => ?_)
    · intro y0 y1
      unfold ringworkref01_Rename.l1
      repeat' first
      | (with_reducible exact ih0 _ _ _)
      | (with_reducible exact ih1 _ _)
      | (with_reducible exact ringworkref01_Name.mono _ _)
      | (with_reducible exact ringworkref01_ValidItems.mono _ _)
      | (with_reducible exact ringworkref01_index.mono _ _ _)
      | (with_reducible exact LeO.refl _)
      | (with_reducible exact LeO.none _)
      | (with_reducible refine LeO.ite ?_ ?_)
      | (with_reducible refine LeO.bind ?_ (fun _ => ?_))
      | exact ih0 _ _ _
      | exact ih1 _ _
      | exact ringworkref01_Name.mono _ _
      | exact ringworkref01_ValidItems.mono _ _
      | exact ringworkref01_index.mono _ _ _
      | exact LeO.none _
      | refine LeO.ite ?_ ?_
      | refine LeO.bind ?_ (fun _ => ?_)
theorem ringworkref01_Rename.mono : ∀ a0 a1 k, LeO (ringworkref01_Rename.f k a0 a1) (ringworkref01_Rename.f (k + 1) a0 a1) := by
  intro a0 a1 k
  obtain ⟨ih0, ih1⟩ := ringworkref01_Rename.mono_l k
  unfold ringworkref01_Rename.f
  repeat' first
      | (with_reducible exact ih0 _ _ _)
      | (with_reducible exact ih1 _ _)
      | (with_reducible exact ringworkref01_Name.mono _ _)
      | (with_reducible exact ringworkref01_ValidItems.mono _ _)
      | (with_reducible exact ringworkref01_index.mono _ _ _)
      | (with_reducible exact LeO.refl _)
      | (with_reducible exact LeO.none _)
      | (with_reducible refine LeO.ite ?_ ?_)
      | (with_reducible refine LeO.bind ?_ (fun _ => ?_))
      | exact ih0 _ _ _
      | exact ih1 _ _
      | exact ringworkref01_Name.mono _ _
      | exact ringworkref01_ValidItems.mono _ _
      | exact ringworkref01_index.mono _ _ _
      | exact LeO.none _
      | refine LeO.ite ?_ ?_
      | refine LeO.bind ?_ (fun _ => ?_)
end Go.Proofs.YtibgjfeifpanhaaDoor.PItemValid

set_option linter.unusedVariables false
set_option linter.unusedSimpArgs false
namespace Go.Proofs.YtibgjfeifpanhaaDoor.B
open Go.RowKit Go.Proofs.YtibgjfeifpanhaaDoorW.PrintWords PItemValid

/-- No name has come before. -/
def apartL : List (List UInt8) → List S32 → Bool
  | _, [] => true
  | S, x :: r => !decide (nmI x ∈ S) && apartL (S ++ [nmI x]) r
theorem seenL_apart : ∀ (l : List S32) (S : List (List UInt8)), seenL S l = (l.all okI && apartL S l)
  | [], S => rfl
  | x :: r, S => by
    rw [seenL, apartL, seenL_apart r, List.all_cons]
    cases okI x <;> cases r.all okI <;> cases decide (nmI x ∈ S) <;> simp
theorem apartL_iff : ∀ (l : List S32) (S : List (List UInt8)), apartL S l = true ↔ (l.map nmI).Nodup ∧ ∀ x ∈ l, nmI x ∉ S
  | [], S => by simp [apartL]
  | x :: r, S => by
    rw [apartL, Bool.and_eq_true, apartL_iff r, List.map_cons, List.nodup_cons]
    constructor
    · rintro ⟨h1, h2, h3⟩
      have h1' : nmI x ∉ S := by simpa using h1
      refine ⟨⟨fun h => ?_, h2⟩, fun y hy => ?_⟩
      · obtain ⟨y, hy, e⟩ := List.mem_map.1 h
        exact h3 y hy (by rw [e]; simp)
      · rcases List.mem_cons.1 hy with rfl | hy
        · exact h1'
        · exact fun h => h3 y hy (List.mem_append_left _ h)
    · rintro ⟨⟨h1, h2⟩, h3⟩
      refine ⟨by simpa using h3 x (List.mem_cons_self ..), h2, fun y hy h => ?_⟩
      rcases List.mem_append.1 h with h | h
      · exact h3 y (List.mem_cons_of_mem _ hy) h
      · have e : nmI y = nmI x := by simpa using h
        exact h1 (e ▸ List.mem_map_of_mem hy)
theorem valid_all {l : List S32} (h : validF l = true) : (l.length ≤ 8 ∧ 1 ≤ l.length) ∧ l.all okI = true ∧ (l.map nmI).Nodup := by
  unfold validF at h
  simp only [Bool.and_eq_true, decide_eq_true_eq, seenL_apart, apartL_iff] at h
  exact ⟨⟨by omega, by omega⟩, h.2.1, h.2.2.1⟩
theorem rdOf_get (l : List ByteArray) (i : Nat) (h : i < l.length) : rdOf ByteArray.empty l (i : Int) = l[i] := by
  simp [rdOf, List.getD_eq_getElem?_getD, List.getElem?_eq_getElem h]
theorem names_end (l : List ByteArray) (i k : Nat) (h : 20 ≤ i ∨ l.length ≤ i) : ringworklaw01_Names.l0 (k + 2) l (i : Int) = some (decide ((l.length : Int) ≤ 20)) := by
  unfold ringworklaw01_Names.l0
  by_cases h1 : i < l.length
  · rw [if_pos (by omega), show decide ((i : Int) < 20) = false from decide_eq_false (by omega)]
    unfold ringworklaw01_Names.j1
    rw [if_neg (by simp)]
  · rw [if_neg (by omega)]
    unfold ringworklaw01_Names.j1
    rw [if_neg (by simp)]
theorem names_loop (l : List ByteArray) (n : Nat) : ∀ (i k : Nat), 20 - i ≤ n → i ≤ 20 → 2 * n + 3 ≤ k → ∃ r, ringworklaw01_Names.l0 k l (i : Int) = some r ∧ (r = true → l.length ≤ 20) := by
  induction n with
  | zero =>
    intro i k hn hi hk
    obtain ⟨k', rfl⟩ : ∃ k', k = k' + 2 := ⟨k - 2, by omega⟩
    exact ⟨_, names_end l i k' (.inl (by omega)), fun h => by have := of_decide_eq_true h; omega⟩
  | succ n IH =>
    intro i k hn hi hk
    obtain ⟨k', rfl⟩ : ∃ k', k = k' + 2 := ⟨k - 2, by omega⟩
    by_cases h0 : 20 ≤ i ∨ l.length ≤ i
    · exact ⟨_, names_end l i k' h0, fun h => by have := of_decide_eq_true h; omega⟩
    · unfold ringworklaw01_Names.l0
      rw [if_pos (by omega), show decide ((i : Int) < 20) = true from decide_eq_true (by omega)]
      unfold ringworklaw01_Names.j1
      rw [if_pos rfl, if_pos (by omega), if_pos (by omega)]
      by_cases h1 : ((rdOf ByteArray.empty l (i : Int)).size : Int) > 100
      · rw [if_pos h1]
        exact ⟨false, rfl, fun h => by cases h⟩
      · rw [if_neg h1, w64 (by omega) (by omega)]
        have := IH (i + 1) k' (by omega) (by omega) (by omega)
        simpa using this
end Go.Proofs.YtibgjfeifpanhaaDoor.B
