/- Contracts of functions of package item: what they return, in whatever memory the arguments lie. -/
import Derived.Test.YtibgjfeifpanhaaDoorProg
import Derived.Below
import Derived.Deep.Draws
import Derived.Deep.AppendLies
import Derived.Maps.AppendAt
import Derived.Maps.OwnSet
import Derived.OwnWalk
import Derived.Laws.BytesArg
import Derived.Laws.MakeOwn
import Derived.Laws.OwnMore
import Derived.Deep.OwnRows
import Derived.Tactics
import Derived.Laws.Slices
import Derived.WalkKit
import Derived.KernelRfl
import Derived.RowKit3
import Derived.Deep.LoopGhost
import Derived.Deep.QuietTactic
import Derived.BigQuiet
import Derived.WideLaws
import Derived.Deep.DeepCutAuto
import Derived.Deep.CutBlock
import Derived.Deep.RegionHeld3
import Derived.Laws.Rows
import Derived.ArgAppend
import Derived.Laws.IdiomCopy
import Derived.OrdersHeld
import Derived.Laws.BitsLemmas
import Derived.Outline
import Derived.WalkSpells
import Derived.Lib.Hide
import Derived.RowKit
import Derived.Deep.DeepMust
import Derived.Laws.EntriesVeiled
import Derived.Test.YtibgjfeifpanhaaDoorI1
set_option linter.unusedVariables false
set_option linter.unusedSimpArgs false
namespace Go.Proofs.YtibgjfeifpanhaaDoor.B
open Go.RowKit Go.Proofs.YtibgjfeifpanhaaDoorW.PrintWords Go.Maps PItemValid

/-- A value as the program holds it. -/
def vV (x : S29) : Value := .agg #[.int .i64 x.f0, .int .i64 x.f1, .string x.f2]
def okV1 (x : S29) : Bool := (x.f2.toList == ([] : List UInt8)) && (decide (-1000000000 ≤ x.f1) && decide (x.f1 ≤ 1000000000))
def okV2 (x : S29) : Bool := (x.f1 == 0) && decide ((x.f2.size : Int) ≤ 40)
def okV (x : S29) : Bool := if x.f0 = 1 then okV1 x else if x.f0 = 2 then okV2 x else false

theorem within_calls (a b c : Int) (w : World) : Calls Tryd.prog 54 #[.int .i64 a, .int .i64 b, .int .i64 c] w fun e w' => e = .returned (.bool (decide (b ≤ a) && decide (a ≤ c))) ∧ Drawn0 w w' := by
  refine item_within.calls a b c _ w ?_
  unfold item_within.f
  by_cases h : a ≥ b
  · rw [if_pos h, show decide (b ≤ a) = true from decide_eq_true h]; simp
  · rw [if_neg h, show decide (b ≤ a) = false from decide_eq_false h]; simp
theorem check1 (x : S29) (w : World) : Calls Tryd.prog 89 #[vV x] w fun e w' => e = .returned (.bool false) ∧ Below w.heap.size w w' := by
  unfold vV
  go_enter Tryd.func89, Tryd.ntmps89
  go_wp2
  go_ret
  exact ⟨rfl, below_alloc (Below.refl _ _) _⟩

theorem check2 (x : S29) (w : World) : Calls Tryd.prog 90 #[vV x] w fun e w' => e = .returned (.bool (okV1 x)) ∧ Below w.heap.size w w' := by
  unfold vV okV1
  cases h : (x.f2.toList == ([] : List UInt8)) with
  | false =>
    go_enter Tryd.func90, Tryd.ntmps90
    go_wp2
    go_ret
    exact ⟨rfl, below_alloc (Below.refl _ _) _⟩
  | true =>
    go_enter Tryd.func90, Tryd.ntmps90
    go_wp2_with (go_at_call 54; refine (within_calls _ _ _ _).mono ?_; rintro e w' ⟨rfl, hd⟩)
    go_ret
    exact ⟨rfl, (below_alloc (Below.refl _ _) _).trans (hd.below.mono (below_alloc (Below.refl _ _) _).size)⟩
theorem check3 (x : S29) (w : World) : Calls Tryd.prog 91 #[vV x] w fun e w' => e = .returned (.bool (okV2 x)) ∧ Below w.heap.size w w' := by
  unfold vV okV2
  cases h : (x.f1 == 0) with
  | false =>
    go_enter Tryd.func91, Tryd.ntmps91
    go_wp2
    go_ret
    exact ⟨rfl, below_alloc (Below.refl _ _) _⟩
  | true =>
    go_enter Tryd.func91, Tryd.ntmps91
    go_wp2
    go_ret
    exact ⟨by simp, below_alloc (Below.refl _ _) _⟩
theorem checks_calls (w : World) : Calls Tryd.prog 55 #[] w fun e w' => e = .returned (.agg #[.func (.func 89) #[] #[], .func (.func 90) #[] #[], .func (.func 91) #[] #[]]) ∧ Below w.heap.size w w' := by
  go_enter Tryd.func55, Tryd.ntmps55
  go_wp2
  (try simp only [Exit.inBlock, Exit.then])
  refine bodyPost_ret (v := .agg #[.func (.func 89) #[] #[], .func (.func 90) #[] #[], .func (.func 91) #[] #[]]) ?_ rfl ⟨rfl, ?_⟩
  · simp [results, Tryd.results55, go_sem]
  · exact below_alloc (Below.refl _ _) _

theorem check_ix (n : Int) (q : Nat) (hn : (n = 0 ∧ q = 89) ∨ (n = 1 ∧ q = 90) ∨ (n = 2 ∧ q = 91)) (w : World) : (Instr.index 65 (.agg #[Value.func (Fn.func 89) #[] #[], .func (.func 90) #[] #[], .func (.func 91) #[] #[]]) (.int .i64 n)).run Tryd.prog w = .ok (.func (.func q) #[] #[]) w := by
  rcases hn with ⟨rfl, rfl⟩ | ⟨rfl, rfl⟩ | ⟨rfl, rfl⟩ <;> simp [Instr.index, Tryd.underlying65, go_sem] <;> rfl
theorem within_is {a b c : Int} {r : Bool} (h : (decide (b ≤ a) && decide (a ≤ c)) = r) (w : World) : Calls Tryd.prog 54 #[.int .i64 a, .int .i64 b, .int .i64 c] w fun e w' => e = .returned (.bool r) ∧ ∃ m, w' = w.drewN m := by
  subst h
  exact (within_calls a b c w).mono fun e w' h => ⟨h.1, h.2.out⟩
theorem below_then {w w1 w2 : World} (h : Below w.heap.size w w1) (h2 : Below w1.heap.size w1 w2) : Below w.heap.size w w2 := h.trans (h2.mono h.size)
set_option maxRecDepth 100000 in
set_option maxHeartbeats 1000000 in
theorem ValidValue_calls (x : S29) (w : World) : Calls Tryd.prog 12 #[vV x] w fun e w' => e = .returned (.bool (okV x)) ∧ Below w.heap.size w w' := by
  by_cases h : 0 ≤ x.f0 ∧ x.f0 ≤ 2
  · have hd : (decide (0 ≤ x.f0) && decide (x.f0 ≤ 2)) = true := by simpa using h
    have HD := Aside0.mk hd
    have hc : ∃ q, ((x.f0 = 0 ∧ q = 89) ∨ (x.f0 = 1 ∧ q = 90) ∨ (x.f0 = 2 ∧ q = 91)) ∧ (q = 89 ∨ q = 90 ∨ q = 91) ∧ ∀ w, Calls Tryd.prog q #[vV x] w fun e w' => e = .returned (.bool (okV x)) ∧ Below w.heap.size w w' := by
      have hc : x.f0 = 0 ∨ x.f0 = 1 ∨ x.f0 = 2 := by omega
      rcases hc with h | h | h
      · refine ⟨89, .inl ⟨h, rfl⟩, .inl rfl, fun w => ?_⟩
        have e : okV x = false := by unfold okV; rw [if_neg (by omega), if_neg (by omega)]
        rw [e]; exact check1 x w
      · refine ⟨90, .inr (.inl ⟨h, rfl⟩), .inr (.inl rfl), fun w => ?_⟩
        have e : okV x = okV1 x := by unfold okV; rw [if_pos h]
        rw [e]; exact check2 x w
      · refine ⟨91, .inr (.inr ⟨h, rfl⟩), .inr (.inr rfl), fun w => ?_⟩
        have e : okV x = okV2 x := by unfold okV; rw [if_neg (by omega), if_pos h]
        rw [e]; exact check3 x w
    obtain ⟨q, hq, hq3, hC⟩ := hc
    have hix := check_ix x.f0 q hq
    have HC := Aside0.mk hC
    clear h hd hC hq
    unfold vV
    go_enter Tryd.func12, Tryd.ntmps12
    go_wp2
    have hb1 : Below w.heap.size w (w.alloc (.cells #[.int .i64 x.f0, .int .i64 x.f1, .string x.f2] 29)) := below_alloc (Below.refl _ _) _
    have c0 : (w.alloc (.cells #[.int .i64 x.f0, .int .i64 x.f1, .string x.f2] 29)).cell? ⟨w.heap.size, 0, none⟩ = some (.int .i64 x.f0) := by simp
    have c1 : (w.alloc (.cells #[.int .i64 x.f0, .int .i64 x.f1, .string x.f2] 29)).cell? ⟨w.heap.size, 1, none⟩ = some (.int .i64 x.f1) := by simp
    have c2 : (w.alloc (.cells #[.int .i64 x.f0, .int .i64 x.f1, .string x.f2] 29)).cell? ⟨w.heap.size, 2, none⟩ = some (.string x.f2) := by simp
    generalize w.alloc (.cells #[.int .i64 x.f0, .int .i64 x.f1, .string x.f2] 29) = w1 at hb1 c0 c1 c2 ⊢
    generalize w.heap.size = g at c0 c1 c2 ⊢
    have hr1 : Below w1.heap.size w1 w1 := Below.refl _ _
    rcases hq3 with rfl | rfl | rfl
    all_goals
      go_region_held3 (fun w' => w'.cell? ⟨g, 0, none⟩ = some (.int .i64 x.f0) ∧ w'.cell? ⟨g, 1, none⟩ = some (.int .i64 x.f1) ∧ w'.cell? ⟨g, 2, none⟩ = some (.string x.f2) ∧ Below w1.heap.size w1 w') ((refine (fun h => ⟨pw_cell_below h c0, pw_cell_below h c1, pw_cell_below h c2, h⟩ : Below w1.heap.size w1 _ → _) ?_; (repeat first | exact hr1 | exact hr4 | exact hr3 | exact hr2 | refine below_drew ?_ | refine below_alloc ?_ _))) (first | (go_at_call 54; go_must (refine (within_calls _ _ _ _).mono ?_; rw [HD.out]; rintro e w2 ⟨rfl, hd⟩; have hr2 := below_then (‹_ ∧ _ ∧ _ ∧ Below w1.heap.size w1 _›).2.2.2 hd.below; clear hd)) | (go_at_call 55; go_must (refine (checks_calls _).mono ?_; rintro e w3 ⟨rfl, hd⟩; have hr3 := below_then (‹_ ∧ _ ∧ _ ∧ Below w1.heap.size w1 _›).2.2.2 hd; clear hd)) | ((first | go_at_call 89 | go_at_call 90 | go_at_call 91); go_must (refine (HC.out _).mono ?_; rintro e w4 ⟨rfl, hd⟩; have hr4 := below_then (‹_ ∧ _ ∧ _ ∧ Below w1.heap.size w1 _›).2.2.2 hd; clear hd)))
    all_goals
      go_wp2
      go_ret
      exact ⟨rfl, below_then hb1 hr4⟩
  · have e : okV x = false := by unfold okV; rw [if_neg (by omega), if_neg (by omega)]
    have hd : (decide (0 ≤ x.f0) && decide (x.f0 ≤ 2)) = false := by simpa using h
    rw [e]
    have HD := Aside0.mk hd
    clear h hd e
    unfold vV
    go_enter Tryd.func12, Tryd.ntmps12
    go_wp2
    have hb1 : Below w.heap.size w (w.alloc (.cells #[.int .i64 x.f0, .int .i64 x.f1, .string x.f2] 29)) := below_alloc (Below.refl _ _) _
    have c0 : (w.alloc (.cells #[.int .i64 x.f0, .int .i64 x.f1, .string x.f2] 29)).cell? ⟨w.heap.size, 0, none⟩ = some (.int .i64 x.f0) := by simp
    generalize w.alloc (.cells #[.int .i64 x.f0, .int .i64 x.f1, .string x.f2] 29) = w1 at hb1 c0 ⊢
    generalize w.heap.size = g at c0 ⊢
    have hr1 : Below w1.heap.size w1 w1 := Below.refl _ _
    go_quiet ((go_at_call 54; exact Calls.quiet_of (within_is HD.out _)))
    go_wp2
    go_ret
    exact ⟨rfl, pw_below_drewN hb1 _⟩
theorem notValid_calls (x : S29) (w : World) : Calls Tryd.prog 59 #[vV x] w fun e w' => e = .returned (.bool (!okV x)) ∧ Below w.heap.size w w' := by
  have HC := Aside0.mk (fun w => ValidValue_calls x w)
  unfold vV at HC ⊢
  go_enter Tryd.func59, Tryd.ntmps59
  go_wp2_with (go_at_call 12; go_must (refine (HC.out _).mono ?_; rintro e w2 ⟨rfl, hd⟩))
  go_ret
  exact ⟨rfl, below_then (below_alloc (Below.refl _ _) _) hd⟩
end Go.Proofs.YtibgjfeifpanhaaDoor.B
