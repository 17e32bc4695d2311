/- The law ArrayWrong. -/
import Derived.Test.YtjpobhdgfdeenaaProg
import Derived.Below
import Derived.Deep.Draws
import Derived.Deep.AppendLies
import Derived.Maps.AppendAt
import Derived.Maps.OwnSet
import Derived.OwnWalk
import Derived.Laws.BytesArg
import Derived.Laws.MakeOwn
import Derived.Laws.OwnMore
import Derived.Deep.OwnRows
import Derived.Tactics
import Derived.Laws.Slices
import Derived.WalkKit
import Derived.KernelRfl
import Derived.RowKit3
import Derived.Deep.LoopGhost
import Derived.Deep.QuietTactic
import Derived.BigQuiet
import Derived.WideLaws
import Derived.Deep.DeepCutAuto
import Derived.Deep.CutBlock
import Derived.Deep.RegionHeld3
import Derived.Laws.Rows
import Derived.ArgAppend
import Derived.Laws.IdiomCopy
import Derived.OrdersHeld
import Derived.Laws.BitsLemmas
import Derived.Outline
import Derived.WalkSpells
import Derived.Lib.Hide
import Derived.RowKit
import Derived.Deep.DeepMust
import Derived.Test.YtjpobhdgfdeenaaL1
set_option linter.unusedVariables false
set_option linter.unusedSimpArgs false
namespace Go.Proofs.Ytjpobhdgfdeenaa.A
open Go.RowKit Go.Proofs.YtjpobhdgfdeenaaW.PrintWords Go.Maps

set_option maxRecDepth 100000 in
set_option maxHeartbeats 2000000 in
theorem lawWrong_calls (b : Int) (A : Option Addr) (c : Nat) (l : List (List Int)) (w : World) (hr : Kd.C (Kd.slice 3 (Kd.int .i64)) w A l.length l) :
    Calls Try.prog 4 #[.int .i64 b, .slice A l.length c] w fun e w' => e = .returned (.bool true) ∧ Below w.heap.size w w' := by
  have HL := fun W h => Aside0.mk (light_calls A c l W h)
  have HW := fun W h => Aside0.mk (wrong_calls b A c l W h)
  have HRW := fun W h => Aside0.mk (rWrong_calls b A c l W h)
  have HV := fun W h => Aside0.mk (Valid_calls b A c l W h)
  have HRV := fun W h => Aside0.mk (rValid_calls b A c l W h)
  have HK := fun W h => Aside0.mk (Keys_calls b A c l W h)
  have HRK := fun W h => Aside0.mk (rKeys_calls b A c l W h)
  have HC := fun W h => Aside0.mk (Count_calls b A c l W h)
  unfold validB at HRV HK HRK HC
  generalize ((wrongF b l).2.2 == 0) = r at HV HRV HK HRK HC
  generalize okE r = E at HK HRK HC
  generalize (wrongF b l).1 = F1 at HW HRW
  generalize (wrongF b l).2.1 = F2 at HW HRW
  generalize (wrongF b l).2.2 = F3 at HW HRW
  generalize keysF b l = L at HK HRK HC
  have HR := Aside0.mk hr
  clear hr
  cases hl : lightF l with
  | false =>
    rw [hl] at HL
    clear hl
    go_enter Try.func4, Try.ntmps4
    go_wp2_with (first | (go_at_call 16; go_must (refine (HL _ HR.out).out.mono ?_; rintro e w1 ⟨rfl, ⟨m, rfl⟩⟩)) | (go_at_call 9; go_must (refine (awake_calls _).mono ?_; rintro e w2 ⟨rfl, hb2⟩)))
    go_ret
    exact ⟨rfl, (pw_below_drewN (Below.refl _ _) m).trans hb2⟩
  | true =>
    rw [hl] at HL
    clear hl
    go_enter Try.func4, Try.ntmps4
    go_wp2_with (first | (go_at_call 16; go_must (refine (HL _ HR.out).out.mono ?_; rintro e w1 ⟨rfl, ⟨m, rfl⟩⟩; have hb1 := pw_below_drewN (Below.refl w.heap.size w) m)) | (go_at_call 17; go_must (refine (HW _ (Kd.C_below HR.out hb1)).out.mono ?_; rintro e w2 ⟨rfl, hb2'⟩; have hb2 := hb1.trans (hb2'.mono hb1.size); clear hb2')) | (go_at_call 18; go_must (refine (HRW _ (Kd.C_below HR.out hb2)).out.mono ?_; rintro e w3 ⟨rfl, hb3'⟩; have hb3 := hb2.trans (hb3'.mono hb2.size); clear hb3')) | (go_at_call 15; go_must (refine (HV _ (Kd.C_below HR.out hb3)).out.mono ?_; rintro e w4 ⟨rfl, hb4'⟩; have hb4 := hb3.trans (hb4'.mono hb3.size); clear hb4')) | (go_at_call 19; go_must (refine (HRV _ (Kd.C_below HR.out hb4)).out.mono ?_; rintro e w5 ⟨rfl, hb5'⟩; have hb5 := hb4.trans (hb5'.mono hb4.size); clear hb5')) | (go_at_call 13; go_must (refine (HK _ (Kd.C_below HR.out hb5)).out.mono ?_; rintro e w6 ⟨v6, rfl, ho6, hb6'⟩; have hb6 := hb5.trans (hb6'.mono hb5.size); clear hb6'; obtain ⟨A6, c6, e6, _, hC6⟩ := OI_reads ho6; subst e6; have HO6 := Aside0.mk hC6; clear hC6 ho6)) | (go_at_call 20; go_must (refine (HRK _ (Kd.C_below HR.out hb6)).out.mono ?_; rintro e w7 ⟨v7, rfl, ho7, hb7'⟩; have hb7 := hb6.trans (hb7'.mono hb6.size); obtain ⟨A7, c7, e7, _, hC7⟩ := OI_reads ho7; subst e7; have HO7 := Aside0.mk hC7; have HO67 := Aside0.mk (Kd.C_below HO6.out hb7'); clear hC7 ho7 hb7')) | (go_at_call 21; go_must (refine (HC _ (Kd.C_below HR.out hb7)).out.mono ?_; rintro e w8 ⟨rfl, hb8'⟩; have hb8 := hb7.trans (hb8'.mono hb7.size); have HO68 := Aside0.mk (Kd.C_below HO67.out hb8'); have HO78 := Aside0.mk (Kd.C_below HO7.out hb8'); clear hb8')) | (go_at_call 14; go_must (refine (SameInts_calls _ _ _ _ _ _ _ HO68.out HO78.out).mono ?_; rintro e w9 ⟨rfl, ⟨m9, rfl⟩⟩)) | (go_at_call 9; go_must (refine (awake_calls _).mono ?_; rintro e w10 ⟨rfl, hb10⟩)))
    go_ret
    exact ⟨by simp, (pw_below_drewN hb8 m9).trans (hb10.mono hb8.size)⟩
theorem lawWrong_row (w : World) (b : Int) (_ : (Lit.int .i64 b).wf = true) (A : Option Addr) (c : Nat) (l : List (List Int)) (hr : Kd.C (Kd.slice 3 (Kd.int .i64)) w A l.length l) (_ : ∀ r ∈ l, ∀ n ∈ r, (Lit.int .i64 n).wf = true) :
    Calls Try.prog 4 #[.int .i64 b, .slice A l.length c] w fun e w' => e = .returned (.bool true) ∧ Below w.heap.size w w' := lawWrong_calls b A c l w hr
end Go.Proofs.Ytjpobhdgfdeenaa.A
