/- The law ArrayMakes. -/
import Derived.Test.YtjpobhdgfdeenaaProg
import Derived.Below
import Derived.Deep.Draws
import Derived.Deep.AppendLies
import Derived.Maps.AppendAt
import Derived.Maps.OwnSet
import Derived.OwnWalk
import Derived.Laws.BytesArg
import Derived.Laws.MakeOwn
import Derived.Laws.OwnMore
import Derived.Deep.OwnRows
import Derived.Tactics
import Derived.Laws.Slices
import Derived.WalkKit
import Derived.KernelRfl
import Derived.RowKit3
import Derived.Deep.LoopGhost
import Derived.Deep.QuietTactic
import Derived.BigQuiet
import Derived.WideLaws
import Derived.Deep.DeepCutAuto
import Derived.Deep.CutBlock
import Derived.Deep.RegionHeld3
import Derived.Laws.Rows
import Derived.ArgAppend
import Derived.Laws.IdiomCopy
import Derived.OrdersHeld
import Derived.Laws.BitsLemmas
import Derived.Outline
import Derived.WalkSpells
import Derived.Lib.Hide
import Derived.RowKit
import Derived.Deep.DeepMust
import Derived.Test.YtjpobhdgfdeenaaL1
import Derived.Test.YtjpobhdgfdeenaaA22
set_option linter.unusedVariables false
set_option linter.unusedSimpArgs false
namespace Go.Proofs.Ytjpobhdgfdeenaa.A
open Go.RowKit Go.Proofs.YtjpobhdgfdeenaaW.PrintWords Go.Maps

theorem makeE_zero {b : Int} {l : List Int} (h : makeE b l = 0) : GoodL l ∧ roomB b = true ∧ l.length ≤ 500 := by
  unfold makeE at h
  split at h
  · rename_i h1
    split at h
    · exact ⟨h1.1, h1.2, by assumption⟩
    · cases h
  · cases h
theorem make_arr {b : Int} {l : List Int} (h : makeE b l = 0) : Arr b (makeA b l) ∧ (makeA b l).flatten = l := by
  obtain ⟨h1, h2, h3⟩ := makeE_zero h
  have hb : 2 ≤ b ∧ b ≤ 50 := of_decide_eq_true h2
  obtain ⟨h4, h5⟩ := makeN_inv hb.1 l l.length (Nat.le_refl _)
  rw [List.take_length] at h4
  rw [makeA_ok h]
  exact ⟨⟨hb, h5, by rw [h4]; exact h1.1, by rw [h4]; exact h1.2, by rw [h4]; exact h3⟩, h4⟩
set_option maxHeartbeats 2000000 in
theorem lawMakes_row (w : World) (b : Int) (_ : (Lit.int .i64 b).wf = true) (A : Option Addr) (c : Nat) (l : List Int) (hr : Kd.C (Kd.int .i64) w A l.length l) (_ : ∀ n ∈ l, (Lit.int .i64 n).wf = true) :
    Calls Try.prog 3 #[.int .i64 b, .slice A l.length c] w fun e w' => e = .returned (.bool true) ∧ Below w.heap.size w w' := by
  have HR := Aside0.mk hr
  have hm := (C_len hr).2
  by_cases h150 : 150 < l.length
  · have h151 : 150 < (l.length : Int) := by omega
    clear hr
    go_enter Try.func3, Try.ntmps3
    go_wp2_with (go_at_call 9; go_must (refine (awake_calls _).mono ?_; rintro e w2 ⟨rfl, hb2⟩))
    go_ret
    exact ⟨rfl, hb2⟩
  · have h151 : ¬ (150 < (l.length : Int)) := by omega
    have HM := Aside0.mk (Make_calls b A c l w hr (by omega))
    have HRM := fun W h => Aside0.mk (rMake_calls b A c l W h (by omega))
    clear hr
    by_cases hE : makeE b l = 0
    · obtain ⟨harr, hflat⟩ := make_arr hE
      have hv := (validB_iff b _).2 harr
      have hkf : keysF b (makeA b l) = l := by unfold keysF; rw [if_pos hv, hflat]
      rw [hE] at HM HRM
      generalize makeA b l = a at HM HRM hv hkf
      have HK := fun A1 c1 W h => Aside0.mk (Keys_calls b A1 c1 a W h)
      rw [hv, hkf] at HK
      have HV := Aside0.mk hv
      clear hv hkf hE harr hflat h150
      go_enter Try.func3, Try.ntmps3
      go_wp2_with (first | (go_at_call 10; go_must (refine HM.out.mono ?_; rintro e w1 ⟨v1, rfl, ⟨A1, c1, rfl, hc1, hC1⟩, hb1⟩; have HC1 := Aside0.mk hC1; clear hC1)) | (go_at_call 11; go_must (refine (HRM _ (Kd.C_below HR.out hb1)).out.mono ?_; rintro e w2 ⟨v2, rfl, ⟨A2, c2, rfl, hc2, hC2⟩, hb2'⟩; have HC2 := Aside0.mk hC2; have HC12 := Aside0.mk (Kd.C_below HC1.out hb2'); have hb2 := hb1.trans (hb2'.mono hb1.size); clear hC2 hb2')) | (go_at_call 12; go_must (refine (SameBlocks_calls _ _ _ _ _ _ _ HC12.out HC2.out).mono ?_; rintro e w3 ⟨rfl, ⟨m3, rfl⟩⟩; have HC13 := Aside0.mk (Kd.C_drewN HC12.out m3); have hb3 := pw_below_drewN hb2 m3)) | (go_at_call 13; go_must (refine (HK _ _ _ HC13.out).out.mono ?_; rintro e w4 ⟨v4, rfl, ho4, hb4'⟩; have hb4 := hb3.trans (hb4'.mono hb3.size); have HC14 := Aside0.mk (Kd.C_below HC13.out hb4'); obtain ⟨A4, c4, e4, _, hC4⟩ := OI_reads ho4; subst e4; have HC4 := Aside0.mk hC4; clear hC4 ho4 hb4')) | (go_at_call 14; go_must (refine (SameInts_calls _ _ _ _ _ _ _ HC4.out (Kd.C_below HR.out hb4)).mono ?_; rintro e w5 ⟨rfl, ⟨m5, rfl⟩⟩; have HC15 := Aside0.mk (Kd.C_drewN HC14.out m5); have hb5 := pw_below_drewN hb4 m5)) | (go_at_call 15; go_must (refine (valid_is HV.out _ _ _ HC15.out).mono ?_; rintro e w6 ⟨rfl, hb6'⟩; have hb6 := hb5.trans (hb6'.mono hb5.size); clear hb6')) | (go_at_call 9; go_must (refine (awake_calls _).mono ?_; rintro e w7 ⟨rfl, hb7⟩)))
      go_ret
      exact ⟨rfl, hb6.trans (hb7.mono hb6.size)⟩
    · have hE2 : ¬ (makeE b l = 0) := hE
      have hE3 : (makeE b l == 0) = false := by simpa using hE
      generalize makeE b l = E at HM HRM hE2 hE3
      generalize makeA b l = a at HM HRM
      clear hE h150 hE2
      go_enter Try.func3, Try.ntmps3
      go_wp2_with (first | (go_at_call 10; go_must (refine HM.out.mono ?_; rintro e w1 ⟨v1, rfl, ⟨A1, c1, rfl, hc1, hC1⟩, hb1⟩; have HC1 := Aside0.mk hC1; clear hC1)) | (go_at_call 11; go_must (refine (HRM _ (Kd.C_below HR.out hb1)).out.mono ?_; rintro e w2 ⟨v2, rfl, ⟨A2, c2, rfl, hc2, hC2⟩, hb2'⟩; have HC2 := Aside0.mk hC2; have HC12 := Aside0.mk (Kd.C_below HC1.out hb2'); have hb2 := hb1.trans (hb2'.mono hb1.size); clear hC2 hb2')) | (go_at_call 12; go_must (refine (SameBlocks_calls _ _ _ _ _ _ _ HC12.out HC2.out).mono ?_; rintro e w3 ⟨rfl, ⟨m3, rfl⟩⟩; have hb3 := pw_below_drewN hb2 m3)) | (go_at_call 9; go_must (refine (awake_calls _).mono ?_; rintro e w7 ⟨rfl, hb7⟩)))
      go_ret
      exact ⟨rfl, hb3.trans (hb7.mono hb3.size)⟩
end Go.Proofs.Ytjpobhdgfdeenaa.A
