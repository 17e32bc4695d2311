/- Contracts of functions of package array: what they return, in whatever memory the arguments lie. -/
import Derived.Test.YtjpobhdgfdeenaaProg
import Derived.Below
import Derived.Deep.Draws
import Derived.Deep.AppendLies
import Derived.Maps.AppendAt
import Derived.Maps.OwnSet
import Derived.OwnWalk
import Derived.Laws.BytesArg
import Derived.Laws.MakeOwn
import Derived.Laws.OwnMore
import Derived.Deep.OwnRows
import Derived.Tactics
import Derived.Laws.Slices
import Derived.WalkKit
import Derived.KernelRfl
import Derived.RowKit3
import Derived.Deep.LoopGhost
import Derived.Deep.QuietTactic
import Derived.BigQuiet
import Derived.WideLaws
import Derived.Deep.DeepCutAuto
import Derived.Deep.CutBlock
import Derived.Deep.RegionHeld3
import Derived.Laws.Rows
import Derived.ArgAppend
import Derived.Laws.IdiomCopy
import Derived.OrdersHeld
import Derived.Laws.BitsLemmas
import Derived.Outline
import Derived.WalkSpells
import Derived.Lib.Hide
import Derived.RowKit
import Derived.Deep.DeepMust
import Derived.StillTailTactics
import Derived.Deep.DrawnRows
import Derived.Test.YtjpobhdgfdeenaaA35
set_option linter.unusedVariables false
set_option linter.unusedSimpArgs false
namespace Go.Proofs.Ytjpobhdgfdeenaa.A
open Go.RowKit Go.Proofs.YtjpobhdgfdeenaaW.PrintWords Go.Maps

theorem same_is {xs ys : List Int} {r : Bool} (h : decide (xs = ys) = r) (A : Option Addr) (c : Nat) (A' : Option Addr) (c' : Nat) (w : World) (hx : Kd.C (Kd.int .i64) w A xs.length xs) (hy : Kd.C (Kd.int .i64) w A' ys.length ys) :
    Calls Try.prog 14 #[.slice A xs.length c, .slice A' ys.length c'] w fun e w' => e = .returned (.bool r) ∧ ∃ m, w' = w.drewN m := by
  subst h
  exact SameInts_calls A c xs A' c' ys w hx hy
set_option maxRecDepth 100000 in
set_option maxHeartbeats 2000000 in
theorem rChanged_calls (b : Int) (A : Option Addr) (c : Nat) (x : List (List Int)) (A' : Option Addr) (c' : Nat) (y : List (List Int)) (w : World) (hx : Kd.C (Kd.slice 3 (Kd.int .i64)) w A x.length x) (hy : Kd.C (Kd.slice 3 (Kd.int .i64)) w A' y.length y) :
    Calls Try.prog 31 #[.int .i64 b, .slice A x.length c, .slice A' y.length c'] w fun e w' => ∃ v, e = .returned (.tuple #[v, .int .i64 (changedF b x y).2]) ∧ RI w' v (changedF b x y).1 ∧ Below w.heap.size w w' := by
  have HX := Aside0.mk hx
  have HY := Aside0.mk hy
  have hmx := (C_len hx).2
  have hmy := (C_len hy).2
  clear hx hy
  cases hv : validB b x with
  | false =>
    have HF : Aside0 (changedF b x y = ([], 1)) := ⟨by unfold changedF; rw [if_neg (by rw [hv]; simp)]⟩
    have HV := Aside0.mk hv
    clear hv
    go_enter Try.func31, Try.ntmps31
    go_wp2_with (first | (go_at_call 19; (with_reducible refine (rvalid_is HV.out _ _ _ HX.out).mono ?_); go_must (rintro e w1 ⟨rfl, hb⟩)))
    go_ret2
    exact ⟨_, ret_pairI HF.out, by rw [HF.out]; exact RI_nil _, hb⟩
  | true =>
    cases hv' : validB b y with
    | false =>
      have HF : Aside0 (changedF b x y = ([], 1)) := ⟨by unfold changedF; rw [if_neg (by rw [hv']; simp)]⟩
      have HV := Aside0.mk hv
      have HV' := Aside0.mk hv'
      clear hv hv'
      go_enter Try.func31, Try.ntmps31
      go_wp2_with (first | (go_at_call 19; (with_reducible refine (rvalid_is HV.out _ _ _ HX.out).mono ?_); go_must (rintro e w1 ⟨rfl, hb⟩)) | (go_at_call 19; (with_reducible refine (rvalid_is HV'.out _ _ _ (Kd.C_below HY.out hb)).mono ?_); go_must (rintro e w2 ⟨rfl, hb2'⟩; have hb2 := hb.trans (hb2'.mono hb.size))))
      go_ret2
      exact ⟨_, ret_pairI HF.out, by rw [HF.out]; exact RI_nil _, hb2⟩
    | true =>
      obtain ⟨_, _, _, hylen⟩ := valid_arr hv'
      have HF : Aside0 (changedF b x y = (chgFrom x 0 y, 0)) := ⟨by unfold changedF; rw [if_pos ⟨hv, hv'⟩]⟩
      have HV := Aside0.mk hv
      have HV' := Aside0.mk hv'
      clear hv hv'
      go_enter Try.func31, Try.ntmps31
      go_wp2_with (first | (go_at_call 19; (with_reducible refine (rvalid_is HV.out _ _ _ HX.out).mono ?_); go_must (rintro e w1 ⟨rfl, hb⟩)) | (go_at_call 19; (with_reducible refine (rvalid_is HV'.out _ _ _ (Kd.C_below HY.out hb)).mono ?_); go_must (rintro e w2 ⟨rfl, hb2'⟩; have hb2 := hb.trans (hb2'.mono hb.size))))
      go_loopg [8, 9] y.length (fun g v8 v9 wr => ∃ (i : Nat) (acc : List Int), g = y.length - i ∧ i ≤ y.length ∧ v9 = .int .i64 i ∧ Aside0 (chgFrom x 0 y = acc ++ chgFrom x i (y.drop i)) ∧ Aside0 (OI wr w.heap.size v8 acc) ∧ Below w.heap.size w wr)
      case atStart => exact ⟨0, [], rfl, Nat.zero_le _, rfl, ⟨rfl⟩, ⟨Kd.R_nil _ _ _ _ _⟩, hb2⟩
      case round =>
        obtain ⟨i, acc, hg, hi, rfl, HT, HO, hbel⟩ := hrel
        have HG := Aside0.mk hg
        clear hg
        by_cases hlt : i < y.length
        · obtain ⟨ad, A1, c1, r, hA, hdx, hcx, hrl, hrC⟩ := C_row HY.out i hlt
          subst hA
          have HCX := Aside0.mk hcx
          have HD := Aside0.mk hdx
          have hacc : acc.length ≤ 500 := by
            have h1 := chg_len x y 0
            rw [HT.out, List.length_append] at h1
            omega
          have HRC := Aside0.mk hrC
          clear hdx hrC hcx
          go_wp2
          obtain ⟨wo, rfl⟩ : ∃ wo : World, wo = wr := ⟨_, rfl⟩
          go_loopg [10, 11] x.length (fun g v10 v11 wr => ∃ (k : Nat), g = x.length - k ∧ k ≤ x.length ∧ v10 = .bool (decide (r ∈ x.take k)) ∧ v11 = .int .i64 k ∧ Drawn0 wo wr)
          case atStart => exact ⟨0, rfl, Nat.zero_le _, by simp, rfl, Drawn0.refl _⟩
          case round =>
            obtain ⟨k, hgk, hk, rfl, rfl, hdr⟩ := hrel
            have HGK := Aside0.mk hgk
            clear hgk
            have hbw : Below w.heap.size w wr := hbel.trans (hdr.below.mono hbel.size)
            have hcx := pw_cell_below hbw HCX.out
            by_cases hkl : k < x.length
            · obtain ⟨ad2, A2, c2, r2, hA2, hdx2, hcx2, hrl2, hrC2⟩ := C_row HX.out k hkl
              subst hA2
              replace hcx2 := pw_cell_below hbw hcx2
              have htk := take_drop_snoc hdx2
              have HRC2 := Aside0.mk hrC2
              cases hd : decide (r ∈ x.take k) with
              | true =>
                have hd2 : decide (r ∈ x.take (k + 1)) = true := decide_eq_true (by rw [htk]; simp [of_decide_eq_true hd])
                have HD2 := Aside0.mk hd2
                clear hd hd2 hdx2 htk hrC2
                go_wp2
                go_quiet (fail)
                go_wp2
                go_roundg (x.length - (k + 1))
                case measure => have := HGK.out; omega
                case rel => exact ⟨k + 1, rfl, by omega, by rw [HD2.out], by go_num, hdr.step _⟩
              | false =>
                cases hq : decide (r2 = r) with
                | true =>
                  have hd2 : decide (r ∈ x.take (k + 1)) = true := decide_eq_true (by rw [htk]; simp [of_decide_eq_true hq])
                  have HD2 := Aside0.mk hd2
                  have HQ := Aside0.mk hq
                  clear hd hd2 hdx2 htk hrC2 hq
                  go_wp2
                  go_quiet ((go_at_call 14; exact Calls.quiet_of (same_is HQ.out _ _ _ _ _ (Kd.C_below HRC2.out (pw_below_drewN hbw _)) (Kd.C_below HRC.out (pw_below_drewN hbw _)))))
                  go_wp2
                  go_roundg (x.length - (k + 1))
                  case measure => have := HGK.out; omega
                  case rel => exact ⟨k + 1, rfl, by omega, by rw [HD2.out], by go_num, hdr.step _⟩
                | false =>
                  have hd2 : decide (r ∈ x.take (k + 1)) = false := decide_eq_false (by rw [htk]; simp [of_decide_eq_false hd, Ne.symm (of_decide_eq_false hq)])
                  have HD2 := Aside0.mk hd2
                  have HQ := Aside0.mk hq
                  clear hd hd2 hdx2 htk hrC2 hq
                  go_wp2
                  go_quiet ((go_at_call 14; exact Calls.quiet_of (same_is HQ.out _ _ _ _ _ (Kd.C_below HRC2.out (pw_below_drewN hbw _)) (Kd.C_below HRC.out (pw_below_drewN hbw _)))))
                  go_wp2
                  go_roundg (x.length - (k + 1))
                  case measure => have := HGK.out; omega
                  case rel => exact ⟨k + 1, rfl, by omega, by rw [HD2.out], by go_num, hdr.step _⟩
            · have hxk : x.take k = x := List.take_of_length_le (by omega)
              have HO2 : Aside0 (OI wr w.heap.size u8 acc) := ⟨OI_below HO.out hdr.below⟩
              rw [hxk]
              clear hxk
              cases hd : decide (r ∈ x) with
              | true =>
                have HQ := Aside0.mk (of_decide_eq_true hd)
                clear hd
                go_wp2
                go_roundg (y.length - (i + 1))
                case measure => have := HG.out; omega
                case rel => exact ⟨i + 1, acc, rfl, by omega, by go_num, ⟨by rw [HT.out, HD.out, chgFrom, if_pos HQ.out]⟩, HO2, hbw⟩
              | false =>
                have HQ := Aside0.mk (of_decide_eq_false hd)
                clear hd
                go_wp2_with ((with_reducible refine at_b (b := .append) (xs := #[.tmp 48, .tmp 50]) rfl ?_); go_must (refine Kd.R_append (Kd.int .i64) (w0 := w) (W := wr) w.heap.size rfl (.tmp 48) (.tmp 50) 22 3 (.int .i64 0) 8 rfl Try.underlying22 infoA3 rfl (by decide) (by omega) u8 acc (i : Int) [.int .i64 (i : Int)] Tr (fun _ => False) rfl rfl rfl (fun _ h => h.elim) (fun _ _ => trivial) HO2.out hbw hbw.size ?bL ?_; (case bL => omega); intro v5 w5 ho5 hb5 hg5 hat5; have HO5 := Aside0.mk ho5; clear ho5 hg5 hat5))
                go_roundg (y.length - (i + 1))
                case measure => have := HG.out; omega
                case rel => exact ⟨i + 1, acc ++ [(i : Int)], rfl, by omega, by go_num, ⟨by rw [HT.out, HD.out, chgFrom, if_neg HQ.out, List.append_assoc]; rfl⟩, HO5, hb5⟩
        · go_wp2
          go_ret2
          refine ⟨_, ret_pairI HF.out, ?_, hbel⟩
          rw [HF.out]
          have h := HT.out
          rw [List.drop_eq_nil_of_le (by omega), chgFrom, List.append_nil] at h
          show RI wr _ (chgFrom x 0 y)
          rw [h]
          exact OI_ri HO.out
end Go.Proofs.Ytjpobhdgfdeenaa.A
