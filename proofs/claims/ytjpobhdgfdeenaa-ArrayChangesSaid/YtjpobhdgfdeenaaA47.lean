/- Contracts of functions of package array: what they return, in whatever memory the arguments lie. -/
import Derived.Test.YtjpobhdgfdeenaaProg
import Derived.Below
import Derived.Deep.Draws
import Derived.Deep.AppendLies
import Derived.Maps.AppendAt
import Derived.Maps.OwnSet
import Derived.OwnWalk
import Derived.Laws.BytesArg
import Derived.Laws.MakeOwn
import Derived.Laws.OwnMore
import Derived.Deep.OwnRows
import Derived.Tactics
import Derived.Laws.Slices
import Derived.WalkKit
import Derived.KernelRfl
import Derived.RowKit3
import Derived.Deep.LoopGhost
import Derived.Deep.QuietTactic
import Derived.BigQuiet
import Derived.WideLaws
import Derived.Deep.DeepCutAuto
import Derived.Deep.CutBlock
import Derived.Deep.RegionHeld3
import Derived.Laws.Rows
import Derived.ArgAppend
import Derived.Laws.IdiomCopy
import Derived.OrdersHeld
import Derived.Laws.BitsLemmas
import Derived.Outline
import Derived.WalkSpells
import Derived.Lib.Hide
import Derived.RowKit
import Derived.Deep.DeepMust
import Derived.StillTailTactics
import Derived.Deep.DrawnRows
import Derived.BigQuiet
import Derived.Test.YtjpobhdgfdeenaaA46
import Derived.Test.YtjpobhdgfdeenaaA36
set_option linter.unusedVariables false
set_option linter.unusedSimpArgs false
namespace Go.Proofs.Ytjpobhdgfdeenaa.A
open Go.RowKit Go.Proofs.YtjpobhdgfdeenaaW.PrintWords Go.Maps

theorem apart_le (x y : List (List Int)) : apartF x y ≤ x.length := List.length_filter_le ..
theorem apart_in {x y : List (List Int)} {r : List Int} (h : r ∈ y) : apartF (x ++ [r]) y = apartF x y := by rw [apart_app]; simp [apartF, h]
theorem apart_out {x y : List (List Int)} {r : List Int} (h : r ∉ y) : apartF (x ++ [r]) y = apartF x y + 1 := by rw [apart_app]; simp [apartF, h]
set_option maxRecDepth 100000 in
set_option maxHeartbeats 2000000 in
theorem apart_calls (A : Option Addr) (c : Nat) (x : List (List Int)) (A' : Option Addr) (c' : Nat) (y : List (List Int)) (w : World) (hx : Kd.C (Kd.slice 3 (Kd.int .i64)) w A x.length x) (hy : Kd.C (Kd.slice 3 (Kd.int .i64)) w A' y.length y) :
    Calls Try.prog 35 #[.slice A x.length c, .slice A' y.length c'] w fun e w' => e = .returned (.int .i64 ((apartF x y : Nat) : Int)) ∧ ∃ m, w' = w.drewN m := by
  have HX := Aside0.mk hx
  have HY := Aside0.mk hy
  have hmx := (C_len hx).2
  have hmy := (C_len hy).2
  clear hx hy
  go_enter Try.func35, Try.ntmps35
  go_wp2
  go_loopg [5, 6] x.length (fun g v5 v6 wr => ∃ (i n : Nat), g = x.length - i ∧ i ≤ x.length ∧ n ≤ i ∧ v6 = .int .i64 i ∧ v5 = .int .i64 n ∧ Aside0 (n = apartF (x.take i) y) ∧ Drawn0 w wr)
  case atStart => exact ⟨0, 0, rfl, Nat.zero_le _, Nat.zero_le _, rfl, rfl, ⟨by simp [apartF]⟩, Drawn0.refl _⟩
  case round =>
    obtain ⟨i, n, hg, hi, hni, rfl, rfl, HN, hdr0⟩ := hrel
    have HG := Aside0.mk hg
    clear hg
    by_cases hlt : i < x.length
    · obtain ⟨ad, A1, c1, r, hA, hdx, hcx, hrl, hrC⟩ := C_row HX.out i hlt
      subst hA
      have HCX := Aside0.mk hcx
      have HD := Aside0.mk hdx
      have HRC := Aside0.mk hrC
      clear hdx hrC hcx
      go_wp2
      obtain ⟨wo, rfl⟩ : ∃ wo : World, wo = wr := ⟨_, rfl⟩
      go_loopg [7, 8] y.length (fun g v7 v8 wr => ∃ (k : Nat), g = y.length - k ∧ k ≤ y.length ∧ v7 = .bool (decide (r ∈ y.take k)) ∧ v8 = .int .i64 k ∧ Drawn0 w wr)
      case atStart => exact ⟨0, rfl, Nat.zero_le _, by simp, rfl, hdr0⟩
      case round =>
        obtain ⟨k, hgk, hk, rfl, rfl, hdr⟩ := hrel
        have HGK := Aside0.mk hgk
        clear hgk
        have hbw := hdr.below
        have hcx := pw_cell_below hbw HCX.out
        by_cases hkl : k < y.length
        · obtain ⟨ad2, A2, c2, r2, hA2, hdx2, hcx2, hrl2, hrC2⟩ := C_row HY.out k hkl
          subst hA2
          replace hcx2 := pw_cell_below hbw hcx2
          have htk := take_drop_snoc hdx2
          have HRC2 := Aside0.mk hrC2
          cases hd : decide (r ∈ y.take k) with
          | true =>
            have hd2 : decide (r ∈ y.take (k + 1)) = true := decide_eq_true (by rw [htk]; simp [of_decide_eq_true hd])
            have HD2 := Aside0.mk hd2
            clear hd hd2 hdx2 htk hrC2
            go_wp2
            go_quiet (fail)
            go_wp2
            go_roundg (y.length - (k + 1))
            case measure => have := HGK.out; omega
            case rel => exact ⟨k + 1, rfl, by omega, by rw [HD2.out], by go_num, hdr.step _⟩
          | false =>
            cases hq : decide (r = r2) with
            | true =>
              have hd2 : decide (r ∈ y.take (k + 1)) = true := decide_eq_true (by rw [htk]; simp [of_decide_eq_true hq])
              have HD2 := Aside0.mk hd2
              have HQ := Aside0.mk hq
              clear hd hd2 hdx2 htk hrC2 hq
              go_wp2
              go_quiet ((go_at_call 14; exact Calls.quiet_of (same_is HQ.out _ _ _ _ _ (Kd.C_below HRC.out (pw_below_drewN hbw _)) (Kd.C_below HRC2.out (pw_below_drewN hbw _)))))
              go_wp2
              go_roundg (y.length - (k + 1))
              case measure => have := HGK.out; omega
              case rel => exact ⟨k + 1, rfl, by omega, by rw [HD2.out], by go_num, hdr.step _⟩
            | false =>
              have hd2 : decide (r ∈ y.take (k + 1)) = false := decide_eq_false (by rw [htk]; simp [of_decide_eq_false hd, of_decide_eq_false hq])
              have HD2 := Aside0.mk hd2
              have HQ := Aside0.mk hq
              clear hd hd2 hdx2 htk hrC2 hq
              go_wp2
              go_quiet ((go_at_call 14; exact Calls.quiet_of (same_is HQ.out _ _ _ _ _ (Kd.C_below HRC.out (pw_below_drewN hbw _)) (Kd.C_below HRC2.out (pw_below_drewN hbw _)))))
              go_wp2
              go_roundg (y.length - (k + 1))
              case measure => have := HGK.out; omega
              case rel => exact ⟨k + 1, rfl, by omega, by rw [HD2.out], by go_num, hdr.step _⟩
        · have hxk : y.take k = y := List.take_of_length_le (by omega)
          rw [hxk]
          clear hxk
          cases hd : decide (r ∈ y) with
          | true =>
            have HQ := Aside0.mk (of_decide_eq_true hd)
            clear hd
            go_wp2
            go_roundg (x.length - (i + 1))
            case measure => have := HG.out; omega
            case rel => exact ⟨i + 1, n, rfl, by omega, by omega, by go_num, rfl, ⟨by rw [take_drop_snoc HD.out, apart_in HQ.out]; exact HN.out⟩, hdr⟩
          | false =>
            have HQ := Aside0.mk (of_decide_eq_false hd)
            clear hd
            go_wp2
            go_roundg (x.length - (i + 1))
            case measure => have := HG.out; omega
            case rel => exact ⟨i + 1, n + 1, rfl, by omega, by omega, by go_num, by go_num, ⟨by rw [take_drop_snoc HD.out, apart_out HQ.out, ← HN.out]⟩, hdr⟩
    · have hn : n = apartF x y := by have := HN.out; rwa [List.take_of_length_le (by omega)] at this
      subst hn
      go_wp2
      go_ret
      exact ⟨rfl, hdr0.out⟩
end Go.Proofs.Ytjpobhdgfdeenaa.A
