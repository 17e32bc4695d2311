/- Nth of package array and of the reference. -/
import Derived.Test.YtjpobhdgfdeenaaProg
import Derived.Below
import Derived.Deep.Draws
import Derived.Deep.AppendLies
import Derived.Maps.AppendAt
import Derived.Maps.OwnSet
import Derived.OwnWalk
import Derived.Laws.BytesArg
import Derived.Laws.MakeOwn
import Derived.Laws.OwnMore
import Derived.Deep.OwnRows
import Derived.Tactics
import Derived.Laws.Slices
import Derived.WalkKit
import Derived.KernelRfl
import Derived.RowKit3
import Derived.Deep.LoopGhost
import Derived.Deep.QuietTactic
import Derived.BigQuiet
import Derived.WideLaws
import Derived.Deep.DeepCutAuto
import Derived.Deep.CutBlock
import Derived.Deep.RegionHeld3
import Derived.Laws.Rows
import Derived.ArgAppend
import Derived.Laws.IdiomCopy
import Derived.OrdersHeld
import Derived.Laws.BitsLemmas
import Derived.Outline
import Derived.WalkSpells
import Derived.Lib.Hide
import Derived.RowKit
import Derived.Deep.DeepMust
import Derived.Test.YtjpobhdgfdeenaaA25
set_option linter.unusedVariables false
set_option linter.unusedSimpArgs false
namespace Go.Proofs.Ytjpobhdgfdeenaa.A
open Go.RowKit Go.Proofs.YtjpobhdgfdeenaaW.PrintWords Go.Maps

def nthL (L : List Int) (n : Int) : Int × Int :=
  if n = 0 then (0, 7) else if n < -(L.length : Int) ∨ (L.length : Int) < n then (0, 8) else if n < 0 then (L.getD ((L.length : Int) + n).toNat 0, 0) else (L.getD (n - 1).toNat 0, 0)
def nthF (b : Int) (l : List (List Int)) (n : Int) : Int × Int := if validB b l = true then nthL l.flatten n else (0, 1)
theorem nthL_zero {L : List Int} {n : Int} (h : n = 0) : nthL L n = (0, 7) := by unfold nthL; rw [if_pos h]
theorem nthL_out {L : List Int} {n : Int} (h : n ≠ 0) (h1 : n < -(L.length : Int) ∨ (L.length : Int) < n) : nthL L n = (0, 8) := by unfold nthL; rw [if_neg h, if_pos h1]
theorem nthL_neg {L : List Int} {n : Int} (h : n < 0) (h1 : -(L.length : Int) ≤ n) : nthL L n = (L.getD ((L.length : Int) + n).toNat 0, 0) := by unfold nthL; rw [if_neg (by omega), if_neg (by omega), if_pos h]
theorem nthL_pos {L : List Int} {n : Int} (h : 0 < n) (h1 : n ≤ (L.length : Int)) : nthL L n = (L.getD (n - 1).toNat 0, 0) := by unfold nthL; rw [if_neg (by omega), if_neg (by omega), if_neg (by omega)]
theorem C_at {w : World} {A : Option Addr} {L : List Int} (h : Kd.C (Kd.int .i64) w A L.length L) (i : Int) (h0 : 0 ≤ i) (h1 : i < L.length) : ∃ ad x, A = some ad ∧ Aside0 (x = L.getD i.toNat 0) ∧ w.cell? (ad.add i.toNat) = some (.int .i64 x) := by
  obtain ⟨ad, x, hA, hd, hc⟩ := C_int h i.toNat (by omega)
  refine ⟨ad, x, hA, ⟨?_⟩, hc⟩
  have hi : i.toNat < L.length := by omega
  rw [List.drop_eq_getElem_cons hi] at hd
  injection hd with hd _
  rw [List.getD_eq_getElem?_getD, List.getElem?_eq_getElem hi, Option.getD_some, hd]
theorem C_at2 {w : World} {A : Option Addr} {L : List Int} (h : Kd.C (Kd.int .i64) w A L.length L) (i : Nat) (h1 : i < L.length) : ∃ ad x, A = some ad ∧ Aside0 (x = L.getD i 0) ∧ w.cell? (ad.add i) = some (.int .i64 x) := by
  obtain ⟨ad, x, hA, hx, hc⟩ := C_at h (i : Int) (by omega) (by omega)
  exact ⟨ad, x, hA, ⟨by simpa using hx.out⟩, by simpa using hc⟩
theorem keys_is {b : Int} {l : List (List Int)} {L : List Int} (A : Option Addr) (c : Nat) (w : World) (hs : l.flatten.length ≤ 1000000) (hL : l.flatten = L) (hr : Kd.C (Kd.slice 3 (Kd.int .i64)) w A l.length l) :
    Calls Try.prog 46 #[.slice A l.length c] w fun e w' => ∃ A' c', e = .returned (.slice A' L.length c') ∧ Kd.C (Kd.int .i64) w' A' L.length L ∧ Below w.heap.size w w' := by
  subst hL
  refine (listed_calls A c l w hr hs).mono ?_
  rintro e w' ⟨v, rfl, ho, hb⟩
  obtain ⟨A', c', rfl, _, hC⟩ := OI_reads ho
  exact ⟨A', c', rfl, hC, hb⟩
set_option maxHeartbeats 1000000 in
theorem Nth_calls (b n : Int) (A : Option Addr) (c : Nat) (l : List (List Int)) (w : World) (hr : Kd.C (Kd.slice 3 (Kd.int .i64)) w A l.length l) :
    Calls Try.prog 24 #[.int .i64 b, .slice A l.length c, .int .i64 n] w fun e w' => e = .returned (.tuple #[.int .i64 (nthF b l n).1, .int .i64 (nthF b l n).2]) ∧ Below w.heap.size w w' := by
  have HR := Aside0.mk hr
  clear hr
  cases hv : validB b l with
  | false =>
    have : nthF b l n = (0, 1) := by unfold nthF; rw [if_neg (by rw [hv]; simp)]
    rw [this]
    have hk : keysF b l = [] := by unfold keysF; rw [if_neg (by rw [hv]; simp)]
    have HK := fun W h => Aside0.mk (rkeys_is hv (E := 1) rfl hk A c W h)
    have HV := Aside0.mk hv
    clear hv this hk
    go_enter Try.func24, Try.ntmps24
    go_wp2_with (go_at_call 15; go_must (refine (valid_is HV.out _ _ _ HR.out).mono ?_; rintro e w1 ⟨rfl, hb⟩))
    go_ret2
    exact ⟨rfl, hb⟩
  | true =>
    have hn : nthF b l n = nthL l.flatten n := by unfold nthF; rw [if_pos hv]
    rw [hn]
    have hfew := valid_few hv
    have hk : keysF b l = l.flatten := by unfold keysF; rw [if_pos hv]
    have HK := fun W h => Aside0.mk (rkeys_is hv (E := 0) rfl hk A c W h)
    have HLI := fun W h => Aside0.mk (keys_is (b := b) (l := l) A c W (by omega) rfl h)
    have HV := Aside0.mk hv
    clear hv hn hk
    generalize l.flatten = L at HK HLI hfew ⊢
    have hneg : IntKind.i64.wrap (-(L.length : Int)) = -(L.length : Int) := by rw [IntKind.wrap_i64]; omega
    by_cases h0 : n = 0
    · have HZ := Aside0.mk (nthL_zero (L := L) h0)
      subst h0
      go_enter Try.func24, Try.ntmps24
      go_wp2_with (first | (go_at_call 15; go_must (refine (valid_is HV.out _ _ _ HR.out).mono ?_; rintro e w1 ⟨rfl, hb⟩)) | (go_at_call 46; go_must (refine (HLI _ (Kd.C_below HR.out hb)).out.mono ?_; rintro e w2 ⟨AK, cK, rfl, hCK, hb2⟩; have HCK := Aside0.mk hCK; have hbK := hb.trans (hb2.mono hb.size); clear hCK hb2; skip)))
      go_ret2
      exact ⟨ret2w HZ.out, hbK⟩
    · have hne : (n == 0) = false := by simpa using h0
      by_cases h1 : n < -(L.length : Int)
      · have HZ := Aside0.mk (nthL_out h0 (.inl h1))
        have h2 : ¬ (0 < n) := by omega
        have h3 : n < 0 := by omega
        have h4 : ¬ (-(L.length : Int) ≤ n) := by omega
        clear h0
        go_enter Try.func24, Try.ntmps24
        go_wp2_with (first | (go_at_call 15; go_must (refine (valid_is HV.out _ _ _ HR.out).mono ?_; rintro e w1 ⟨rfl, hb⟩)) | (go_at_call 46; go_must (refine (HLI _ (Kd.C_below HR.out hb)).out.mono ?_; rintro e w2 ⟨AK, cK, rfl, hCK, hb2⟩; have HCK := Aside0.mk hCK; have hbK := hb.trans (hb2.mono hb.size); clear hCK hb2; skip)))
        go_ret2
        exact ⟨ret2w HZ.out, hbK⟩
      · by_cases h2 : (L.length : Int) < n
        · have HZ := Aside0.mk (nthL_out h0 (.inr h2))
          have h3 : 0 < n := by omega
          have h4 : ¬ (n < 0) := by omega
          have h5 : ¬ (n ≤ (L.length : Int)) := by omega
          clear h0
          go_enter Try.func24, Try.ntmps24
          go_wp2_with (first | (go_at_call 15; go_must (refine (valid_is HV.out _ _ _ HR.out).mono ?_; rintro e w1 ⟨rfl, hb⟩)) | (go_at_call 46; go_must (refine (HLI _ (Kd.C_below HR.out hb)).out.mono ?_; rintro e w2 ⟨AK, cK, rfl, hCK, hb2⟩; have HCK := Aside0.mk hCK; have hbK := hb.trans (hb2.mono hb.size); clear hCK hb2; skip)))
          go_ret2
          exact ⟨ret2w HZ.out, hbK⟩
        · by_cases h3 : n < 0
          · have HZ := Aside0.mk (nthL_neg (L := L) h3 (by omega))
            have h4 : ¬ (0 < n) := by omega
            have h5 : -(L.length : Int) ≤ n := by omega
            have hw : IntKind.i64.wrap ((L.length : Int) + n) = (L.length : Int) + n := by rw [IntKind.wrap_i64]; omega
            have hi0 : 0 ≤ (L.length : Int) + n := by omega
            have hi1 : (L.length : Int) + n < (L.length : Int) := by omega
            clear h0
            go_enter Try.func24, Try.ntmps24
            go_wp2_with (first | (go_at_call 15; go_must (refine (valid_is HV.out _ _ _ HR.out).mono ?_; rintro e w1 ⟨rfl, hb⟩)) | (go_at_call 46; go_must (refine (HLI _ (Kd.C_below HR.out hb)).out.mono ?_; rintro e w2 ⟨AK, cK, rfl, hCK, hb2⟩; have HCK := Aside0.mk hCK; have hbK := hb.trans (hb2.mono hb.size); clear hCK hb2; obtain ⟨adK, xK, rfl, HXK, hcK⟩ := C_at HCK.out ((L.length : Int) + n) hi0 hi1; skip)))
            go_ret2
            exact ⟨ret2w (by rw [HZ.out, HXK.out]), hbK⟩
          · obtain ⟨M, rfl⟩ : ∃ M : Nat, n = (M : Int) + 1 := ⟨(n - 1).toNat, by omega⟩
            have h4 : 0 < (M : Int) + 1 := by omega
            have HZ : Aside0 (nthL L ((M : Int) + 1) = (L.getD M 0, 0)) := ⟨by rw [nthL_pos h4 (by omega)]; simp⟩
            have h5 : (M : Int) + 1 ≤ (L.length : Int) := by omega
            have hw : IntKind.i64.wrap (M : Int) = M := by rw [IntKind.wrap_i64]; omega
            have hi0 : (0 : Int) ≤ (M : Int) := by omega
            have hi1 : (M : Int) < (L.length : Int) := by omega
            have hi2 : M < L.length := by omega
            clear h0
            go_enter Try.func24, Try.ntmps24
            go_wp2_with (first | (go_at_call 15; go_must (refine (valid_is HV.out _ _ _ HR.out).mono ?_; rintro e w1 ⟨rfl, hb⟩)) | (go_at_call 46; go_must (refine (HLI _ (Kd.C_below HR.out hb)).out.mono ?_; rintro e w2 ⟨AK, cK, rfl, hCK, hb2⟩; have HCK := Aside0.mk hCK; have hbK := hb.trans (hb2.mono hb.size); clear hCK hb2; obtain ⟨adK, xK, rfl, HXK, hcK⟩ := C_at2 HCK.out M hi2; skip)))
            go_ret2
            exact ⟨ret2w (by rw [HZ.out, HXK.out]), hbK⟩
set_option maxHeartbeats 1000000 in
theorem rNth_calls (b n : Int) (A : Option Addr) (c : Nat) (l : List (List Int)) (w : World) (hr : Kd.C (Kd.slice 3 (Kd.int .i64)) w A l.length l) :
    Calls Try.prog 25 #[.int .i64 b, .slice A l.length c, .int .i64 n] w fun e w' => e = .returned (.tuple #[.int .i64 (nthF b l n).1, .int .i64 (nthF b l n).2]) ∧ Below w.heap.size w w' := by
  have HR := Aside0.mk hr
  clear hr
  cases hv : validB b l with
  | false =>
    have : nthF b l n = (0, 1) := by unfold nthF; rw [if_neg (by rw [hv]; simp)]
    rw [this]
    have hk : keysF b l = [] := by unfold keysF; rw [if_neg (by rw [hv]; simp)]
    have HK := fun W h => Aside0.mk (rkeys_is hv (E := 1) rfl hk A c W h)
    have HV := Aside0.mk hv
    clear hv this hk
    go_enter Try.func25, Try.ntmps25
    go_wp2_with (go_at_call 20; go_must (refine (HK _ HR.out).out.mono ?_; rintro e w1 ⟨A', c', rfl, HC, hb⟩))
    go_ret2
    exact ⟨rfl, hb⟩
  | true =>
    have hn : nthF b l n = nthL l.flatten n := by unfold nthF; rw [if_pos hv]
    rw [hn]
    have hfew := valid_few hv
    have hk : keysF b l = l.flatten := by unfold keysF; rw [if_pos hv]
    have HK := fun W h => Aside0.mk (rkeys_is hv (E := 0) rfl hk A c W h)
    have HLI := fun W h => Aside0.mk (keys_is (b := b) (l := l) A c W (by omega) rfl h)
    have HV := Aside0.mk hv
    clear hv hn hk
    generalize l.flatten = L at HK HLI hfew ⊢
    have hneg : IntKind.i64.wrap (-(L.length : Int)) = -(L.length : Int) := by rw [IntKind.wrap_i64]; omega
    by_cases h0 : n = 0
    · have HZ := Aside0.mk (nthL_zero (L := L) h0)
      subst h0
      go_enter Try.func25, Try.ntmps25
      go_wp2_with (go_at_call 20; go_must (refine (HK _ HR.out).out.mono ?_; rintro e w1 ⟨AK, cK, rfl, HCK, hbK⟩; skip))
      go_ret2
      exact ⟨ret2w HZ.out, hbK⟩
    · have hne : (n == 0) = false := by simpa using h0
      by_cases h1 : n < -(L.length : Int)
      · have HZ := Aside0.mk (nthL_out h0 (.inl h1))
        have h2 : ¬ (0 < n) := by omega
        have h3 : n < 0 := by omega
        have h4 : ¬ (-(L.length : Int) ≤ n) := by omega
        clear h0
        go_enter Try.func25, Try.ntmps25
        go_wp2_with (go_at_call 20; go_must (refine (HK _ HR.out).out.mono ?_; rintro e w1 ⟨AK, cK, rfl, HCK, hbK⟩; skip))
        go_ret2
        exact ⟨ret2w HZ.out, hbK⟩
      · by_cases h2 : (L.length : Int) < n
        · have HZ := Aside0.mk (nthL_out h0 (.inr h2))
          have h3 : 0 < n := by omega
          have h4 : ¬ (n < 0) := by omega
          have h5 : ¬ (n ≤ (L.length : Int)) := by omega
          clear h0
          go_enter Try.func25, Try.ntmps25
          go_wp2_with (go_at_call 20; go_must (refine (HK _ HR.out).out.mono ?_; rintro e w1 ⟨AK, cK, rfl, HCK, hbK⟩; skip))
          go_ret2
          exact ⟨ret2w HZ.out, hbK⟩
        · by_cases h3 : n < 0
          · have HZ := Aside0.mk (nthL_neg (L := L) h3 (by omega))
            have h4 : ¬ (0 < n) := by omega
            have h5 : -(L.length : Int) ≤ n := by omega
            have hw : IntKind.i64.wrap ((L.length : Int) + n) = (L.length : Int) + n := by rw [IntKind.wrap_i64]; omega
            have hi0 : 0 ≤ (L.length : Int) + n := by omega
            have hi1 : (L.length : Int) + n < (L.length : Int) := by omega
            clear h0
            go_enter Try.func25, Try.ntmps25
            go_wp2_with (go_at_call 20; go_must (refine (HK _ HR.out).out.mono ?_; rintro e w1 ⟨AK, cK, rfl, HCK, hbK⟩; obtain ⟨adK, xK, rfl, HXK, hcK⟩ := C_at HCK.out ((L.length : Int) + n) hi0 hi1; skip))
            go_ret2
            exact ⟨ret2w (by rw [HZ.out, HXK.out]), hbK⟩
          · obtain ⟨M, rfl⟩ : ∃ M : Nat, n = (M : Int) + 1 := ⟨(n - 1).toNat, by omega⟩
            have h4 : 0 < (M : Int) + 1 := by omega
            have HZ : Aside0 (nthL L ((M : Int) + 1) = (L.getD M 0, 0)) := ⟨by rw [nthL_pos h4 (by omega)]; simp⟩
            have h5 : (M : Int) + 1 ≤ (L.length : Int) := by omega
            have hw : IntKind.i64.wrap (M : Int) = M := by rw [IntKind.wrap_i64]; omega
            have hi0 : (0 : Int) ≤ (M : Int) := by omega
            have hi1 : (M : Int) < (L.length : Int) := by omega
            have hi2 : M < L.length := by omega
            clear h0
            go_enter Try.func25, Try.ntmps25
            go_wp2_with (go_at_call 20; go_must (refine (HK _ HR.out).out.mono ?_; rintro e w1 ⟨AK, cK, rfl, HCK, hbK⟩; obtain ⟨adK, xK, rfl, HXK, hcK⟩ := C_at2 HCK.out M hi2; skip))
            go_ret2
            exact ⟨ret2w (by rw [HZ.out, HXK.out]), hbK⟩
end Go.Proofs.Ytjpobhdgfdeenaa.A
