/- Find and At of the reference; Nth of both. -/
import Derived.Test.YtjpobhdgfdeenaaProg
import Derived.Below
import Derived.Deep.Draws
import Derived.Deep.AppendLies
import Derived.Maps.AppendAt
import Derived.Maps.OwnSet
import Derived.OwnWalk
import Derived.Laws.BytesArg
import Derived.Laws.MakeOwn
import Derived.Laws.OwnMore
import Derived.Deep.OwnRows
import Derived.Tactics
import Derived.Laws.Slices
import Derived.WalkKit
import Derived.KernelRfl
import Derived.RowKit3
import Derived.Deep.LoopGhost
import Derived.Deep.QuietTactic
import Derived.BigQuiet
import Derived.WideLaws
import Derived.Deep.DeepCutAuto
import Derived.Deep.CutBlock
import Derived.Deep.RegionHeld3
import Derived.Laws.Rows
import Derived.ArgAppend
import Derived.Laws.IdiomCopy
import Derived.OrdersHeld
import Derived.Laws.BitsLemmas
import Derived.Outline
import Derived.WalkSpells
import Derived.Lib.Hide
import Derived.RowKit
import Derived.Deep.DeepMust
import Derived.Test.YtjpobhdgfdeenaaP4
set_option linter.unusedVariables false
set_option linter.unusedSimpArgs false
namespace Go.Proofs.Ytjpobhdgfdeenaa.A
open Go.RowKit Go.Proofs.YtjpobhdgfdeenaaW.PrintWords Go.Maps

theorem At_some' {l : List (List Int)} {m : Int} (hne : l ≠ []) (h0 : 0 ≤ m) (h1 : m < l.flatten.length) : ∃ j q, At l m j q := by
  obtain ⟨p, hp, he⟩ := posAll_all l 0 0 m h0 (by omega)
  obtain ⟨j, q, ha, _⟩ := At_of_pos hp
  exact ⟨j, q, he ▸ ha⟩
theorem rkey_is {k : Int} {r : Bool} (h : keyB k = r) (w : World) : Calls Try.prog 43 #[.int .i64 k] w fun e w' => e = .returned (.bool r) ∧ w = w' := by
  subst h
  exact Key_calls k w
theorem rFind_calls (b k : Int) (A : Option Addr) (c : Nat) (l : List (List Int)) (w : World) (hr : Kd.C (Kd.slice 3 (Kd.int .i64)) w A l.length l) :
    Calls Try.prog 23 #[.int .i64 b, .slice A l.length c, .int .i64 k] w fun e w' => e = .returned (.tuple #[.int .i64 (findF b l k).1, .int .i64 (findF b l k).2]) ∧ Below w.heap.size w w' := by
  have HR := Aside0.mk hr
  clear hr
  cases hv : validB b l with
  | false =>
    have : findF b l k = (0, 1) := by unfold findF; rw [if_neg (by rw [hv]; simp)]
    rw [this]
    have HV := Aside0.mk hv
    clear hv this
    go_enter Try.func23, Try.ntmps23
    go_wp2_with (go_at_call 19; go_must (refine (rvalid_is HV.out _ _ _ HR.out).mono ?_; rintro e w1 ⟨rfl, hb⟩))
    go_ret2
    exact ⟨rfl, hb⟩
  | true =>
    cases hk : keyB k with
    | false =>
      have : findF b l k = (0, 1) := by unfold findF; rw [if_neg (by rw [hk]; simp)]
      rw [this]
      have HV := Aside0.mk hv
      have HK := Aside0.mk hk
      clear hv hk this
      go_enter Try.func23, Try.ntmps23
      go_wp2_with (first | (go_at_call 19; go_must (refine (rvalid_is HV.out _ _ _ HR.out).mono ?_; rintro e w1 ⟨rfl, hb⟩)) | (go_at_call 43; go_must (refine (rkey_is HK.out _).mono ?_; rintro e w2 ⟨rfl, rfl⟩)))
      go_ret2
      exact ⟨rfl, hb⟩
    | true =>
      have HV := Aside0.mk hv
      have HK := Aside0.mk hk
      have hfew := valid_few hv
      have HFL := fun W h => Aside0.mk (flat_calls A c l W h (by omega))
      by_cases hi : idxF l.flatten k < 0
      · have : findF b l k = (0, 8) := by unfold findF; rw [if_pos ⟨hv, hk⟩, if_pos hi]
        rw [this]
        clear hv hk this
        generalize l.flatten = L at HFL hi hfew
        go_enter Try.func23, Try.ntmps23
        go_wp2_with (first | (go_at_call 19; go_must (refine (rvalid_is HV.out _ _ _ HR.out).mono ?_; rintro e w1 ⟨rfl, hb⟩)) | (go_at_call 43; go_must (refine (rkey_is HK.out _).mono ?_; rintro e w2 ⟨rfl, rfl⟩)) | (go_at_call 48; go_must (refine (HFL _ (Kd.C_below HR.out hb)).out.mono ?_; rintro e w3 ⟨v3, rfl, ho3, hb3⟩; obtain ⟨A3, c3, e3, _, hC3⟩ := OI_reads ho3; subst e3; have HC3 := Aside0.mk hC3; clear hC3 ho3)) | (go_at_call 44; go_must (refine (Index_calls _ _ _ _ _ HC3.out).mono ?_; rintro e w4 ⟨rfl, ⟨m4, rfl⟩⟩)))
        go_ret2
        exact ⟨rfl, pw_below_drewN (hb.trans (hb3.mono hb.size)) _⟩
      · have : findF b l k = (idxF l.flatten k, 0) := by unfold findF; rw [if_pos ⟨hv, hk⟩, if_neg hi]
        rw [this]
        clear hv hk this
        generalize l.flatten = L at HFL hi hfew ⊢
        go_enter Try.func23, Try.ntmps23
        go_wp2_with (first | (go_at_call 19; go_must (refine (rvalid_is HV.out _ _ _ HR.out).mono ?_; rintro e w1 ⟨rfl, hb⟩)) | (go_at_call 43; go_must (refine (rkey_is HK.out _).mono ?_; rintro e w2 ⟨rfl, rfl⟩)) | (go_at_call 48; go_must (refine (HFL _ (Kd.C_below HR.out hb)).out.mono ?_; rintro e w3 ⟨v3, rfl, ho3, hb3⟩; obtain ⟨A3, c3, e3, _, hC3⟩ := OI_reads ho3; subst e3; have HC3 := Aside0.mk hC3; clear hC3 ho3)) | (go_at_call 44; go_must (refine (Index_calls _ _ _ _ _ HC3.out).mono ?_; rintro e w4 ⟨rfl, ⟨m4, rfl⟩⟩)))
        go_ret2
        exact ⟨rfl, pw_below_drewN (hb.trans (hb3.mono hb.size)) _⟩
theorem rkeys_is {b : Int} {l : List (List Int)} {r : Bool} {E : Int} {L : List Int} (h : validB b l = r) (hE : okE r = E) (hL : keysF b l = L) (A : Option Addr) (c : Nat) (w : World) (hr : Kd.C (Kd.slice 3 (Kd.int .i64)) w A l.length l) :
    Calls Try.prog 20 #[.int .i64 b, .slice A l.length c] w fun e w' => ∃ A' c', e = .returned (.tuple #[.slice A' L.length c', .int .i64 E]) ∧ Aside0 (Kd.C (Kd.int .i64) w' A' L.length L) ∧ Below w.heap.size w w' := by
  subst h hE hL
  refine (rKeys_calls b A c l w hr).mono ?_
  rintro e w' ⟨v, rfl, ho, hb⟩
  obtain ⟨A', c', rfl, _, hC⟩ := OI_reads ho
  exact ⟨A', c', rfl, ⟨hC⟩, hb⟩
theorem rAt_calls (b m : Int) (A : Option Addr) (c : Nat) (l : List (List Int)) (w : World) (hr : Kd.C (Kd.slice 3 (Kd.int .i64)) w A l.length l) :
    Calls Try.prog 27 #[.int .i64 b, .slice A l.length c, .int .i64 m] w fun e w' => e = .returned (.tuple #[.int .i64 (atF b l m).1, .int .i64 (atF b l m).2.1, .int .i64 (atF b l m).2.2]) ∧ Below w.heap.size w w' := by
  have HR := Aside0.mk hr
  clear hr
  cases hv : validB b l with
  | false =>
    have : atF b l m = (0, 0, 1) := by unfold atF; rw [if_neg (by rw [hv]; simp)]
    rw [this]
    have hk : keysF b l = [] := by unfold keysF; rw [if_neg (by rw [hv]; simp)]
    have HK := fun W h => Aside0.mk (rkeys_is hv (E := 1) rfl hk A c W h)
    clear hv this hk
    go_enter Try.func27, Try.ntmps27
    go_wp2_with (go_at_call 20; go_must (refine (HK _ HR.out).out.mono ?_; rintro e w1 ⟨A', c', rfl, HC, hb⟩))
    go_ret3
    exact ⟨rfl, hb⟩
  | true =>
    have hk : keysF b l = l.flatten := by unfold keysF; rw [if_pos hv]
    have HK := fun W h => Aside0.mk (rkeys_is hv (E := 0) rfl hk A c W h)
    have hfew := valid_few hv
    by_cases h0 : m < 0
    · have : atF b l m = (0, 0, 7) := by unfold atF; rw [if_pos hv, if_pos (.inl h0)]
      rw [this]
      clear hv this hk
      generalize l.flatten = L at HK hfew
      go_enter Try.func27, Try.ntmps27
      go_wp2_with (go_at_call 20; go_must (refine (HK _ HR.out).out.mono ?_; rintro e w1 ⟨A', c', rfl, HC, hb⟩))
      go_ret3
      exact ⟨rfl, hb⟩
    · by_cases h1 : (l.flatten.length : Int) ≤ m
      · have : atF b l m = (0, 0, 7) := by unfold atF; rw [if_pos hv, if_pos (.inr h1)]
        rw [this]
        clear hv this hk
        generalize l.flatten = L at HK hfew h1
        go_enter Try.func27, Try.ntmps27
        go_wp2_with (go_at_call 20; go_must (refine (HK _ HR.out).out.mono ?_; rintro e w1 ⟨A', c', rfl, HC, hb⟩))
        go_ret3
        exact ⟨rfl, hb⟩
      · have hat : atF b l m = ((spotF l m).1, m - (spotF l m).2, 0) := by unfold atF; rw [if_pos hv, if_neg (by omega)]
        rw [hat]
        have hne : l ≠ [] := by rintro rfl; simp at h1; omega
        obtain ⟨j, q, ha⟩ := At_some' (m := m) hne (by omega) (by omega)
        have hs := spotF_at ha
        obtain ⟨row, hrw, hmq, _⟩ := ha
        have hfl := flat_len l j
        have HSP := fun W h => Aside0.mk (spot_calls A c l m W h (by omega))
        simp only [hs] at HSP ⊢
        clear hs
        generalize (l.take j).flatten.length = F at HSP hmq hfl ⊢
        have hw1 : IntKind.i64.wrap (m - (F : Int)) = m - F := by rw [IntKind.wrap_i64]; omega
        clear hv hat hk hmq
        generalize l.flatten = L at HK hfew h1 hfl
        go_enter Try.func27, Try.ntmps27
        go_wp2_with (first | (go_at_call 20; go_must (refine (HK _ HR.out).out.mono ?_; rintro e w1 ⟨A', c', rfl, HC, hb⟩)) | (go_at_call 50; go_must (refine (HSP _ (Kd.C_below HR.out hb)).out.mono ?_; rintro e w2 ⟨rfl, ⟨m2, rfl⟩⟩)))
        go_ret3
        exact ⟨rfl, pw_below_drewN hb _⟩
end Go.Proofs.Ytjpobhdgfdeenaa.A
