/- Contracts of functions of package array: what they return, in whatever memory the arguments lie. -/
import Derived.Test.YtjpobhdgfdeenaaProg
import Derived.Below
import Derived.Deep.Draws
import Derived.Deep.AppendLies
import Derived.Maps.AppendAt
import Derived.Maps.OwnSet
import Derived.OwnWalk
import Derived.Laws.BytesArg
import Derived.Laws.MakeOwn
import Derived.Laws.OwnMore
import Derived.Deep.OwnRows
import Derived.Tactics
import Derived.Laws.Slices
import Derived.WalkKit
import Derived.KernelRfl
import Derived.RowKit3
import Derived.Deep.LoopGhost
import Derived.Deep.QuietTactic
import Derived.BigQuiet
import Derived.WideLaws
import Derived.Deep.DeepCutAuto
import Derived.Deep.CutBlock
import Derived.Deep.RegionHeld3
import Derived.Laws.Rows
import Derived.ArgAppend
import Derived.Laws.IdiomCopy
import Derived.OrdersHeld
import Derived.Laws.BitsLemmas
import Derived.Outline
import Derived.WalkSpells
import Derived.Lib.Hide
import Derived.RowKit
import Derived.Deep.DeepMust
import Derived.Test.YtjpobhdgfdeenaaA33
namespace Go.Proofs.Ytjpobhdgfdeenaa.A
open Go.RowKit Go.Proofs.YtjpobhdgfdeenaaW.PrintWords Go.Maps

theorem remF_size {b m : Int} {l : List (List Int)} (h0 : 0 ≤ m) (h1 : m < l.flatten.length) (hl : Rows b l) : (remF b l m).1.flatten.length + 1 = l.flatten.length ∧ (remF b l m).1.length ≤ l.flatten.length := by
  have h2 := (remF_flat (b := b) h0 h1).1
  have h3 : (remF b l m).1.flatten.length + 1 = l.flatten.length := by rw [h2, List.length_eraseIdx_of_lt (by omega)]; omega
  have h4 := rows_len (remF_rows h0 h1 hl)
  exact ⟨h3, by omega⟩
theorem ret_trip {v : Value} {F : (List (List Int) × Int) × Int} {x : List (List Int)} {k n : Int} (h : F = ((x, k), n)) : Ending.returned (.tuple #[v, .int .i64 k, .int .i64 n]) = Ending.returned (.tuple #[v, .int .i64 F.1.2, .int .i64 F.2]) := by rw [h]
theorem ret_trip' {v : Value} {F : (List (List Int) × Int) × Int} {X : List (List Int) × Int} {n : Int} (h : F = (X, n)) : Ending.returned (.tuple #[v, .int .i64 X.2, .int .i64 n]) = Ending.returned (.tuple #[v, .int .i64 F.1.2, .int .i64 F.2]) := by rw [h]
set_option maxRecDepth 100000 in
set_option maxHeartbeats 2000000 in
theorem Take_calls (b m : Int) (A : Option Addr) (c : Nat) (l : List (List Int)) (w : World) (hr : Kd.C (Kd.slice 3 (Kd.int .i64)) w A l.length l) :
    Calls Try.prog 32 #[.int .i64 b, .slice A l.length c, .int .i64 m] w fun e w' => ∃ v, e = .returned (.tuple #[v, .int .i64 (takeF b l m).1.2, .int .i64 (takeF b l m).2]) ∧ RA w' v (takeF b l m).1.1 ∧ Below w.heap.size w w' := by
  have HR := Aside0.mk hr
  clear hr
  cases hv : validB b l with
  | false =>
    have HF : Aside0 (takeF b l m = (([], 0), 1)) := ⟨by unfold takeF; rw [if_neg (by rw [hv]; simp)]⟩
    have HV := Aside0.mk hv
    clear hv
    go_enter Try.func32, Try.ntmps32
    go_wp2_with (first | (go_at_call 15; go_must (refine (valid_is HV.out _ _ _ HR.out).mono ?_; rintro e w1 ⟨rfl, hb⟩)))
    go_ret3
    exact ⟨_, ret_trip HF.out, by rw [HF.out]; exact RA_nil _, hb⟩
  | true =>
    obtain ⟨hb2, hrows, hfew, hlen⟩ := valid_arr hv
    have HF : Aside0 (takeF b l m = if m < 0 ∨ (l.flatten.length : Int) ≤ m then (([], 0), 7) else (remF b l m, 0)) := ⟨by unfold takeF; rw [if_pos hv]⟩
    have HLI := fun W h => Aside0.mk (keys_is (b := b) (l := l) A c W (by omega) rfl h)
    have HOW := fun W h => Aside0.mk (owned_calls A c l W h (by omega) (fun x hx => ⟨(hrows x hx).1, by have := (hrows x hx).2; omega⟩))
    have HRM := fun hm => fun W base v h h1 => Aside0.mk (remove_calls b m base v l W h hb2 (by omega) (by omega) hm h1)
    have HV := Aside0.mk hv
    clear hv hrows hb2
    generalize hL : l.flatten = L at HLI hfew HF HRM
    clear hL
    by_cases h1 : m < 0
    · have HF' : Aside0 (takeF b l m = (([], 0), 7)) := ⟨by rw [HF.out, if_pos (.inl h1)]⟩
      clear HF HRM
      go_enter Try.func32, Try.ntmps32
      go_wp2_with (first | (go_at_call 15; go_must (refine (valid_is HV.out _ _ _ HR.out).mono ?_; rintro e w1 ⟨rfl, hb⟩)))
      go_ret3
      exact ⟨_, ret_trip HF'.out, by rw [HF'.out]; exact RA_nil _, hb⟩
    · by_cases h2 : (L.length : Int) ≤ m
      · have HF' : Aside0 (takeF b l m = (([], 0), 7)) := ⟨by rw [HF.out, if_pos (.inr h2)]⟩
        clear HF HRM
        go_enter Try.func32, Try.ntmps32
        go_wp2_with (first | (go_at_call 15; go_must (refine (valid_is HV.out _ _ _ HR.out).mono ?_; rintro e w1 ⟨rfl, hb⟩)) | (go_at_call 46; go_must (refine (HLI _ (Kd.C_below HR.out hb)).out.mono ?_; rintro e w2 ⟨AK, cK, rfl, hCK, hb2⟩; have HCK := Aside0.mk hCK; have hbK := hb.trans (hb2.mono hb.size); clear hCK hb2)))
        go_ret3
        exact ⟨_, ret_trip HF'.out, by rw [HF'.out]; exact RA_nil _, hbK⟩
      · have HF' : Aside0 (takeF b l m = (remF b l m, 0)) := ⟨by rw [HF.out, if_neg (by omega)]⟩
        have h3 : 0 ≤ m := by omega
        have h4 : m < L.length := by omega
        replace HRM := HRM ⟨h3, h4⟩
        clear HF
        go_enter Try.func32, Try.ntmps32
        go_wp2_with (first | (go_at_call 15; go_must (refine (valid_is HV.out _ _ _ HR.out).mono ?_; rintro e w1 ⟨rfl, hb⟩)) | (go_at_call 46; go_must (refine (HLI _ (Kd.C_below HR.out hb)).out.mono ?_; rintro e w2 ⟨AK, cK, rfl, hCK, hb2⟩; have HCK := Aside0.mk hCK; have hbK := hb.trans (hb2.mono hb.size); clear hCK hb2)) | (go_at_call 57; go_must (refine (HOW _ (Kd.C_below HR.out hbK)).out.mono ?_; rintro e w3 ⟨v3, rfl, ho3, hb3⟩; have HO3 := Aside0.mk ho3; have hbO := hbK.trans (hb3.mono hbK.size); have hs3 := hb3.size; clear ho3 hb3)) | (go_at_call 56; go_must (refine (HRM _ _ _ HO3.out hs3).out.mono ?_; rintro e w4 ⟨v4, rfl, ho4, hb4⟩; have HO4 := Aside0.mk ho4; have hbP := hbO.trans (hb4.mono hbK.size); have hs4 := Nat.le_trans hs3 hb4.size; clear ho4 hb4)))
        go_ret3
        exact ⟨_, ret_trip' HF'.out, by rw [HF'.out]; exact HO4.out.ra, hbP⟩
set_option maxRecDepth 100000 in
set_option maxHeartbeats 2000000 in
theorem Shift_calls (b f t : Int) (A : Option Addr) (c : Nat) (l : List (List Int)) (w : World) (hr : Kd.C (Kd.slice 3 (Kd.int .i64)) w A l.length l) :
    Calls Try.prog 37 #[.int .i64 b, .slice A l.length c, .int .i64 f, .int .i64 t] w fun e w' => ∃ v, e = .returned (.tuple #[v, .int .i64 (shiftF b l f t).2]) ∧ RA w' v (shiftF b l f t).1 ∧ Below w.heap.size w w' := by
  have HR := Aside0.mk hr
  clear hr
  cases hv : validB b l with
  | false =>
    have HF : Aside0 (shiftF b l f t = ([], 1)) := ⟨by unfold shiftF; rw [if_neg (by rw [hv]; simp)]⟩
    have HV := Aside0.mk hv
    clear hv
    go_enter Try.func37, Try.ntmps37
    go_wp2_with (first | (go_at_call 15; go_must (refine (valid_is HV.out _ _ _ HR.out).mono ?_; rintro e w1 ⟨rfl, hb⟩)))
    go_ret2
    exact ⟨_, ret_pair' HF.out, by rw [HF.out]; exact RA_nil _, hb⟩
  | true =>
    obtain ⟨hb2, hrows, hfew, hlen⟩ := valid_arr hv
    have HF : Aside0 (shiftF b l f t = if f < 0 ∨ (l.flatten.length : Int) ≤ f ∨ t < 0 ∨ (l.flatten.length : Int) ≤ t then ([], 7) else (putF b (remF b l f).1 t (remF b l f).2, 0)) := ⟨by unfold shiftF; rw [if_pos hv]⟩
    have HLI := fun W h => Aside0.mk (keys_is (b := b) (l := l) A c W (by omega) rfl h)
    have HOW := fun W h => Aside0.mk (owned_calls A c l W h (by omega) (fun x hx => ⟨(hrows x hx).1, by have := (hrows x hx).2; omega⟩))
    have HRM := fun hm => fun W base v h h1 => Aside0.mk (remove_calls b f base v l W h hb2 (by omega) (by omega) hm h1)
    have HSZ := fun h0 h1 => remF_size (b := b) (m := f) (l := l) h0 h1 hrows
    have HIN := fun h0 h1 h2 => fun W base v h h3 => Aside0.mk (insert_calls b t (remF b l f).2 base v (remF b l f).1 W h hb2 h0 h1 h2 h3)
    have HV := Aside0.mk hv
    clear hv hrows hb2
    generalize hL : l.flatten = L at HLI hfew HF HRM HSZ
    clear hL
    by_cases h1 : f < 0 ∨ (L.length : Int) ≤ f ∨ t < 0 ∨ (L.length : Int) ≤ t
    · have HF' : Aside0 (shiftF b l f t = ([], 7)) := ⟨by rw [HF.out, if_pos h1]⟩
      clear HF HRM HSZ HIN
      by_cases g1 : f < 0
      · clear h1
        go_enter Try.func37, Try.ntmps37
        go_wp2_with (first | (go_at_call 15; go_must (refine (valid_is HV.out _ _ _ HR.out).mono ?_; rintro e w1 ⟨rfl, hb⟩)) | (go_at_call 46; go_must (refine (HLI _ (Kd.C_below HR.out hb)).out.mono ?_; rintro e w2 ⟨AK, cK, rfl, hCK, hb2⟩; have HCK := Aside0.mk hCK; have hbK := hb.trans (hb2.mono hb.size); clear hCK hb2)))
        go_ret2
        exact ⟨_, ret_pair' HF'.out, by rw [HF'.out]; exact RA_nil _, hbK⟩
      · by_cases g2 : (L.length : Int) ≤ f
        · clear h1
          go_enter Try.func37, Try.ntmps37
          go_wp2_with (first | (go_at_call 15; go_must (refine (valid_is HV.out _ _ _ HR.out).mono ?_; rintro e w1 ⟨rfl, hb⟩)) | (go_at_call 46; go_must (refine (HLI _ (Kd.C_below HR.out hb)).out.mono ?_; rintro e w2 ⟨AK, cK, rfl, hCK, hb2⟩; have HCK := Aside0.mk hCK; have hbK := hb.trans (hb2.mono hb.size); clear hCK hb2)))
          go_ret2
          exact ⟨_, ret_pair' HF'.out, by rw [HF'.out]; exact RA_nil _, hbK⟩
        · by_cases g3 : t < 0
          · clear h1
            go_enter Try.func37, Try.ntmps37
            go_wp2_with (first | (go_at_call 15; go_must (refine (valid_is HV.out _ _ _ HR.out).mono ?_; rintro e w1 ⟨rfl, hb⟩)) | (go_at_call 46; go_must (refine (HLI _ (Kd.C_below HR.out hb)).out.mono ?_; rintro e w2 ⟨AK, cK, rfl, hCK, hb2⟩; have HCK := Aside0.mk hCK; have hbK := hb.trans (hb2.mono hb.size); clear hCK hb2)))
            go_ret2
            exact ⟨_, ret_pair' HF'.out, by rw [HF'.out]; exact RA_nil _, hbK⟩
          · have g4 : (L.length : Int) ≤ t := by omega
            clear h1
            go_enter Try.func37, Try.ntmps37
            go_wp2_with (first | (go_at_call 15; go_must (refine (valid_is HV.out _ _ _ HR.out).mono ?_; rintro e w1 ⟨rfl, hb⟩)) | (go_at_call 46; go_must (refine (HLI _ (Kd.C_below HR.out hb)).out.mono ?_; rintro e w2 ⟨AK, cK, rfl, hCK, hb2⟩; have HCK := Aside0.mk hCK; have hbK := hb.trans (hb2.mono hb.size); clear hCK hb2)))
            go_ret2
            exact ⟨_, ret_pair' HF'.out, by rw [HF'.out]; exact RA_nil _, hbK⟩
    · have HF' : Aside0 (shiftF b l f t = (putF b (remF b l f).1 t (remF b l f).2, 0)) := ⟨by rw [HF.out, if_neg h1]⟩
      have h3 : 0 ≤ f := by omega
      have h4 : f < L.length := by omega
      have h5 : 0 ≤ t := by omega
      have h6 : t < L.length := by omega
      replace HRM := HRM ⟨h3, h4⟩
      obtain ⟨s1, s2⟩ := HSZ h3 h4
      replace HIN := HIN (by omega) (by omega) ⟨h5, by omega⟩
      clear HF HSZ h1 s1 s2
      generalize (remF b l f).1 = R1 at HRM HIN HF'
      generalize (remF b l f).2 = R2 at HRM HIN HF'
      go_enter Try.func37, Try.ntmps37
      go_wp2_with (first | (go_at_call 15; go_must (refine (valid_is HV.out _ _ _ HR.out).mono ?_; rintro e w1 ⟨rfl, hb⟩)) | (go_at_call 46; go_must (refine (HLI _ (Kd.C_below HR.out hb)).out.mono ?_; rintro e w2 ⟨AK, cK, rfl, hCK, hb2⟩; have HCK := Aside0.mk hCK; have hbK := hb.trans (hb2.mono hb.size); clear hCK hb2)) | (go_at_call 57; go_must (refine (HOW _ (Kd.C_below HR.out hbK)).out.mono ?_; rintro e w3 ⟨v3, rfl, ho3, hb3⟩; have HO3 := Aside0.mk ho3; have hbO := hbK.trans (hb3.mono hbK.size); have hs3 := hb3.size; clear ho3 hb3)) | (go_at_call 56; go_must (refine (HRM _ _ _ HO3.out hs3).out.mono ?_; rintro e w4 ⟨v4, rfl, ho4, hb4⟩; have HO4 := Aside0.mk ho4; have hbP := hbO.trans (hb4.mono hbK.size); have hs4 := Nat.le_trans hs3 hb4.size; clear ho4 hb4)) | (go_at_call 41; go_must (refine (HIN _ _ _ HO4.out hs4).out.mono ?_; rintro e w5 ⟨v5, vs5, rfl, ho5, hb5⟩; have HO5 := Aside0.mk ho5.ra; have hbQ := hbP.trans (hb5.mono hbK.size); clear ho5 hb5)))
      go_ret2
      exact ⟨_, ret_pair' HF'.out, by rw [HF'.out]; exact HO5.out, hbQ⟩
end Go.Proofs.Ytjpobhdgfdeenaa.A
