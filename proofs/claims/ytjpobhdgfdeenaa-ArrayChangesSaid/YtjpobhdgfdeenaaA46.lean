/- Contracts of functions of package array: what they return, in whatever memory the arguments lie. -/
import Derived.Test.YtjpobhdgfdeenaaProg
import Derived.Below
import Derived.Deep.Draws
import Derived.Deep.AppendLies
import Derived.Maps.AppendAt
import Derived.Maps.OwnSet
import Derived.OwnWalk
import Derived.Laws.BytesArg
import Derived.Laws.MakeOwn
import Derived.Laws.OwnMore
import Derived.Deep.OwnRows
import Derived.Tactics
import Derived.Laws.Slices
import Derived.WalkKit
import Derived.KernelRfl
import Derived.RowKit3
import Derived.Deep.LoopGhost
import Derived.Deep.QuietTactic
import Derived.BigQuiet
import Derived.WideLaws
import Derived.Deep.DeepCutAuto
import Derived.Deep.CutBlock
import Derived.Deep.RegionHeld3
import Derived.Laws.Rows
import Derived.ArgAppend
import Derived.Laws.IdiomCopy
import Derived.OrdersHeld
import Derived.Laws.BitsLemmas
import Derived.Outline
import Derived.WalkSpells
import Derived.Lib.Hide
import Derived.RowKit
import Derived.Deep.DeepMust
import Derived.Test.YtjpobhdgfdeenaaA45
import Derived.Test.YtjpobhdgfdeenaaA37
set_option linter.unusedVariables false
set_option linter.unusedSimpArgs false
namespace Go.Proofs.Ytjpobhdgfdeenaa.A
open Go.RowKit Go.Proofs.YtjpobhdgfdeenaaW.PrintWords Go.Maps

theorem Key_is {k : Int} {r : Bool} (h : keyB k = r) (w : World) : Calls Try.prog 43 #[.int .i64 k] w fun e w' => e = .returned (.bool r) ∧ w = w' := by
  subst h
  exact Key_calls k w
theorem has_is {xs : List Int} {x : Int} {r : Bool} (h : decide (x ∈ xs) = r) (A : Option Addr) (c : Nat) (w : World) (hx : Kd.C (Kd.int .i64) w A xs.length xs) :
    Calls Try.prog 47 #[.slice A xs.length c, .int .i64 x] w fun e w' => e = .returned (.bool r) ∧ ∃ m, w' = w.drewN m := by
  subst h
  exact Has_calls A c xs x w hx
set_option maxRecDepth 100000 in
set_option maxHeartbeats 2000000 in
theorem rPut_calls (b m k : Int) (A : Option Addr) (c : Nat) (l : List (List Int)) (w : World) (hr : Kd.C (Kd.slice 3 (Kd.int .i64)) w A l.length l) (hlc : l.length ≤ c) :
    Calls Try.prog 34 #[.int .i64 b, .slice A l.length c, .int .i64 m, .int .i64 k] w fun e w' => ∃ v, e = .returned (.tuple #[v, .int .i64 (putAF b l m k).2]) ∧ RA w' v (putAF b l m k).1 ∧ Below w.heap.size w w' := by
  have HR := Aside0.mk hr
  clear hr
  cases hv : validB b l with
  | false =>
    have HF : Aside0 (putAF b l m k = ([], 1)) := ⟨by unfold putAF; rw [if_neg (by rw [hv]; simp)]⟩
    have HV := Aside0.mk hv
    clear hv
    go_enter Try.func34, Try.ntmps34
    go_wp2_with (first | (go_at_call 19; go_must (refine (rvalid_is HV.out _ _ _ HR.out).mono ?_; rintro e w1 ⟨rfl, hb⟩)))
    go_ret2
    exact ⟨_, ret_pair' HF.out, by rw [HF.out]; exact RA_nil _, hb⟩
  | true =>
    cases hk : keyB k with
    | false =>
      have HF : Aside0 (putAF b l m k = ([], 1)) := ⟨by unfold putAF; rw [if_neg (by rw [hk]; simp)]⟩
      have HV := Aside0.mk hv
      have HK := Aside0.mk hk
      clear hv hk
      go_enter Try.func34, Try.ntmps34
      go_wp2_with (first | (go_at_call 19; go_must (refine (rvalid_is HV.out _ _ _ HR.out).mono ?_; rintro e w1 ⟨rfl, hb⟩)) | (go_at_call 43; go_must (refine (Key_is HK.out _).mono ?_; rintro e w' ⟨rfl, rfl⟩)))
      go_ret2
      exact ⟨_, ret_pair' HF.out, by rw [HF.out]; exact RA_nil _, hb⟩
    | true =>
      obtain ⟨hb2, hrows, hfew, hlen⟩ := valid_arr hv
      have HF : Aside0 (putAF b l m k = if m < 0 ∨ (l.flatten.length : Int) < m then ([], 7) else if k ∈ l.flatten then ([], 6) else if 500 ≤ l.flatten.length then ([], 4) else (putF b l m k, 0)) := ⟨by unfold putAF; rw [if_pos ⟨hv, hk⟩]⟩
      have HLI := fun W h => Aside0.mk (flat_calls A c l W h (by omega))
      have HPT := fun hm => fun W h => Aside0.mk (put_calls b m k A c l W h hlc hb2 (by omega) (by omega) hm)
      have HV := Aside0.mk hv
      have HK := Aside0.mk hk
      clear hv hk hrows hb2
      generalize hL : l.flatten = L at HLI hfew HF HPT
      clear hL
      by_cases h1 : m < 0
      · have HF' : Aside0 (putAF b l m k = ([], 7)) := ⟨by rw [HF.out, if_pos (.inl h1)]⟩
        clear HF HPT
        go_enter Try.func34, Try.ntmps34
        go_wp2_with (first | (go_at_call 19; go_must (refine (rvalid_is HV.out _ _ _ HR.out).mono ?_; rintro e w1 ⟨rfl, hb⟩)) | (go_at_call 43; go_must (refine (Key_is HK.out _).mono ?_; rintro e w' ⟨rfl, rfl⟩)) | (go_at_call 48; go_must (refine (HLI _ (Kd.C_below HR.out hb)).out.mono ?_; rintro e w2 ⟨v2, rfl, ho2, hb2'⟩; obtain ⟨AK, cK, e2, _, hCK⟩ := OI_reads ho2; subst e2; have HCK := Aside0.mk hCK; have hbK := hb.trans (hb2'.mono hb.size); clear hCK ho2 hb2')))
        go_ret2
        exact ⟨_, ret_pair' HF'.out, by rw [HF'.out]; exact RA_nil _, hbK⟩
      · by_cases h2 : (L.length : Int) < m
        · have HF' : Aside0 (putAF b l m k = ([], 7)) := ⟨by rw [HF.out, if_pos (.inr h2)]⟩
          clear HF HPT
          go_enter Try.func34, Try.ntmps34
          go_wp2_with (first | (go_at_call 19; go_must (refine (rvalid_is HV.out _ _ _ HR.out).mono ?_; rintro e w1 ⟨rfl, hb⟩)) | (go_at_call 43; go_must (refine (Key_is HK.out _).mono ?_; rintro e w' ⟨rfl, rfl⟩)) | (go_at_call 48; go_must (refine (HLI _ (Kd.C_below HR.out hb)).out.mono ?_; rintro e w2 ⟨v2, rfl, ho2, hb2'⟩; obtain ⟨AK, cK, e2, _, hCK⟩ := OI_reads ho2; subst e2; have HCK := Aside0.mk hCK; have hbK := hb.trans (hb2'.mono hb.size); clear hCK ho2 hb2')))
          go_ret2
          exact ⟨_, ret_pair' HF'.out, by rw [HF'.out]; exact RA_nil _, hbK⟩
        · have hmm : 0 ≤ m ∧ m ≤ L.length := by omega
          replace HPT := HPT hmm
          cases hx : decide (k ∈ L) with
          | true =>
            have HX := Aside0.mk hx
            have HF' : Aside0 (putAF b l m k = ([], 6)) := ⟨by rw [HF.out, if_neg (by omega), if_pos (of_decide_eq_true hx)]⟩
            clear HF hx hmm
            go_enter Try.func34, Try.ntmps34
            go_wp2_with (first | (go_at_call 19; go_must (refine (rvalid_is HV.out _ _ _ HR.out).mono ?_; rintro e w1 ⟨rfl, hb⟩)) | (go_at_call 43; go_must (refine (Key_is HK.out _).mono ?_; rintro e w' ⟨rfl, rfl⟩)) | (go_at_call 48; go_must (refine (HLI _ (Kd.C_below HR.out hb)).out.mono ?_; rintro e w2 ⟨v2, rfl, ho2, hb2'⟩; obtain ⟨AK, cK, e2, _, hCK⟩ := OI_reads ho2; subst e2; have HCK := Aside0.mk hCK; have hbK := hb.trans (hb2'.mono hb.size); clear hCK ho2 hb2')) | (go_at_call 47; go_must (refine (has_is HX.out _ _ _ HCK.out).mono ?_; rintro e wx ⟨rfl, hdx⟩; have hbX : Below w.heap.size w wx := (by obtain ⟨mx, rfl⟩ := hdx; exact pw_below_drewN hbK mx); clear hdx)))
            go_ret2
            exact ⟨_, ret_pair' HF'.out, by rw [HF'.out]; exact RA_nil _, hbX⟩
          | false =>
            have HX := Aside0.mk hx
            by_cases h5 : 500 ≤ L.length
            · have HF' : Aside0 (putAF b l m k = ([], 4)) := ⟨by rw [HF.out, if_neg (by omega), if_neg (of_decide_eq_false hx), if_pos h5]⟩
              have h5' : ((L.length : Int) == 500) = true := by rw [show L.length = 500 by omega]; rfl
              clear HF hx hmm h5
              go_enter Try.func34, Try.ntmps34
              go_wp2_with (first | (go_at_call 19; go_must (refine (rvalid_is HV.out _ _ _ HR.out).mono ?_; rintro e w1 ⟨rfl, hb⟩)) | (go_at_call 43; go_must (refine (Key_is HK.out _).mono ?_; rintro e w' ⟨rfl, rfl⟩)) | (go_at_call 48; go_must (refine (HLI _ (Kd.C_below HR.out hb)).out.mono ?_; rintro e w2 ⟨v2, rfl, ho2, hb2'⟩; obtain ⟨AK, cK, e2, _, hCK⟩ := OI_reads ho2; subst e2; have HCK := Aside0.mk hCK; have hbK := hb.trans (hb2'.mono hb.size); clear hCK ho2 hb2')) | (go_at_call 47; go_must (refine (has_is HX.out _ _ _ HCK.out).mono ?_; rintro e wx ⟨rfl, hdx⟩; have hbX : Below w.heap.size w wx := (by obtain ⟨mx, rfl⟩ := hdx; exact pw_below_drewN hbK mx); clear hdx)))
              go_ret2
              exact ⟨_, ret_pair' HF'.out, by rw [HF'.out]; exact RA_nil _, hbX⟩
            · have HF' : Aside0 (putAF b l m k = (putF b l m k, 0)) := ⟨by rw [HF.out, if_neg (by omega), if_neg (of_decide_eq_false hx), if_neg h5]⟩
              have h5' : ((L.length : Int) == 500) = false := by simpa using (show ¬ (L.length : Int) = 500 by omega)
              clear HF hx hmm
              go_enter Try.func34, Try.ntmps34
              go_wp2_with (first | (go_at_call 19; go_must (refine (rvalid_is HV.out _ _ _ HR.out).mono ?_; rintro e w1 ⟨rfl, hb⟩)) | (go_at_call 43; go_must (refine (Key_is HK.out _).mono ?_; rintro e w' ⟨rfl, rfl⟩)) | (go_at_call 48; go_must (refine (HLI _ (Kd.C_below HR.out hb)).out.mono ?_; rintro e w2 ⟨v2, rfl, ho2, hb2'⟩; obtain ⟨AK, cK, e2, _, hCK⟩ := OI_reads ho2; subst e2; have HCK := Aside0.mk hCK; have hbK := hb.trans (hb2'.mono hb.size); clear hCK ho2 hb2')) | (go_at_call 47; go_must (refine (has_is HX.out _ _ _ HCK.out).mono ?_; rintro e wx ⟨rfl, hdx⟩; have hbX : Below w.heap.size w wx := (by obtain ⟨mx, rfl⟩ := hdx; exact pw_below_drewN hbK mx); clear hdx)) | (go_at_call 45; go_must (refine (HPT _ (Kd.C_below HR.out hbX)).out.mono ?_; rintro e w4 ⟨v4, rfl, hra4, hb4⟩; have HO4 := Aside0.mk hra4; have hbP := hbX.trans (hb4.mono hbX.size); clear hra4 hb4)))
              go_ret2
              exact ⟨_, ret_pair' HF'.out, by rw [HF'.out]; exact HO4.out, hbP⟩
set_option maxRecDepth 100000 in
set_option maxHeartbeats 2000000 in
theorem rTake_calls (b m : Int) (A : Option Addr) (c : Nat) (l : List (List Int)) (w : World) (hr : Kd.C (Kd.slice 3 (Kd.int .i64)) w A l.length l) (hlc : l.length ≤ c) :
    Calls Try.prog 36 #[.int .i64 b, .slice A l.length c, .int .i64 m] w fun e w' => ∃ v, e = .returned (.tuple #[v, .int .i64 (takeF b l m).1.2, .int .i64 (takeF b l m).2]) ∧ RA w' v (takeF b l m).1.1 ∧ Below w.heap.size w w' := by
  have HR := Aside0.mk hr
  clear hr
  cases hv : validB b l with
  | false =>
    have HF : Aside0 (takeF b l m = (([], 0), 1)) := ⟨by unfold takeF; rw [if_neg (by rw [hv]; simp)]⟩
    have hk : keysF b l = [] := by unfold keysF; rw [if_neg (by rw [hv]; simp)]
    have HKK := fun W h => Aside0.mk (rkeys2_is hv (E := 1) rfl hk A c W h)
    clear hv hk
    go_enter Try.func36, Try.ntmps36
    go_wp2_with (first | (go_at_call 20; go_must (refine (HKK _ HR.out).out.mono ?_; rintro e w1 ⟨A1, c1, rfl, hl1, HC1, hb⟩)))
    go_ret3
    exact ⟨_, ret_trip HF.out, by rw [HF.out]; exact RA_nil _, hb⟩
  | true =>
    obtain ⟨hb2, hrows, hfew, hlen⟩ := valid_arr hv
    have HF : Aside0 (takeF b l m = if m < 0 ∨ (l.flatten.length : Int) ≤ m then (([], 0), 7) else (remF b l m, 0)) := ⟨by unfold takeF; rw [if_pos hv]⟩
    have hk : keysF b l = l.flatten := by unfold keysF; rw [if_pos hv]
    have HKK := fun W h => Aside0.mk (rkeys2_is hv (E := 0) rfl hk A c W h)
    have HTK := fun h0 h1 => fun W h => Aside0.mk (take_calls b m A c l W h hlc hb2 hfew hrows h0 h1)
    clear hv hrows hb2 hk
    generalize hL : l.flatten = L at HKK hfew HF HTK
    clear hL
    by_cases h1 : m < 0
    · have HF' : Aside0 (takeF b l m = (([], 0), 7)) := ⟨by rw [HF.out, if_pos (.inl h1)]⟩
      clear HF HTK
      go_enter Try.func36, Try.ntmps36
      go_wp2_with (first | (go_at_call 20; go_must (refine (HKK _ HR.out).out.mono ?_; rintro e w1 ⟨A1, c1, rfl, hl1, HC1, hb⟩)))
      go_ret3
      exact ⟨_, ret_trip HF'.out, by rw [HF'.out]; exact RA_nil _, hb⟩
    · by_cases h2 : (L.length : Int) ≤ m
      · have HF' : Aside0 (takeF b l m = (([], 0), 7)) := ⟨by rw [HF.out, if_pos (.inr h2)]⟩
        clear HF HTK
        go_enter Try.func36, Try.ntmps36
        go_wp2_with (first | (go_at_call 20; go_must (refine (HKK _ HR.out).out.mono ?_; rintro e w1 ⟨A1, c1, rfl, hl1, HC1, hb⟩)))
        go_ret3
        exact ⟨_, ret_trip HF'.out, by rw [HF'.out]; exact RA_nil _, hb⟩
      · have HF' : Aside0 (takeF b l m = (remF b l m, 0)) := ⟨by rw [HF.out, if_neg (by omega)]⟩
        have h3 : 0 ≤ m := by omega
        have h4 : m < L.length := by omega
        replace HTK := HTK h3 h4
        clear HF
        go_enter Try.func36, Try.ntmps36
        go_wp2_with (first | (go_at_call 20; go_must (refine (HKK _ HR.out).out.mono ?_; rintro e w1 ⟨A1, c1, rfl, hl1, HC1, hb⟩)) | (go_at_call 59; go_must (refine (HTK _ (Kd.C_below HR.out hb)).out.mono ?_; rintro e w4 ⟨v4, rfl, hra4, hb4⟩; have HO4 := Aside0.mk hra4; have hbP := hb.trans (hb4.mono hb.size); clear hra4 hb4)))
        go_ret3
        exact ⟨_, ret_trip' HF'.out, by rw [HF'.out]; exact HO4.out, hbP⟩
set_option maxRecDepth 100000 in
set_option maxHeartbeats 2000000 in
theorem rShift_calls (b f t : Int) (A : Option Addr) (c : Nat) (l : List (List Int)) (w : World) (hr : Kd.C (Kd.slice 3 (Kd.int .i64)) w A l.length l) (hlc : l.length ≤ c) :
    Calls Try.prog 38 #[.int .i64 b, .slice A l.length c, .int .i64 f, .int .i64 t] w fun e w' => ∃ v, e = .returned (.tuple #[v, .int .i64 (shiftF b l f t).2]) ∧ RA w' v (shiftF b l f t).1 ∧ Below w.heap.size w w' := by
  have HR := Aside0.mk hr
  clear hr
  cases hv : validB b l with
  | false =>
    have HF : Aside0 (shiftF b l f t = ([], 1)) := ⟨by unfold shiftF; rw [if_neg (by rw [hv]; simp)]⟩
    have hk : keysF b l = [] := by unfold keysF; rw [if_neg (by rw [hv]; simp)]
    have HKK := fun W h => Aside0.mk (rkeys2_is hv (E := 1) rfl hk A c W h)
    clear hv hk
    go_enter Try.func38, Try.ntmps38
    go_wp2_with (first | (go_at_call 20; go_must (refine (HKK _ HR.out).out.mono ?_; rintro e w1 ⟨A1, c1, rfl, hl1, HC1, hb⟩)))
    go_ret2
    exact ⟨_, ret_pair' HF.out, by rw [HF.out]; exact RA_nil _, hb⟩
  | true =>
    obtain ⟨hb2, hrows, hfew, hlen⟩ := valid_arr hv
    have HF : Aside0 (shiftF b l f t = if f < 0 ∨ (l.flatten.length : Int) ≤ f ∨ t < 0 ∨ (l.flatten.length : Int) ≤ t then ([], 7) else (putF b (remF b l f).1 t (remF b l f).2, 0)) := ⟨by unfold shiftF; rw [if_pos hv]⟩
    have hk : keysF b l = l.flatten := by unfold keysF; rw [if_pos hv]
    have HKK := fun W h => Aside0.mk (rkeys2_is hv (E := 0) rfl hk A c W h)
    have HTK := fun h0 h1 => fun W h => Aside0.mk (take_calls b f A c l W h hlc hb2 hfew hrows h0 h1)
    have HSZ := fun h0 h1 => remF_size (b := b) (m := f) (l := l) h0 h1 hrows
    have HPT := fun h0 h1 h2 => fun A' c' W h hl => Aside0.mk (put_calls b t (remF b l f).2 A' c' (remF b l f).1 W h hl hb2 h0 h1 h2)
    clear hv hrows hb2 hk
    generalize hL : l.flatten = L at HKK hfew HF HTK HSZ
    clear hL
    by_cases h1 : f < 0 ∨ (L.length : Int) ≤ f ∨ t < 0 ∨ (L.length : Int) ≤ t
    · have HF' : Aside0 (shiftF b l f t = ([], 7)) := ⟨by rw [HF.out, if_pos h1]⟩
      clear HF HTK HSZ HPT
      by_cases g1 : f < 0
      · clear h1
        go_enter Try.func38, Try.ntmps38
        go_wp2_with (first | (go_at_call 20; go_must (refine (HKK _ HR.out).out.mono ?_; rintro e w1 ⟨A1, c1, rfl, hl1, HC1, hb⟩)))
        go_ret2
        exact ⟨_, ret_pair' HF'.out, by rw [HF'.out]; exact RA_nil _, hb⟩
      · by_cases g2 : (L.length : Int) ≤ f
        · clear h1
          go_enter Try.func38, Try.ntmps38
          go_wp2_with (first | (go_at_call 20; go_must (refine (HKK _ HR.out).out.mono ?_; rintro e w1 ⟨A1, c1, rfl, hl1, HC1, hb⟩)))
          go_ret2
          exact ⟨_, ret_pair' HF'.out, by rw [HF'.out]; exact RA_nil _, hb⟩
        · by_cases g3 : t < 0
          · clear h1
            go_enter Try.func38, Try.ntmps38
            go_wp2_with (first | (go_at_call 20; go_must (refine (HKK _ HR.out).out.mono ?_; rintro e w1 ⟨A1, c1, rfl, hl1, HC1, hb⟩)))
            go_ret2
            exact ⟨_, ret_pair' HF'.out, by rw [HF'.out]; exact RA_nil _, hb⟩
          · have g4 : (L.length : Int) ≤ t := by omega
            clear h1
            go_enter Try.func38, Try.ntmps38
            go_wp2_with (first | (go_at_call 20; go_must (refine (HKK _ HR.out).out.mono ?_; rintro e w1 ⟨A1, c1, rfl, hl1, HC1, hb⟩)))
            go_ret2
            exact ⟨_, ret_pair' HF'.out, by rw [HF'.out]; exact RA_nil _, hb⟩
    · have HF' : Aside0 (shiftF b l f t = (putF b (remF b l f).1 t (remF b l f).2, 0)) := ⟨by rw [HF.out, if_neg h1]⟩
      have h3 : 0 ≤ f := by omega
      have h4 : f < L.length := by omega
      have h5 : 0 ≤ t := by omega
      have h6 : t < L.length := by omega
      replace HTK := HTK h3 h4
      obtain ⟨s1, s2⟩ := HSZ h3 h4
      replace HPT := HPT (by omega) (by omega) ⟨h5, by omega⟩
      clear HF HSZ h1 s1 s2
      generalize (remF b l f).1 = R1 at HTK HPT HF'
      generalize (remF b l f).2 = R2 at HTK HPT HF'
      go_enter Try.func38, Try.ntmps38
      go_wp2_with (first | (go_at_call 20; go_must (refine (HKK _ HR.out).out.mono ?_; rintro e w1 ⟨A1, c1, rfl, hl1, HC1, hb⟩)) | (go_at_call 59; go_must (refine (HTK _ (Kd.C_below HR.out hb)).out.mono ?_; rintro e w4 ⟨v4, rfl, ⟨A4, c4, rfl, hl4, hC4⟩, hb4⟩; have HO4 := Aside0.mk hC4; have hbP := hb.trans (hb4.mono hb.size); clear hC4 hb4)) | (go_at_call 45; go_must (refine (HPT _ _ _ HO4.out hl4).out.mono ?_; rintro e w5 ⟨v5, rfl, hra5, hb5⟩; have HO5 := Aside0.mk hra5; have hbQ := hbP.trans (hb5.mono hbP.size); clear hra5 hb5)))
      go_ret2
      exact ⟨_, ret_pair' HF'.out, by rw [HF'.out]; exact HO5.out, hbQ⟩
end Go.Proofs.Ytjpobhdgfdeenaa.A
