/- The law of packed blocks of package array walked: it is true for every argument. -/
import Derived.Deep.DeepMust
import Derived.Test.YtjpobhdgfdeenaaM7
import Derived.Test.YtjpobhdgfdeenaaA41
set_option linter.unusedVariables false
set_option linter.unusedSimpArgs false
namespace Go.Proofs.Ytjpobhdgfdeenaa.A
open Go.RowKit Go.Proofs.YtjpobhdgfdeenaaW.PrintWords Go.Maps

set_option maxRecDepth 100000 in
set_option maxHeartbeats 4000000 in
theorem lawPacks_row (w : World) (b : Int) (_ : (Lit.int .i64 b).wf = true) (A : Option Addr) (c : Nat) (l : List (List Int)) (hr : Kd.C (Kd.slice 3 (Kd.int .i64)) w A l.length l) (_ : ∀ r ∈ l, ∀ n ∈ r, (Lit.int .i64 n).wf = true) (A' : Option Addr) (c' : Nat) (l' : List (List Int)) (hr' : Kd.C (Kd.slice 3 (Kd.int .i64)) w A' l'.length l') (_ : ∀ r ∈ l', ∀ n ∈ r, (Lit.int .i64 n).wf = true) (n : Int) (_ : (Lit.int .i64 n).wf = true) :
    Calls Try.prog 6 #[.int .i64 b, .slice A l.length c, .slice A' l'.length c', .int .i64 n] w fun e w' => e = .returned (.bool true) ∧ Below w.heap.size w w' := by
  have HA := Aside0.mk hr
  have HC := Aside0.mk hr'
  have HLA := fun W h => Aside0.mk (light_calls A c l W h)
  have HLC := fun W h => Aside0.mk (light_calls A' c' l' W h)
  clear hr hr'
  cases hl : lightF l with
  | false =>
    rw [hl] at HLA
    clear hl HLC
    go_enter Try.func6, Try.ntmps6
    go_wp2_with (first | (go_at_call 16; (with_reducible refine (HLA _ HA.out).out.mono ?_); go_must (rintro e w1 ⟨rfl, hd1⟩; have hb1 : Below w.heap.size w w1 := (by obtain ⟨m1, rfl⟩ := hd1; exact pw_below_drewN (Below.refl w.heap.size w) m1); clear hd1)) | (go_at_call 9; go_must (refine (awake_calls _).mono ?_; rintro e wz ⟨rfl, hbz⟩)))
    go_ret
    exact ⟨rfl, hb1.trans (hbz.mono hb1.size)⟩
  | true =>
    rw [hl] at HLA
    clear hl
    cases hl' : lightF l' with
    | false =>
      rw [hl'] at HLC
      clear hl'
      go_enter Try.func6, Try.ntmps6
      go_wp2_with (first | (go_at_call 16; (with_reducible refine (HLA _ HA.out).out.mono ?_); go_must (rintro e w1 ⟨rfl, hd1⟩; have hb1 : Below w.heap.size w w1 := (by obtain ⟨m1, rfl⟩ := hd1; exact pw_below_drewN (Below.refl w.heap.size w) m1); clear hd1)) | (go_at_call 16; (with_reducible refine (HLC _ (Kd.C_below HC.out hb1)).out.mono ?_); go_must (rintro e w2 ⟨rfl, hd2⟩; have hb2 : Below w.heap.size w w2 := (by obtain ⟨m2, rfl⟩ := hd2; exact pw_below_drewN hb1 m2); clear hd2)) | (go_at_call 9; go_must (refine (awake_calls _).mono ?_; rintro e wz ⟨rfl, hbz⟩)))
      go_ret
      exact ⟨rfl, hb2.trans (hbz.mono hb2.size)⟩
    | true =>
      rw [hl'] at HLC
      clear hl'
      have HP := fun W h => Aside0.mk (Pack_calls b n A c l W h)
      have HRP := fun W h => Aside0.mk (rPack_calls b n A c l W h)
      have HCH := fun W h h' => Aside0.mk (Changed_calls b A c l A' c' l' W h h')
      have HRCH := fun W h h' => Aside0.mk (rChanged_calls b A c l A' c' l' W h h')
      generalize (changedF b l l').1 = Z1 at HCH HRCH
      generalize (changedF b l l').2 = Z2 at HCH HRCH
      by_cases hE : (packF b l n).2 = 0
      · obtain ⟨hv, hv2, hf⟩ := pack_ok hE
        rw [hE] at HP HRP
        have hk1 : keysF b l = l.flatten := by unfold keysF; rw [if_pos hv]
        have hk2 : keysF b (packF b l n).1 = l.flatten := by unfold keysF; rw [if_pos hv2, hf]
        have HK := fun W h => Aside0.mk (Keys_calls b A c l W h)
        rw [hk1, hv] at HK
        have HK2 := fun A1 c1 W h => Aside0.mk (Keys_calls b A1 c1 (packF b l n).1 W h)
        rw [hk2, hv2] at HK2
        clear hE hk1 hk2 hv hv2 hf
        generalize (packF b l n).1 = P1 at HP HRP HK2
        generalize l.flatten = L at HK HK2
        go_enter Try.func6, Try.ntmps6
        go_wp2_with (first | (go_at_call 16; (with_reducible refine (HLA _ HA.out).out.mono ?_); go_must (rintro e w1 ⟨rfl, hd1⟩; have hb1 : Below w.heap.size w w1 := (by obtain ⟨m1, rfl⟩ := hd1; exact pw_below_drewN (Below.refl w.heap.size w) m1); clear hd1)) | (go_at_call 16; (with_reducible refine (HLC _ (Kd.C_below HC.out hb1)).out.mono ?_); go_must (rintro e w2 ⟨rfl, hd2⟩; have hb2 : Below w.heap.size w w2 := (by obtain ⟨m2, rfl⟩ := hd2; exact pw_below_drewN hb1 m2); clear hd2)) | (go_at_call 28; (with_reducible refine (HP _ (Kd.C_below HA.out hb2)).out.mono ?_); go_must (rintro e w3 ⟨v3, rfl, ⟨A3, c3, rfl, hl3, hC3⟩, hb3'⟩; have HC3 := Aside0.mk hC3; have hb3 := hb2.trans (hb3'.mono hb2.size); clear hC3 hb3')) | (go_at_call 29; (with_reducible refine (HRP _ (Kd.C_below HA.out hb3)).out.mono ?_); go_must (rintro e w4 ⟨v4, rfl, ⟨A4, c4, rfl, hl4, hC4⟩, hb4'⟩; have HC4 := Aside0.mk hC4; have HC34 := Aside0.mk (Kd.C_below HC3.out hb4'); have hb4 := hb3.trans (hb4'.mono hb3.size); clear hC4 hb4')) | (go_at_call 12; go_must (refine (SameBlocks_calls _ _ _ _ _ _ _ HC34.out HC4.out).mono ?_; rintro e w5 ⟨rfl, ⟨m5, rfl⟩⟩; have HC35 := Aside0.mk (Kd.C_drewN HC34.out m5); have hb5 := pw_below_drewN hb4 m5)) | (go_at_call 13; (with_reducible refine (HK _ (Kd.C_below HA.out hb5)).out.mono ?_); go_must (rintro e w6 ⟨v6, rfl, ho6, hb6'⟩; obtain ⟨A6, c6, e6, _, hC6⟩ := OI_reads ho6; subst e6; have HC6 := Aside0.mk hC6; have HC36 := Aside0.mk (Kd.C_below HC35.out hb6'); have hb6 := hb5.trans (hb6'.mono hb5.size); clear hC6 ho6 hb6')) | (go_at_call 13; (with_reducible refine (HK2 _ _ _ HC36.out).out.mono ?_); go_must (rintro e w7 ⟨v7, rfl, ho7, hb7'⟩; obtain ⟨A7, c7, e7, _, hC7⟩ := OI_reads ho7; subst e7; have HC7 := Aside0.mk hC7; have HC67 := Aside0.mk (Kd.C_below HC6.out hb7'); have hb7 := hb6.trans (hb7'.mono hb6.size); clear hC7 ho7 hb7')) | (go_at_call 14; (with_reducible refine (SameInts_calls _ _ _ _ _ _ _ HC67.out HC7.out).mono ?_); go_must (rintro e w8 ⟨rfl, ⟨m8, rfl⟩⟩; have hb8 := pw_below_drewN hb7 m8)) | (go_at_call 30; (with_reducible refine (HCH _ (Kd.C_below HA.out hb8) (Kd.C_below HC.out hb8)).out.mono ?_); go_must (rintro e w9 ⟨v9, rfl, ⟨A9, c9, rfl, hl9, hC9⟩, hb9'⟩; have HC9 := Aside0.mk hC9; have hb9 := hb8.trans (hb9'.mono hb8.size); clear hC9 hb9')) | (go_at_call 31; (with_reducible refine (HRCH _ (Kd.C_below HA.out hb9) (Kd.C_below HC.out hb9)).out.mono ?_); go_must (rintro e w10 ⟨v10, rfl, ⟨A10, c10, rfl, hl10, hC10⟩, hb10'⟩; have HC10 := Aside0.mk hC10; have HC910 := Aside0.mk (Kd.C_below HC9.out hb10'); have hb10 := hb9.trans (hb10'.mono hb9.size); clear hC10 hb10')) | (go_at_call 14; (with_reducible refine (SameInts_calls _ _ _ _ _ _ _ HC910.out HC10.out).mono ?_); go_must (rintro e w11 ⟨rfl, ⟨m11, rfl⟩⟩; have hb11 := pw_below_drewN hb10 m11)) | (go_at_call 9; go_must (refine (awake_calls _).mono ?_; rintro e wz ⟨rfl, hbz⟩)))
        go_ret
        exact ⟨rfl, hb11.trans (hbz.mono hb11.size)⟩
      · have hE3 : ((packF b l n).2 == 0) = false := by simpa using hE
        generalize (packF b l n).1 = P1 at HP HRP
        generalize (packF b l n).2 = P2 at HP HRP hE3
        clear hE
        go_enter Try.func6, Try.ntmps6
        go_wp2_with (first | (go_at_call 16; (with_reducible refine (HLA _ HA.out).out.mono ?_); go_must (rintro e w1 ⟨rfl, hd1⟩; have hb1 : Below w.heap.size w w1 := (by obtain ⟨m1, rfl⟩ := hd1; exact pw_below_drewN (Below.refl w.heap.size w) m1); clear hd1)) | (go_at_call 16; (with_reducible refine (HLC _ (Kd.C_below HC.out hb1)).out.mono ?_); go_must (rintro e w2 ⟨rfl, hd2⟩; have hb2 : Below w.heap.size w w2 := (by obtain ⟨m2, rfl⟩ := hd2; exact pw_below_drewN hb1 m2); clear hd2)) | (go_at_call 28; (with_reducible refine (HP _ (Kd.C_below HA.out hb2)).out.mono ?_); go_must (rintro e w3 ⟨v3, rfl, ⟨A3, c3, rfl, hl3, hC3⟩, hb3'⟩; have HC3 := Aside0.mk hC3; have hb3 := hb2.trans (hb3'.mono hb2.size); clear hC3 hb3')) | (go_at_call 29; (with_reducible refine (HRP _ (Kd.C_below HA.out hb3)).out.mono ?_); go_must (rintro e w4 ⟨v4, rfl, ⟨A4, c4, rfl, hl4, hC4⟩, hb4'⟩; have HC4 := Aside0.mk hC4; have HC34 := Aside0.mk (Kd.C_below HC3.out hb4'); have hb4 := hb3.trans (hb4'.mono hb3.size); clear hC4 hb4')) | (go_at_call 12; go_must (refine (SameBlocks_calls _ _ _ _ _ _ _ HC34.out HC4.out).mono ?_; rintro e w5 ⟨rfl, ⟨m5, rfl⟩⟩; have HC35 := Aside0.mk (Kd.C_drewN HC34.out m5); have hb5 := pw_below_drewN hb4 m5)) | (go_at_call 30; (with_reducible refine (HCH _ (Kd.C_below HA.out hb5) (Kd.C_below HC.out hb5)).out.mono ?_); go_must (rintro e w9 ⟨v9, rfl, ⟨A9, c9, rfl, hl9, hC9⟩, hb9'⟩; have HC9 := Aside0.mk hC9; have hb9 := hb5.trans (hb9'.mono hb5.size); clear hC9 hb9')) | (go_at_call 31; (with_reducible refine (HRCH _ (Kd.C_below HA.out hb9) (Kd.C_below HC.out hb9)).out.mono ?_); go_must (rintro e w10 ⟨v10, rfl, ⟨A10, c10, rfl, hl10, hC10⟩, hb10'⟩; have HC10 := Aside0.mk hC10; have HC910 := Aside0.mk (Kd.C_below HC9.out hb10'); have hb10 := hb9.trans (hb10'.mono hb9.size); clear hC10 hb10')) | (go_at_call 14; (with_reducible refine (SameInts_calls _ _ _ _ _ _ _ HC910.out HC10.out).mono ?_); go_must (rintro e w11 ⟨rfl, ⟨m11, rfl⟩⟩; have hb11 := pw_below_drewN hb10 m11)) | (go_at_call 9; go_must (refine (awake_calls _).mono ?_; rintro e wz ⟨rfl, hbz⟩)))
        go_ret
        exact ⟨rfl, hb11.trans (hbz.mono hb11.size)⟩
end Go.Proofs.Ytjpobhdgfdeenaa.A
