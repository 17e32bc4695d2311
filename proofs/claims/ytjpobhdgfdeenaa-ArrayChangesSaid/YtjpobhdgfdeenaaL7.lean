/- The law of changed blocks of package array walked: it is true for every argument. -/
import Derived.Deep.DeepMust
import Derived.StillTailTactics
import Derived.Deep.DrawnRows
import Derived.BigQuiet
import Derived.Deep.RegionHeld3
import Derived.Test.YtjpobhdgfdeenaaL5
import Derived.Test.YtjpobhdgfdeenaaA47
set_option linter.unusedVariables false
set_option linter.unusedSimpArgs false
namespace Go.Proofs.Ytjpobhdgfdeenaa.A
open Go.RowKit Go.Proofs.YtjpobhdgfdeenaaW.PrintWords Go.Maps

theorem put_ok {b m k : Int} {l : List (List Int)} (h : (putAF b l m k).2 = 0) : ∃ M : Nat, m = M ∧ M ≤ l.flatten.length ∧ validB b l = true ∧ (putAF b l m k).1 = putF b l m k ∧ validB b (putF b l m k) = true ∧ (putF b l m k).flatten = l.flatten.take M ++ k :: l.flatten.drop M ∧ apartF (putF b l m k) l ≤ 2 := by
  unfold putAF at h ⊢
  split at h
  · rename_i hv
    rw [if_pos hv]
    split at h
    · cases h
    · rename_i h1
      rw [if_neg h1]
      split at h
      · cases h
      · rename_i h2
        rw [if_neg h2]
        split at h
        · cases h
        · rename_i h3
          rw [if_neg h3]
          have ha := (validB_iff b l).1 hv.1
          have hp := put_arr (b := b) (m := m) ha (by omega) (by omega) hv.2 h2 (by omega)
          have hf := putF_flat b l m k (by omega) (by omega)
          exact ⟨m.toNat, by omega, by omega, hv.1, rfl, (validB_iff b _).2 hp.1, hf, putF_apart (by omega) (by omega)⟩
  · cases h
theorem take_ok {b m : Int} {l : List (List Int)} (h : (takeF b l m).2 = 0) : ∃ M : Nat, m = M ∧ M < l.flatten.length ∧ validB b l = true ∧ (takeF b l m).1 = remF b l m ∧ validB b (remF b l m).1 = true ∧ (remF b l m).1.flatten = l.flatten.eraseIdx M ∧ (remF b l m).2 = l.flatten.getD M 0 ∧ apartF (remF b l m).1 l ≤ 2 := by
  unfold takeF at h ⊢
  split at h
  · rename_i hv
    rw [if_pos hv]
    split at h
    · cases h
    · rename_i h1
      rw [if_neg h1]
      have ha := (validB_iff b l).1 hv
      have hp := take_arr (b := b) (m := m) ha (by omega) (by omega)
      have hf := remF_flat (b := b) (m := m) (l := l) (by omega) (by omega)
      have hq := remF_apart (b := b) (m := m) (l := l) (by omega) (by omega)
      exact ⟨m.toNat, by omega, by omega, hv, rfl, (validB_iff b _).2 hp.1, hf.1, hf.2, by omega⟩
  · cases h
set_option maxRecDepth 100000 in
set_option maxHeartbeats 8000000 in
theorem lawChanges_row (w : World) (b : Int) (_ : (Lit.int .i64 b).wf = true) (A : Option Addr) (c : Nat) (l : List (List Int)) (hlc : l.length ≤ c) (hr : Kd.C (Kd.slice 3 (Kd.int .i64)) w A l.length l) (_ : ∀ r ∈ l, ∀ n ∈ r, (Lit.int .i64 n).wf = true) (m : Int) (_ : (Lit.int .i64 m).wf = true) (t : Int) (_ : (Lit.int .i64 t).wf = true) (k : Int) (_ : (Lit.int .i64 k).wf = true) :
    Calls Try.prog 8 #[.int .i64 b, .slice A l.length c, .int .i64 m, .int .i64 t, .int .i64 k] w fun e w' => e = .returned (.bool true) ∧ Below w.heap.size w w' := by
  have HR := Aside0.mk hr
  have HLA := fun W h => Aside0.mk (light_calls A c l W h)
  clear hr
  cases hl : lightF l with
  | false =>
    rw [hl] at HLA
    clear hl
    go_enter Try.func8, Try.ntmps8
    go_wp2_with (first | (go_at_call 16; (with_reducible refine (HLA _ HR.out).out.mono ?_); go_must (rintro e w1 ⟨rfl, hd1⟩; have hb1 : Below w.heap.size w w1 := (by obtain ⟨m1, rfl⟩ := hd1; exact pw_below_drewN (Below.refl w.heap.size w) m1); clear hd1)) | (go_at_call 9; go_must (refine (awake_calls _).mono ?_; rintro e wz ⟨rfl, hbz⟩)))
    go_ret
    exact ⟨rfl, hb1.trans (hbz.mono hb1.size)⟩
  | true =>
    rw [hl] at HLA
    clear hl
    have HP := fun W h => Aside0.mk (Put_calls b m k A c l W h)
    have HRP := fun W h => Aside0.mk (rPut_calls b m k A c l W h hlc)
    have HT := fun W h => Aside0.mk (Take_calls b m A c l W h)
    have HRT := fun W h => Aside0.mk (rTake_calls b m A c l W h hlc)
    have HS := fun W h => Aside0.mk (Shift_calls b m t A c l W h)
    have HRS := fun W h => Aside0.mk (rShift_calls b m t A c l W h hlc)
    have HKR := fun W h => Aside0.mk (rkeys2_is (b := b) (l := l) rfl rfl rfl A c W h)
    generalize (shiftF b l m t).1 = Z1 at HS HRS
    generalize (shiftF b l m t).2 = Z2 at HS HRS
    by_cases hE : (putAF b l m k).2 = 0
    · obtain ⟨M, hmM, hM0, hv, hp1, hv1, hf1, hap1⟩ := put_ok hE
      have hkl : keysF b l = l.flatten := by unfold keysF; rw [if_pos hv]
      have hfew := valid_few hv
      have HKX := fun A1 c1 W h => Aside0.mk (Keys_calls b A1 c1 (putF b l m k) W h)
      rw [show keysF b (putF b l m k) = (putF b l m k).flatten by unfold keysF; rw [if_pos hv1], hv1] at HKX
      rw [hE, hp1] at HP HRP
      rw [hkl, hv] at HKR
      have HWANT0 := Aside0.mk hf1
      by_cases hE2 : (takeF b l m).2 = 0
      · obtain ⟨M', hmM', hM1, _, hp2, hv2, hf2, hk2, hap2⟩ := take_ok hE2
        obtain rfl : M = M' := by omega
        have HKY := fun A1 c1 W h => Aside0.mk (Keys_calls b A1 c1 (remF b l m).1 W h)
        rw [show keysF b (remF b l m).1 = (remF b l m).1.flatten by unfold keysF; rw [if_pos hv2], hv2] at HKY
        rw [hE2, hp2] at HT HRT
        have HWANT20 := Aside0.mk hf2
        have HK2E0 := Aside0.mk hk2
        have hap1' : ¬ (2 < ((apartF (putF b l m k) l : Nat) : Int)) := by omega
        have hap2' : ¬ (2 < ((apartF (remF b l m).1 l : Nat) : Int)) := by omega
        clear hE hE2 hp1 hp2 hv hv1 hv2 hf1 hf2 hk2 hkl hap1 hap2 hmM'
        generalize (putF b l m k) = X1 at HP HRP HKX HWANT0 hap1'
        generalize (remF b l m).1 = X2 at HT HRT HKY HWANT20 hap2'
        generalize (remF b l m).2 = K2 at HT HRT HK2E0
        generalize hW1 : X1.flatten = WN1 at HKX HWANT0
        generalize hW2 : X2.flatten = WN2 at HKY HWANT20
        generalize l.flatten = L at HKR HWANT0 HWANT20 HK2E0 hfew hM0 hM1
        subst hmM
        have HWANT := HWANT0
        have HWANT2 := HWANT20
        have HK2E := HK2E0
        clear hW1 hW2 HWANT0 HWANT20 HK2E0
        have hm2 : (M : Int) ≤ (L.length : Int) := by omega
        have hm0 : (0 : Int) ≤ (M : Int) := by omega
        go_enter Try.func8, Try.ntmps8
        go_wp2_with (first | (go_at_call 16; (with_reducible refine (HLA _ HR.out).out.mono ?_); go_must (rintro e w1 ⟨rfl, hd1⟩; have hb1 : Below w.heap.size w w1 := (by obtain ⟨m1, rfl⟩ := hd1; exact pw_below_drewN (Below.refl w.heap.size w) m1); clear hd1)) | (go_at_call 33; (with_reducible refine (HP _ (Kd.C_below HR.out hb1)).out.mono ?_); go_must (rintro e w2 ⟨v2, rfl, ⟨A2, c2, rfl, hl2, hC2⟩, hb2'⟩; have HC2 := Aside0.mk hC2; have hb2 := hb1.trans (hb2'.mono hb1.size); clear hC2 hb2')) | (go_at_call 34; (with_reducible refine (HRP _ (Kd.C_below HR.out hb2)).out.mono ?_); go_must (rintro e w3 ⟨v3, rfl, ⟨A3, c3, rfl, hl3, hC3⟩, hb3'⟩; have HC3 := Aside0.mk hC3; have HC23 := Aside0.mk (Kd.C_below HC2.out hb3'); have hb3 := hb2.trans (hb3'.mono hb2.size); clear hC3 hb3')) | (go_at_call 12; (with_reducible refine (SameBlocks_calls _ _ _ _ _ _ _ HC23.out HC3.out).mono ?_); go_must (rintro e w4 ⟨rfl, hd4⟩; have hb34 : Below w3.heap.size w3 w4 := (by obtain ⟨m4, rfl⟩ := hd4; exact pw_below_drewN (Below.refl _ _) m4); have HC24 := Aside0.mk (Kd.C_below HC23.out hb34); have hb4 := hb3.trans (hb34.mono hb3.size); clear hd4 hb34)) | (go_at_call 20; (with_reducible refine (HKR _ (Kd.C_below HR.out hb4)).out.mono ?_); go_must (rintro e w5 ⟨A5, c5, rfl, hl5, HC5, hb5'⟩; have HC25 := Aside0.mk (Kd.C_below HC24.out hb5'); have hb5 := hb4.trans (hb5'.mono hb4.size); clear hb5')) | (go_at_call 13; (with_reducible refine (HKX _ _ _ HC25.out).out.mono ?_); go_must (rintro e w6 ⟨v6, rfl, ho6, hb6'⟩; obtain ⟨A6, c6, e6, _, hC6⟩ := OI_reads ho6; subst e6; have HC6 := Aside0.mk hC6; have HC26 := Aside0.mk (Kd.C_below HC25.out hb6'); have HC56 := Aside0.mk (Kd.C_below HC5.out hb6'); have hb6 := hb5.trans (hb6'.mono hb5.size); clear hC6 ho6 hb6')))
        have hKK0 := fun X : World => Aside0.mk (OwnS_new X 3 [.int .i64 k] (by simp) (by simp) (by simp [Value.oneCell']))
        have hOA : Aside0 (OI (w6.alloc (.cells #[] 3)).drew w6.heap.size (.slice (some ⟨w6.heap.size, 0, none⟩) 0 0) []) := ⟨OI_below (OI_empty (Nat.le_refl _)) (below_drew (Below.refl _ _))⟩
        have hOB : Aside0 (OI ((w6.alloc (.cells #[] 3)).alloc (.cells #[.int .i64 k] 3)).drew w6.heap.size (.slice (some ⟨w6.heap.size, 0, none⟩) 0 0) []) := ⟨OI_below (OI_empty (Nat.le_refl _)) (below_drew (below_alloc (Below.refl _ _) _))⟩
        have hOC : Aside0 (OI ((w6.alloc (.cells #[.int .i64 k] 3)).alloc (.cells #[] 3)).drew w6.heap.size (.slice (some ⟨w6.heap.size + 1, 0, none⟩) 0 0) []) := ⟨by
          have := OI_empty (w := w6.alloc (.cells #[.int .i64 k] 3)) (base := w6.heap.size) (by simp)
          rw [World.size_alloc] at this
          exact OI_below this (below_drew (Below.refl _ _))⟩
        have hKB : Aside0 (OwnS ((w6.alloc (.cells #[] 3)).alloc (.cells #[.int .i64 k] 3)).drew 0 3 (.slice (some ⟨w6.heap.size + 1, 0, none⟩) 1 1) (ints [k])) := ⟨by
          have := (hKK0 (w6.alloc (.cells #[] 3))).out
          rw [World.size_alloc] at this
          exact (this.kept (grown_of_below (below_drew (Below.refl _ _)) none) (by simp [Value.ownBlock])).low (Nat.zero_le _)⟩
        have hKC : Aside0 (OwnS ((w6.alloc (.cells #[.int .i64 k] 3)).alloc (.cells #[] 3)).drew 0 3 (.slice (some ⟨w6.heap.size, 0, none⟩) 1 1) (ints [k])) := ⟨by
          have := (hKK0 w6).out
          exact (this.kept (grown_of_below (below_drew (below_alloc (Below.refl _ _) _)) none) (by simp [Value.ownBlock])).low (Nat.zero_le _)⟩
        have HTk : Aside0 (Kd.C (Kd.int .i64) w6 A5 M (L.take M)) := ⟨by
          have := Kd.C_take HC56.out (show M ≤ L.length by omega)
          rwa [show (L.take M).length = M by rw [List.length_take]; omega] at this⟩
        have HDk : Aside0 (Kd.C (Kd.int .i64) w6 (if c5 = M then A5 else A5.map (·.add M)) (L.length - M) (L.drop M)) := ⟨by
          have := Kd.C_drop HC56.out (show M ≤ L.length by omega) hl5
          rwa [List.length_drop, show M * (Kd.int .i64).sz = M from Nat.mul_one M] at this⟩
        have hm3 : (M : Int) ≤ (c5 : Int) := by omega
        have hbb6 : Below w6.heap.size w6 w6 := Below.refl _ _
        go_region_held3 (fun w' => Below w6.heap.size w6 w') ((repeat first | exact hbb6 | exact hbr3 | exact hbr2 | exact hbr1 | refine below_drew ?_ | refine below_alloc ?_ _)) (first
          | (refine Kd.R_append_rows_step (Kd.int .i64) (w0 := w6) w6.heap.size (by rfl) (.tmp 68) (.tmp 71) 22 3 (.int .i64 0) 8 rfl Try.underlying22 infoA3 rfl (by decide) (by omega) _ [] (L.take M) _ _ _ Tr (fun _ => False) rfl rfl ?bO ?bR (fun _ _ h => h) (fun _ h => h.elim) (fun _ _ => trivial) ‹Below w6.heap.size w6 _› (‹Below w6.heap.size w6 _›).size ?bL ?_; (case bO => first | exact hOA.out | exact hOB.out | exact hOC.out); (case bR => exact Kd.C_below HTk.out ‹Below w6.heap.size w6 _›); (case bL => simp; omega); intro vr1 wr1 ho1 hbr1 hg1 hat1; have HO1 := Aside0.mk ho1; have HG1 := Aside0.mk hg1; clear ho1 hg1 hat1)
          | (refine Kd.R_append_rows_step (Kd.int .i64) (w0 := w6) w6.heap.size (by rfl) (.tmp 72) (.tmp 74) 22 3 (.int .i64 0) 8 rfl Try.underlying22 infoA3 rfl (by decide) (by omega) _ ([] ++ L.take M) [k] _ _ _ Tr (fun _ => False) rfl rfl ?bO ?bR (fun _ _ h => h) (fun _ h => h.elim) (fun _ _ => trivial) ‹Below w6.heap.size w6 _› (‹Below w6.heap.size w6 _›).size ?bL ?_; (case bO => first | exact HO1.out | exact OI_below HO1.out (below_alloc (Below.refl _ _) _)); (case bR => first | exact (hKK0 wr1).out.C1 | exact (hKB.out.kept HG1.out (by show some (w6.heap.size + 1) ≠ some w6.heap.size; simp)).C1 | exact (hKC.out.kept HG1.out (by show some w6.heap.size ≠ some (w6.heap.size + 1); simp)).C1); (case bL => simp; omega); intro vr2 wr2 ho2 hbr2 hg2 hat2; have HO2 := Aside0.mk ho2; clear ho2 hg2 hat2)
          | (refine Kd.R_append_rows_step (Kd.int .i64) (w0 := w6) w6.heap.size (by rfl) (.tmp 75) (.tmp 78) 22 3 (.int .i64 0) 8 rfl Try.underlying22 infoA3 rfl (by decide) (by omega) _ ([] ++ L.take M ++ [k]) (L.drop M) _ _ _ Tr (fun _ => False) rfl rfl HO2.out ?bR (fun _ _ h => h) (fun _ h => h.elim) (fun _ _ => trivial) ‹Below w6.heap.size w6 _› (‹Below w6.heap.size w6 _›).size ?bL ?_; (case bR => exact Kd.C_below HDk.out ‹Below w6.heap.size w6 _›); (case bL => simp; omega); intro v7 w7 ho7 hbr3 hg7 hat7; have HO7 := Aside0.mk ho7; clear ho7 hg7 hat7))
        all_goals
          rename_i KK hKK hHH
          refine hKK _ _ ?_
          clear hKK KK hHH hOA hOB hOC hKB hKC hKK0 HTk HDk
          have hb7 := hb6.trans (hbr3.mono hb6.size)
          obtain ⟨A7, c7, e7, _, hC7⟩ := OI_reads HO7.out
          have hW7 : [] ++ L.take M ++ [k] ++ L.drop M = L.take M ++ k :: L.drop M := by simp
          rw [hW7, ← HWANT.out] at e7 hC7
          subst e7
          have HC7 := Aside0.mk hC7
          have HC67 := Aside0.mk (Kd.C_below HC6.out hbr3)
          have HC27 := Aside0.mk (Kd.C_below HC26.out hbr3)
          have HC57 := Aside0.mk (Kd.C_below HC56.out hbr3)
          clear hC7 hW7 hbr3
        all_goals
          go_wp2_with (first | (go_at_call 14; (with_reducible refine (SameInts_calls _ _ _ _ _ _ _ HC67.out HC7.out).mono ?_); go_must (rintro e w8 ⟨rfl, hd8⟩; have hb78 : Below w7.heap.size w7 w8 := (by obtain ⟨m8, rfl⟩ := hd8; exact pw_below_drewN (Below.refl _ _) m8); have HC28 := Aside0.mk (Kd.C_below HC27.out hb78); have HC58 := Aside0.mk (Kd.C_below HC57.out hb78); have hb8 := hb7.trans (hb78.mono hb7.size); clear hd8 hb78)) | (go_at_call 35; (with_reducible refine (apart_calls _ _ _ _ _ _ _ HC28.out (Kd.C_below HR.out hb8)).mono ?_); go_must (rintro e w9 ⟨rfl, hd9⟩; have hb89 : Below w8.heap.size w8 w9 := (by obtain ⟨m9, rfl⟩ := hd9; exact pw_below_drewN (Below.refl _ _) m9); have HC59 := Aside0.mk (Kd.C_below HC58.out hb89); have hb9 := hb8.trans (hb89.mono hb8.size); clear hd9 hb89)) | (go_at_call 32; (with_reducible refine (HT _ (Kd.C_below HR.out hb9)).out.mono ?_); go_must (rintro e w10 ⟨v10, rfl, ⟨A10, c10, rfl, hl10, hC10⟩, hb10'⟩; have HC10 := Aside0.mk hC10; have HC510 := Aside0.mk (Kd.C_below HC59.out hb10'); have hb10 := hb9.trans (hb10'.mono hb9.size); clear hC10 hb10')) | (go_at_call 36; (with_reducible refine (HRT _ (Kd.C_below HR.out hb10)).out.mono ?_); go_must (rintro e w11 ⟨v11, rfl, ⟨A11, c11, rfl, hl11, hC11⟩, hb11'⟩; have HC11 := Aside0.mk hC11; have HC1011 := Aside0.mk (Kd.C_below HC10.out hb11'); have HC511 := Aside0.mk (Kd.C_below HC510.out hb11'); have hb11 := hb10.trans (hb11'.mono hb10.size); clear hC11 hb11')) | (go_at_call 12; (with_reducible refine (SameBlocks_calls _ _ _ _ _ _ _ HC1011.out HC11.out).mono ?_); go_must (rintro e w12 ⟨rfl, hd12⟩; have hb1112 : Below w11.heap.size w11 w12 := (by obtain ⟨m12, rfl⟩ := hd12; exact pw_below_drewN (Below.refl _ _) m12); have HC1012 := Aside0.mk (Kd.C_below HC1011.out hb1112); have HC512 := Aside0.mk (Kd.C_below HC511.out hb1112); have hb12 := hb11.trans (hb1112.mono hb11.size); clear hd12 hb1112)) | (go_at_call 13; (with_reducible refine (HKY _ _ _ HC1012.out).out.mono ?_); go_must (rintro e w13 ⟨v13, rfl, ho13, hb13'⟩; obtain ⟨A13, c13, e13, _, hC13⟩ := OI_reads ho13; subst e13; have HC13 := Aside0.mk hC13; have HC1013 := Aside0.mk (Kd.C_below HC1012.out hb13'); have HC513 := Aside0.mk (Kd.C_below HC512.out hb13'); have hb13 := hb12.trans (hb13'.mono hb12.size); clear hC13 ho13 hb13')))
          obtain ⟨ad5, x5, hA5, hd5, hcell5⟩ := C_int HC513.out M hM1
          subst hA5
          have hx5 : x5 = K2 := by rw [HK2E.out, List.getD_eq_getElem?_getD, List.getElem?_eq_getElem hM1]; rw [List.drop_eq_getElem_cons hM1] at hd5; injection hd5 with h9 _; rw [← h9]; rfl
          subst hx5
          clear hd5
          have hOA : Aside0 (OI (w13.alloc (.cells #[] 3)).drew w13.heap.size (.slice (some ⟨w13.heap.size, 0, none⟩) 0 0) []) := ⟨OI_below (OI_empty (Nat.le_refl _)) (below_drew (Below.refl _ _))⟩
          have HTk : Aside0 (Kd.C (Kd.int .i64) w13 (some ad5) M (L.take M)) := ⟨by
            have := Kd.C_take HC513.out (show M ≤ L.length by omega)
            rwa [show (L.take M).length = M by rw [List.length_take]; omega] at this⟩
          have HDk : Aside0 (Kd.C (Kd.int .i64) w13 (if c5 = M + 1 then some ad5 else some { block := ad5.block, off := ad5.off + (M + 1) }) (L.length - (M + 1)) (L.drop (M + 1))) := ⟨by
            have := Kd.C_drop (c := c5) HC513.out (show M + 1 ≤ L.length by omega) hl5
            rw [List.length_drop] at this
            split
            · rename_i e; rwa [if_pos e] at this
            · rename_i e
              rw [if_neg e, show (M + 1) * (Kd.int .i64).sz = M + 1 from Nat.mul_one _] at this
              simpa [Addr.add] using this⟩
          have hm3 : (M : Int) ≤ (c5 : Int) := by omega
          have hm4 : IntKind.i64.wrap ((M : Int) + 1) = (M : Int) + 1 := wrap_small _ (by omega) (by omega)
          have hm5 : (M : Int) + 1 ≤ (L.length : Int) := by omega
          have hm6 : (0 : Int) ≤ (M : Int) + 1 := by omega
          have hm7 : (L.length : Int) ≤ (c5 : Int) := by omega
          have hm8 : (M : Int) < (L.length : Int) := by omega
          have hbb13 : Below w13.heap.size w13 w13 := Below.refl _ _
          go_region_held3 (fun w' => Below w13.heap.size w13 w') ((repeat first | exact hbb13 | exact hbs3 | exact hbs1 | refine below_drew ?_ | refine below_alloc ?_ _)) (first
            | (refine Kd.R_append_rows_step (Kd.int .i64) (w0 := w13) w13.heap.size (by rfl) (.tmp 132) (.tmp 135) 22 3 (.int .i64 0) 8 rfl Try.underlying22 infoA3 rfl (by decide) (by omega) _ [] (L.take M) _ _ _ Tr (fun _ => False) rfl rfl hOA.out ?bR (fun _ _ h => h) (fun _ h => h.elim) (fun _ _ => trivial) ‹Below w13.heap.size w13 _› (‹Below w13.heap.size w13 _›).size ?bL ?_; (case bR => exact Kd.C_below HTk.out ‹Below w13.heap.size w13 _›); (case bL => simp; omega); intro vs1 ws1 ho1 hbs1 hg1 hat1; have HO21 := Aside0.mk ho1; clear ho1 hg1 hat1)
            | (refine Kd.R_append_rows_step (Kd.int .i64) (w0 := w13) w13.heap.size (by rfl) (.tmp 136) (.tmp 140) 22 3 (.int .i64 0) 8 rfl Try.underlying22 infoA3 rfl (by decide) (by omega) _ ([] ++ L.take M) (L.drop (M + 1)) _ _ _ Tr (fun _ => False) rfl rfl HO21.out ?bR (fun _ _ h => h) (fun _ h => h.elim) (fun _ _ => trivial) ‹Below w13.heap.size w13 _› (‹Below w13.heap.size w13 _›).size ?bL ?_; (case bR => exact Kd.C_below HDk.out ‹Below w13.heap.size w13 _›); (case bL => simp; omega); intro v14 w14 ho14 hbs3 hg14 hat14; have HO14 := Aside0.mk ho14; clear ho14 hg14 hat14))
          all_goals
            rename_i KK hKK hHH
            refine hKK _ _ ?_
            clear hKK KK hHH hOA HTk HDk
            have hb14 := hb13.trans (hbs3.mono hb13.size)
            obtain ⟨A14, c14, e14, _, hC14⟩ := OI_reads HO14.out
            have hW14 : [] ++ L.take M ++ L.drop (M + 1) = L.eraseIdx M := by rw [List.eraseIdx_eq_take_drop_succ]; simp
            rw [hW14, ← HWANT2.out] at e14 hC14
            subst e14
            have HC14 := Aside0.mk hC14
            have HC1314 := Aside0.mk (Kd.C_below HC13.out hbs3)
            have HC1014 := Aside0.mk (Kd.C_below HC1013.out hbs3)
            have hcell14 := pw_cell_below hbs3 hcell5
            clear hC14 hW14 hbs3 hcell5 hm3 hm5 hm7
          all_goals
            go_wp2_with (first | (go_at_call 14; (with_reducible refine (SameInts_calls _ _ _ _ _ _ _ HC1314.out HC14.out).mono ?_); go_must (rintro e w15 ⟨rfl, hd15⟩; have hb1415 : Below w14.heap.size w14 w15 := (by obtain ⟨m15, rfl⟩ := hd15; exact pw_below_drewN (Below.refl _ _) m15); have HC1015 := Aside0.mk (Kd.C_below HC1014.out hb1415); have hb15 := hb14.trans (hb1415.mono hb14.size); clear hd15 hb1415)) | (go_at_call 35; (with_reducible refine (apart_calls _ _ _ _ _ _ _ HC1015.out (Kd.C_below HR.out hb15)).mono ?_); go_must (rintro e w16 ⟨rfl, hd16⟩; have hb16 : Below w.heap.size w w16 := (by obtain ⟨m16, rfl⟩ := hd16; exact pw_below_drewN hb15 m16); clear hd16)) | (go_at_call 37; (with_reducible refine (HS _ (Kd.C_below HR.out hb16)).out.mono ?_); go_must (rintro e w17 ⟨v17, rfl, ⟨A17, c17, rfl, hl17, hC17⟩, hb17'⟩; have HC17 := Aside0.mk hC17; have hb17 := hb16.trans (hb17'.mono hb16.size); clear hC17 hb17')) | (go_at_call 38; (with_reducible refine (HRS _ (Kd.C_below HR.out hb17)).out.mono ?_); go_must (rintro e w18 ⟨v18, rfl, ⟨A18, c18, rfl, hl18, hC18⟩, hb18'⟩; have HC18 := Aside0.mk hC18; have HC1718 := Aside0.mk (Kd.C_below HC17.out hb18'); have hb18 := hb17.trans (hb18'.mono hb17.size); clear hC18 hb18')) | (go_at_call 12; (with_reducible refine (SameBlocks_calls _ _ _ _ _ _ _ HC1718.out HC18.out).mono ?_); go_must (rintro e w19 ⟨rfl, hd19⟩; have hb19 : Below w.heap.size w w19 := (by obtain ⟨m19, rfl⟩ := hd19; exact pw_below_drewN hb18 m19); clear hd19)) | (go_at_call 9; go_must (refine (awake_calls _).mono ?_; rintro e wz ⟨rfl, hbz⟩)))
            all_goals
              go_ret
              exact ⟨rfl, hb19.trans (hbz.mono hb19.size)⟩
      · have hE3 : ((takeF b l m).2 == 0) = false := by simpa using hE2
        have hap1' : ¬ (2 < ((apartF (putF b l m k) l : Nat) : Int)) := by omega
        clear hE hE2 hp1 hv hv1 hf1 hkl hap1
        generalize (putF b l m k) = X1 at HP HRP HKX HWANT0 hap1'
        generalize (takeF b l m).1.1 = X2 at HT HRT
        generalize (takeF b l m).1.2 = K2 at HT HRT
        generalize (takeF b l m).2 = E2 at HT HRT hE3
        generalize hW1 : X1.flatten = WN1 at HKX HWANT0
        generalize l.flatten = L at HKR HWANT0 hfew hM0
        subst hmM
        have HWANT := HWANT0
        clear hW1 HWANT0
        have hm2 : (M : Int) ≤ (L.length : Int) := by omega
        have hm0 : (0 : Int) ≤ (M : Int) := by omega
        go_enter Try.func8, Try.ntmps8
        go_wp2_with (first | (go_at_call 16; (with_reducible refine (HLA _ HR.out).out.mono ?_); go_must (rintro e w1 ⟨rfl, hd1⟩; have hb1 : Below w.heap.size w w1 := (by obtain ⟨m1, rfl⟩ := hd1; exact pw_below_drewN (Below.refl w.heap.size w) m1); clear hd1)) | (go_at_call 33; (with_reducible refine (HP _ (Kd.C_below HR.out hb1)).out.mono ?_); go_must (rintro e w2 ⟨v2, rfl, ⟨A2, c2, rfl, hl2, hC2⟩, hb2'⟩; have HC2 := Aside0.mk hC2; have hb2 := hb1.trans (hb2'.mono hb1.size); clear hC2 hb2')) | (go_at_call 34; (with_reducible refine (HRP _ (Kd.C_below HR.out hb2)).out.mono ?_); go_must (rintro e w3 ⟨v3, rfl, ⟨A3, c3, rfl, hl3, hC3⟩, hb3'⟩; have HC3 := Aside0.mk hC3; have HC23 := Aside0.mk (Kd.C_below HC2.out hb3'); have hb3 := hb2.trans (hb3'.mono hb2.size); clear hC3 hb3')) | (go_at_call 12; (with_reducible refine (SameBlocks_calls _ _ _ _ _ _ _ HC23.out HC3.out).mono ?_); go_must (rintro e w4 ⟨rfl, hd4⟩; have hb34 : Below w3.heap.size w3 w4 := (by obtain ⟨m4, rfl⟩ := hd4; exact pw_below_drewN (Below.refl _ _) m4); have HC24 := Aside0.mk (Kd.C_below HC23.out hb34); have hb4 := hb3.trans (hb34.mono hb3.size); clear hd4 hb34)) | (go_at_call 20; (with_reducible refine (HKR _ (Kd.C_below HR.out hb4)).out.mono ?_); go_must (rintro e w5 ⟨A5, c5, rfl, hl5, HC5, hb5'⟩; have HC25 := Aside0.mk (Kd.C_below HC24.out hb5'); have hb5 := hb4.trans (hb5'.mono hb4.size); clear hb5')) | (go_at_call 13; (with_reducible refine (HKX _ _ _ HC25.out).out.mono ?_); go_must (rintro e w6 ⟨v6, rfl, ho6, hb6'⟩; obtain ⟨A6, c6, e6, _, hC6⟩ := OI_reads ho6; subst e6; have HC6 := Aside0.mk hC6; have HC26 := Aside0.mk (Kd.C_below HC25.out hb6'); have HC56 := Aside0.mk (Kd.C_below HC5.out hb6'); have hb6 := hb5.trans (hb6'.mono hb5.size); clear hC6 ho6 hb6')))
        have hKK0 := fun X : World => Aside0.mk (OwnS_new X 3 [.int .i64 k] (by simp) (by simp) (by simp [Value.oneCell']))
        have hOA : Aside0 (OI (w6.alloc (.cells #[] 3)).drew w6.heap.size (.slice (some ⟨w6.heap.size, 0, none⟩) 0 0) []) := ⟨OI_below (OI_empty (Nat.le_refl _)) (below_drew (Below.refl _ _))⟩
        have hOB : Aside0 (OI ((w6.alloc (.cells #[] 3)).alloc (.cells #[.int .i64 k] 3)).drew w6.heap.size (.slice (some ⟨w6.heap.size, 0, none⟩) 0 0) []) := ⟨OI_below (OI_empty (Nat.le_refl _)) (below_drew (below_alloc (Below.refl _ _) _))⟩
        have hOC : Aside0 (OI ((w6.alloc (.cells #[.int .i64 k] 3)).alloc (.cells #[] 3)).drew w6.heap.size (.slice (some ⟨w6.heap.size + 1, 0, none⟩) 0 0) []) := ⟨by
          have := OI_empty (w := w6.alloc (.cells #[.int .i64 k] 3)) (base := w6.heap.size) (by simp)
          rw [World.size_alloc] at this
          exact OI_below this (below_drew (Below.refl _ _))⟩
        have hKB : Aside0 (OwnS ((w6.alloc (.cells #[] 3)).alloc (.cells #[.int .i64 k] 3)).drew 0 3 (.slice (some ⟨w6.heap.size + 1, 0, none⟩) 1 1) (ints [k])) := ⟨by
          have := (hKK0 (w6.alloc (.cells #[] 3))).out
          rw [World.size_alloc] at this
          exact (this.kept (grown_of_below (below_drew (Below.refl _ _)) none) (by simp [Value.ownBlock])).low (Nat.zero_le _)⟩
        have hKC : Aside0 (OwnS ((w6.alloc (.cells #[.int .i64 k] 3)).alloc (.cells #[] 3)).drew 0 3 (.slice (some ⟨w6.heap.size, 0, none⟩) 1 1) (ints [k])) := ⟨by
          have := (hKK0 w6).out
          exact (this.kept (grown_of_below (below_drew (below_alloc (Below.refl _ _) _)) none) (by simp [Value.ownBlock])).low (Nat.zero_le _)⟩
        have HTk : Aside0 (Kd.C (Kd.int .i64) w6 A5 M (L.take M)) := ⟨by
          have := Kd.C_take HC56.out (show M ≤ L.length by omega)
          rwa [show (L.take M).length = M by rw [List.length_take]; omega] at this⟩
        have HDk : Aside0 (Kd.C (Kd.int .i64) w6 (if c5 = M then A5 else A5.map (·.add M)) (L.length - M) (L.drop M)) := ⟨by
          have := Kd.C_drop HC56.out (show M ≤ L.length by omega) hl5
          rwa [List.length_drop, show M * (Kd.int .i64).sz = M from Nat.mul_one M] at this⟩
        have hm3 : (M : Int) ≤ (c5 : Int) := by omega
        have hbb6 : Below w6.heap.size w6 w6 := Below.refl _ _
        go_region_held3 (fun w' => Below w6.heap.size w6 w') ((repeat first | exact hbb6 | exact hbr3 | exact hbr2 | exact hbr1 | refine below_drew ?_ | refine below_alloc ?_ _)) (first
          | (refine Kd.R_append_rows_step (Kd.int .i64) (w0 := w6) w6.heap.size (by rfl) (.tmp 68) (.tmp 71) 22 3 (.int .i64 0) 8 rfl Try.underlying22 infoA3 rfl (by decide) (by omega) _ [] (L.take M) _ _ _ Tr (fun _ => False) rfl rfl ?bO ?bR (fun _ _ h => h) (fun _ h => h.elim) (fun _ _ => trivial) ‹Below w6.heap.size w6 _› (‹Below w6.heap.size w6 _›).size ?bL ?_; (case bO => first | exact hOA.out | exact hOB.out | exact hOC.out); (case bR => exact Kd.C_below HTk.out ‹Below w6.heap.size w6 _›); (case bL => simp; omega); intro vr1 wr1 ho1 hbr1 hg1 hat1; have HO1 := Aside0.mk ho1; have HG1 := Aside0.mk hg1; clear ho1 hg1 hat1)
          | (refine Kd.R_append_rows_step (Kd.int .i64) (w0 := w6) w6.heap.size (by rfl) (.tmp 72) (.tmp 74) 22 3 (.int .i64 0) 8 rfl Try.underlying22 infoA3 rfl (by decide) (by omega) _ ([] ++ L.take M) [k] _ _ _ Tr (fun _ => False) rfl rfl ?bO ?bR (fun _ _ h => h) (fun _ h => h.elim) (fun _ _ => trivial) ‹Below w6.heap.size w6 _› (‹Below w6.heap.size w6 _›).size ?bL ?_; (case bO => first | exact HO1.out | exact OI_below HO1.out (below_alloc (Below.refl _ _) _)); (case bR => first | exact (hKK0 wr1).out.C1 | exact (hKB.out.kept HG1.out (by show some (w6.heap.size + 1) ≠ some w6.heap.size; simp)).C1 | exact (hKC.out.kept HG1.out (by show some w6.heap.size ≠ some (w6.heap.size + 1); simp)).C1); (case bL => simp; omega); intro vr2 wr2 ho2 hbr2 hg2 hat2; have HO2 := Aside0.mk ho2; clear ho2 hg2 hat2)
          | (refine Kd.R_append_rows_step (Kd.int .i64) (w0 := w6) w6.heap.size (by rfl) (.tmp 75) (.tmp 78) 22 3 (.int .i64 0) 8 rfl Try.underlying22 infoA3 rfl (by decide) (by omega) _ ([] ++ L.take M ++ [k]) (L.drop M) _ _ _ Tr (fun _ => False) rfl rfl HO2.out ?bR (fun _ _ h => h) (fun _ h => h.elim) (fun _ _ => trivial) ‹Below w6.heap.size w6 _› (‹Below w6.heap.size w6 _›).size ?bL ?_; (case bR => exact Kd.C_below HDk.out ‹Below w6.heap.size w6 _›); (case bL => simp; omega); intro v7 w7 ho7 hbr3 hg7 hat7; have HO7 := Aside0.mk ho7; clear ho7 hg7 hat7))
        all_goals
          rename_i KK hKK hHH
          refine hKK _ _ ?_
          clear hKK KK hHH hOA hOB hOC hKB hKC hKK0 HTk HDk
          have hb7 := hb6.trans (hbr3.mono hb6.size)
          obtain ⟨A7, c7, e7, _, hC7⟩ := OI_reads HO7.out
          have hW7 : [] ++ L.take M ++ [k] ++ L.drop M = L.take M ++ k :: L.drop M := by simp
          rw [hW7, ← HWANT.out] at e7 hC7
          subst e7
          have HC7 := Aside0.mk hC7
          have HC67 := Aside0.mk (Kd.C_below HC6.out hbr3)
          have HC27 := Aside0.mk (Kd.C_below HC26.out hbr3)
          have HC57 := Aside0.mk (Kd.C_below HC56.out hbr3)
          clear hC7 hW7 hbr3
        all_goals
          go_wp2_with (first | (go_at_call 14; (with_reducible refine (SameInts_calls _ _ _ _ _ _ _ HC67.out HC7.out).mono ?_); go_must (rintro e w8 ⟨rfl, hd8⟩; have hb78 : Below w7.heap.size w7 w8 := (by obtain ⟨m8, rfl⟩ := hd8; exact pw_below_drewN (Below.refl _ _) m8); have HC28 := Aside0.mk (Kd.C_below HC27.out hb78); have HC58 := Aside0.mk (Kd.C_below HC57.out hb78); have hb8 := hb7.trans (hb78.mono hb7.size); clear hd8 hb78)) | (go_at_call 35; (with_reducible refine (apart_calls _ _ _ _ _ _ _ HC28.out (Kd.C_below HR.out hb8)).mono ?_); go_must (rintro e w9 ⟨rfl, hd9⟩; have hb89 : Below w8.heap.size w8 w9 := (by obtain ⟨m9, rfl⟩ := hd9; exact pw_below_drewN (Below.refl _ _) m9); have HC59 := Aside0.mk (Kd.C_below HC58.out hb89); have hb9 := hb8.trans (hb89.mono hb8.size); clear hd9 hb89)) | (go_at_call 32; (with_reducible refine (HT _ (Kd.C_below HR.out hb9)).out.mono ?_); go_must (rintro e w10 ⟨v10, rfl, ⟨A10, c10, rfl, hl10, hC10⟩, hb10'⟩; have HC10 := Aside0.mk hC10; have HC510 := Aside0.mk (Kd.C_below HC59.out hb10'); have hb10 := hb9.trans (hb10'.mono hb9.size); clear hC10 hb10')) | (go_at_call 36; (with_reducible refine (HRT _ (Kd.C_below HR.out hb10)).out.mono ?_); go_must (rintro e w11 ⟨v11, rfl, ⟨A11, c11, rfl, hl11, hC11⟩, hb11'⟩; have HC11 := Aside0.mk hC11; have HC1011 := Aside0.mk (Kd.C_below HC10.out hb11'); have HC511 := Aside0.mk (Kd.C_below HC510.out hb11'); have hb11 := hb10.trans (hb11'.mono hb10.size); clear hC11 hb11')) | (go_at_call 12; (with_reducible refine (SameBlocks_calls _ _ _ _ _ _ _ HC1011.out HC11.out).mono ?_); go_must (rintro e w12 ⟨rfl, hd12⟩; have hb1112 : Below w11.heap.size w11 w12 := (by obtain ⟨m12, rfl⟩ := hd12; exact pw_below_drewN (Below.refl _ _) m12); have HC1012 := Aside0.mk (Kd.C_below HC1011.out hb1112); have HC512 := Aside0.mk (Kd.C_below HC511.out hb1112); have hb12 := hb11.trans (hb1112.mono hb11.size); clear hd12 hb1112)) | (go_at_call 37; (with_reducible refine (HS _ (Kd.C_below HR.out hb12)).out.mono ?_); go_must (rintro e w17 ⟨v17, rfl, ⟨A17, c17, rfl, hl17, hC17⟩, hb17'⟩; have HC17 := Aside0.mk hC17; have hb17 := hb12.trans (hb17'.mono hb12.size); clear hC17 hb17')) | (go_at_call 38; (with_reducible refine (HRS _ (Kd.C_below HR.out hb17)).out.mono ?_); go_must (rintro e w18 ⟨v18, rfl, ⟨A18, c18, rfl, hl18, hC18⟩, hb18'⟩; have HC18 := Aside0.mk hC18; have HC1718 := Aside0.mk (Kd.C_below HC17.out hb18'); have hb18 := hb17.trans (hb18'.mono hb17.size); clear hC18 hb18')) | (go_at_call 12; (with_reducible refine (SameBlocks_calls _ _ _ _ _ _ _ HC1718.out HC18.out).mono ?_); go_must (rintro e w19 ⟨rfl, hd19⟩; have hb19 : Below w.heap.size w w19 := (by obtain ⟨m19, rfl⟩ := hd19; exact pw_below_drewN hb18 m19); clear hd19)) | (go_at_call 9; go_must (refine (awake_calls _).mono ?_; rintro e wz ⟨rfl, hbz⟩)))
          all_goals
            go_ret
            exact ⟨rfl, hb19.trans (hbz.mono hb19.size)⟩
    · have hE4 : ((putAF b l m k).2 == 0) = false := by simpa using hE
      generalize (putAF b l m k).1 = X1 at HP HRP
      generalize (putAF b l m k).2 = E1 at HP HRP hE4
      clear hE
      by_cases hE2 : (takeF b l m).2 = 0
      · obtain ⟨M, hmM, hM1, hv, hp2, hv2, hf2, hk2, hap2⟩ := take_ok hE2
        have hkl : keysF b l = l.flatten := by unfold keysF; rw [if_pos hv]
        have hfew := valid_few hv
        rw [hkl, hv] at HKR
        have HKY := fun A1 c1 W h => Aside0.mk (Keys_calls b A1 c1 (remF b l m).1 W h)
        rw [show keysF b (remF b l m).1 = (remF b l m).1.flatten by unfold keysF; rw [if_pos hv2], hv2] at HKY
        rw [hE2, hp2] at HT HRT
        have HWANT20 := Aside0.mk hf2
        have HK2E0 := Aside0.mk hk2
        have hap2' : ¬ (2 < ((apartF (remF b l m).1 l : Nat) : Int)) := by omega
        clear hE2 hp2 hv hv2 hf2 hk2 hkl hap2
        generalize (remF b l m).1 = X2 at HT HRT HKY HWANT20 hap2'
        generalize (remF b l m).2 = K2 at HT HRT HK2E0
        generalize hW2 : X2.flatten = WN2 at HKY HWANT20
        generalize l.flatten = L at HKR HWANT20 HK2E0 hfew hM1
        subst hmM
        have HWANT2 := HWANT20
        have HK2E := HK2E0
        clear hW2 HWANT20 HK2E0
        have hm2 : (M : Int) ≤ (L.length : Int) := by omega
        have hm0 : (0 : Int) ≤ (M : Int) := by omega
        go_enter Try.func8, Try.ntmps8
        go_wp2_with (first | (go_at_call 16; (with_reducible refine (HLA _ HR.out).out.mono ?_); go_must (rintro e w1 ⟨rfl, hd1⟩; have hb1 : Below w.heap.size w w1 := (by obtain ⟨m1, rfl⟩ := hd1; exact pw_below_drewN (Below.refl w.heap.size w) m1); clear hd1)) | (go_at_call 33; (with_reducible refine (HP _ (Kd.C_below HR.out hb1)).out.mono ?_); go_must (rintro e w2 ⟨v2, rfl, ⟨A2, c2, rfl, hl2, hC2⟩, hb2'⟩; have HC2 := Aside0.mk hC2; have hb2 := hb1.trans (hb2'.mono hb1.size); clear hC2 hb2')) | (go_at_call 34; (with_reducible refine (HRP _ (Kd.C_below HR.out hb2)).out.mono ?_); go_must (rintro e w3 ⟨v3, rfl, ⟨A3, c3, rfl, hl3, hC3⟩, hb3'⟩; have HC3 := Aside0.mk hC3; have HC23 := Aside0.mk (Kd.C_below HC2.out hb3'); have hb3 := hb2.trans (hb3'.mono hb2.size); clear hC3 hb3')) | (go_at_call 12; (with_reducible refine (SameBlocks_calls _ _ _ _ _ _ _ HC23.out HC3.out).mono ?_); go_must (rintro e w4 ⟨rfl, hd4⟩; have hb34 : Below w3.heap.size w3 w4 := (by obtain ⟨m4, rfl⟩ := hd4; exact pw_below_drewN (Below.refl _ _) m4); have HC24 := Aside0.mk (Kd.C_below HC23.out hb34); have hb4 := hb3.trans (hb34.mono hb3.size); clear hd4 hb34)) | (go_at_call 20; (with_reducible refine (HKR _ (Kd.C_below HR.out hb4)).out.mono ?_); go_must (rintro e w5 ⟨A5, c5, rfl, hl5, HC5, hb5'⟩; have HC25 := Aside0.mk (Kd.C_below HC24.out hb5'); have hb5 := hb4.trans (hb5'.mono hb4.size); clear hb5')) | (go_at_call 32; (with_reducible refine (HT _ (Kd.C_below HR.out hb5)).out.mono ?_); go_must (rintro e w10 ⟨v10, rfl, ⟨A10, c10, rfl, hl10, hC10⟩, hb10'⟩; have HC10 := Aside0.mk hC10; have HC510 := Aside0.mk (Kd.C_below HC5.out hb10'); have hb10 := hb5.trans (hb10'.mono hb5.size); clear hC10 hb10')) | (go_at_call 36; (with_reducible refine (HRT _ (Kd.C_below HR.out hb10)).out.mono ?_); go_must (rintro e w11 ⟨v11, rfl, ⟨A11, c11, rfl, hl11, hC11⟩, hb11'⟩; have HC11 := Aside0.mk hC11; have HC1011 := Aside0.mk (Kd.C_below HC10.out hb11'); have HC511 := Aside0.mk (Kd.C_below HC510.out hb11'); have hb11 := hb10.trans (hb11'.mono hb10.size); clear hC11 hb11')) | (go_at_call 12; (with_reducible refine (SameBlocks_calls _ _ _ _ _ _ _ HC1011.out HC11.out).mono ?_); go_must (rintro e w12 ⟨rfl, hd12⟩; have hb1112 : Below w11.heap.size w11 w12 := (by obtain ⟨m12, rfl⟩ := hd12; exact pw_below_drewN (Below.refl _ _) m12); have HC1012 := Aside0.mk (Kd.C_below HC1011.out hb1112); have HC512 := Aside0.mk (Kd.C_below HC511.out hb1112); have hb12 := hb11.trans (hb1112.mono hb11.size); clear hd12 hb1112)) | (go_at_call 13; (with_reducible refine (HKY _ _ _ HC1012.out).out.mono ?_); go_must (rintro e w13 ⟨v13, rfl, ho13, hb13'⟩; obtain ⟨A13, c13, e13, _, hC13⟩ := OI_reads ho13; subst e13; have HC13 := Aside0.mk hC13; have HC1013 := Aside0.mk (Kd.C_below HC1012.out hb13'); have HC513 := Aside0.mk (Kd.C_below HC512.out hb13'); have hb13 := hb12.trans (hb13'.mono hb12.size); clear hC13 ho13 hb13')))
        obtain ⟨ad5, x5, hA5, hd5, hcell5⟩ := C_int HC513.out M hM1
        subst hA5
        have hx5 : x5 = K2 := by rw [HK2E.out, List.getD_eq_getElem?_getD, List.getElem?_eq_getElem hM1]; rw [List.drop_eq_getElem_cons hM1] at hd5; injection hd5 with h9 _; rw [← h9]; rfl
        subst hx5
        clear hd5
        have hOA : Aside0 (OI (w13.alloc (.cells #[] 3)).drew w13.heap.size (.slice (some ⟨w13.heap.size, 0, none⟩) 0 0) []) := ⟨OI_below (OI_empty (Nat.le_refl _)) (below_drew (Below.refl _ _))⟩
        have HTk : Aside0 (Kd.C (Kd.int .i64) w13 (some ad5) M (L.take M)) := ⟨by
          have := Kd.C_take HC513.out (show M ≤ L.length by omega)
          rwa [show (L.take M).length = M by rw [List.length_take]; omega] at this⟩
        have HDk : Aside0 (Kd.C (Kd.int .i64) w13 (if c5 = M + 1 then some ad5 else some { block := ad5.block, off := ad5.off + (M + 1) }) (L.length - (M + 1)) (L.drop (M + 1))) := ⟨by
          have := Kd.C_drop (c := c5) HC513.out (show M + 1 ≤ L.length by omega) hl5
          rw [List.length_drop] at this
          split
          · rename_i e; rwa [if_pos e] at this
          · rename_i e
            rw [if_neg e, show (M + 1) * (Kd.int .i64).sz = M + 1 from Nat.mul_one _] at this
            simpa [Addr.add] using this⟩
        have hm3 : (M : Int) ≤ (c5 : Int) := by omega
        have hm4 : IntKind.i64.wrap ((M : Int) + 1) = (M : Int) + 1 := wrap_small _ (by omega) (by omega)
        have hm5 : (M : Int) + 1 ≤ (L.length : Int) := by omega
        have hm6 : (0 : Int) ≤ (M : Int) + 1 := by omega
        have hm7 : (L.length : Int) ≤ (c5 : Int) := by omega
        have hm8 : (M : Int) < (L.length : Int) := by omega
        have hbb13 : Below w13.heap.size w13 w13 := Below.refl _ _
        go_region_held3 (fun w' => Below w13.heap.size w13 w') ((repeat first | exact hbb13 | exact hbs3 | exact hbs1 | refine below_drew ?_ | refine below_alloc ?_ _)) (first
          | (refine Kd.R_append_rows_step (Kd.int .i64) (w0 := w13) w13.heap.size (by rfl) (.tmp 132) (.tmp 135) 22 3 (.int .i64 0) 8 rfl Try.underlying22 infoA3 rfl (by decide) (by omega) _ [] (L.take M) _ _ _ Tr (fun _ => False) rfl rfl hOA.out ?bR (fun _ _ h => h) (fun _ h => h.elim) (fun _ _ => trivial) ‹Below w13.heap.size w13 _› (‹Below w13.heap.size w13 _›).size ?bL ?_; (case bR => exact Kd.C_below HTk.out ‹Below w13.heap.size w13 _›); (case bL => simp; omega); intro vs1 ws1 ho1 hbs1 hg1 hat1; have HO21 := Aside0.mk ho1; clear ho1 hg1 hat1)
          | (refine Kd.R_append_rows_step (Kd.int .i64) (w0 := w13) w13.heap.size (by rfl) (.tmp 136) (.tmp 140) 22 3 (.int .i64 0) 8 rfl Try.underlying22 infoA3 rfl (by decide) (by omega) _ ([] ++ L.take M) (L.drop (M + 1)) _ _ _ Tr (fun _ => False) rfl rfl HO21.out ?bR (fun _ _ h => h) (fun _ h => h.elim) (fun _ _ => trivial) ‹Below w13.heap.size w13 _› (‹Below w13.heap.size w13 _›).size ?bL ?_; (case bR => exact Kd.C_below HDk.out ‹Below w13.heap.size w13 _›); (case bL => simp; omega); intro v14 w14 ho14 hbs3 hg14 hat14; have HO14 := Aside0.mk ho14; clear ho14 hg14 hat14))
        all_goals
          rename_i KK hKK hHH
          refine hKK _ _ ?_
          clear hKK KK hHH hOA HTk HDk
          have hb14 := hb13.trans (hbs3.mono hb13.size)
          obtain ⟨A14, c14, e14, _, hC14⟩ := OI_reads HO14.out
          have hW14 : [] ++ L.take M ++ L.drop (M + 1) = L.eraseIdx M := by rw [List.eraseIdx_eq_take_drop_succ]; simp
          rw [hW14, ← HWANT2.out] at e14 hC14
          subst e14
          have HC14 := Aside0.mk hC14
          have HC1314 := Aside0.mk (Kd.C_below HC13.out hbs3)
          have HC1014 := Aside0.mk (Kd.C_below HC1013.out hbs3)
          have hcell14 := pw_cell_below hbs3 hcell5
          clear hC14 hW14 hbs3 hcell5 hm3 hm5 hm7
        all_goals
          go_wp2_with (first | (go_at_call 14; (with_reducible refine (SameInts_calls _ _ _ _ _ _ _ HC1314.out HC14.out).mono ?_); go_must (rintro e w15 ⟨rfl, hd15⟩; have hb1415 : Below w14.heap.size w14 w15 := (by obtain ⟨m15, rfl⟩ := hd15; exact pw_below_drewN (Below.refl _ _) m15); have HC1015 := Aside0.mk (Kd.C_below HC1014.out hb1415); have hb15 := hb14.trans (hb1415.mono hb14.size); clear hd15 hb1415)) | (go_at_call 35; (with_reducible refine (apart_calls _ _ _ _ _ _ _ HC1015.out (Kd.C_below HR.out hb15)).mono ?_); go_must (rintro e w16 ⟨rfl, hd16⟩; have hb16 : Below w.heap.size w w16 := (by obtain ⟨m16, rfl⟩ := hd16; exact pw_below_drewN hb15 m16); clear hd16)) | (go_at_call 37; (with_reducible refine (HS _ (Kd.C_below HR.out hb16)).out.mono ?_); go_must (rintro e w17 ⟨v17, rfl, ⟨A17, c17, rfl, hl17, hC17⟩, hb17'⟩; have HC17 := Aside0.mk hC17; have hb17 := hb16.trans (hb17'.mono hb16.size); clear hC17 hb17')) | (go_at_call 38; (with_reducible refine (HRS _ (Kd.C_below HR.out hb17)).out.mono ?_); go_must (rintro e w18 ⟨v18, rfl, ⟨A18, c18, rfl, hl18, hC18⟩, hb18'⟩; have HC18 := Aside0.mk hC18; have HC1718 := Aside0.mk (Kd.C_below HC17.out hb18'); have hb18 := hb17.trans (hb18'.mono hb17.size); clear hC18 hb18')) | (go_at_call 12; (with_reducible refine (SameBlocks_calls _ _ _ _ _ _ _ HC1718.out HC18.out).mono ?_); go_must (rintro e w19 ⟨rfl, hd19⟩; have hb19 : Below w.heap.size w w19 := (by obtain ⟨m19, rfl⟩ := hd19; exact pw_below_drewN hb18 m19); clear hd19)) | (go_at_call 9; go_must (refine (awake_calls _).mono ?_; rintro e wz ⟨rfl, hbz⟩)))
          all_goals
            go_ret
            exact ⟨rfl, hb19.trans (hbz.mono hb19.size)⟩
      · have hE3 : ((takeF b l m).2 == 0) = false := by simpa using hE2
        generalize (takeF b l m).1.1 = X2 at HT HRT
        generalize (takeF b l m).1.2 = K2 at HT HRT
        generalize (takeF b l m).2 = E2 at HT HRT hE3
        generalize okE (validB b l) = EK at HKR
        generalize keysF b l = L at HKR
        clear hE2
        go_enter Try.func8, Try.ntmps8
        go_wp2_with (first | (go_at_call 16; (with_reducible refine (HLA _ HR.out).out.mono ?_); go_must (rintro e w1 ⟨rfl, hd1⟩; have hb1 : Below w.heap.size w w1 := (by obtain ⟨m1, rfl⟩ := hd1; exact pw_below_drewN (Below.refl w.heap.size w) m1); clear hd1)) | (go_at_call 33; (with_reducible refine (HP _ (Kd.C_below HR.out hb1)).out.mono ?_); go_must (rintro e w2 ⟨v2, rfl, ⟨A2, c2, rfl, hl2, hC2⟩, hb2'⟩; have HC2 := Aside0.mk hC2; have hb2 := hb1.trans (hb2'.mono hb1.size); clear hC2 hb2')) | (go_at_call 34; (with_reducible refine (HRP _ (Kd.C_below HR.out hb2)).out.mono ?_); go_must (rintro e w3 ⟨v3, rfl, ⟨A3, c3, rfl, hl3, hC3⟩, hb3'⟩; have HC3 := Aside0.mk hC3; have HC23 := Aside0.mk (Kd.C_below HC2.out hb3'); have hb3 := hb2.trans (hb3'.mono hb2.size); clear hC3 hb3')) | (go_at_call 12; (with_reducible refine (SameBlocks_calls _ _ _ _ _ _ _ HC23.out HC3.out).mono ?_); go_must (rintro e w4 ⟨rfl, hd4⟩; have hb34 : Below w3.heap.size w3 w4 := (by obtain ⟨m4, rfl⟩ := hd4; exact pw_below_drewN (Below.refl _ _) m4); have HC24 := Aside0.mk (Kd.C_below HC23.out hb34); have hb4 := hb3.trans (hb34.mono hb3.size); clear hd4 hb34)) | (go_at_call 20; (with_reducible refine (HKR _ (Kd.C_below HR.out hb4)).out.mono ?_); go_must (rintro e w5 ⟨A5, c5, rfl, hl5, HC5, hb5'⟩; have HC25 := Aside0.mk (Kd.C_below HC24.out hb5'); have hb5 := hb4.trans (hb5'.mono hb4.size); clear hb5')) | (go_at_call 32; (with_reducible refine (HT _ (Kd.C_below HR.out hb5)).out.mono ?_); go_must (rintro e w10 ⟨v10, rfl, ⟨A10, c10, rfl, hl10, hC10⟩, hb10'⟩; have HC10 := Aside0.mk hC10; have HC510 := Aside0.mk (Kd.C_below HC5.out hb10'); have hb10 := hb5.trans (hb10'.mono hb5.size); clear hC10 hb10')) | (go_at_call 36; (with_reducible refine (HRT _ (Kd.C_below HR.out hb10)).out.mono ?_); go_must (rintro e w11 ⟨v11, rfl, ⟨A11, c11, rfl, hl11, hC11⟩, hb11'⟩; have HC11 := Aside0.mk hC11; have HC1011 := Aside0.mk (Kd.C_below HC10.out hb11'); have HC511 := Aside0.mk (Kd.C_below HC510.out hb11'); have hb11 := hb10.trans (hb11'.mono hb10.size); clear hC11 hb11')) | (go_at_call 12; (with_reducible refine (SameBlocks_calls _ _ _ _ _ _ _ HC1011.out HC11.out).mono ?_); go_must (rintro e w12 ⟨rfl, hd12⟩; have hb1112 : Below w11.heap.size w11 w12 := (by obtain ⟨m12, rfl⟩ := hd12; exact pw_below_drewN (Below.refl _ _) m12); have HC1012 := Aside0.mk (Kd.C_below HC1011.out hb1112); have HC512 := Aside0.mk (Kd.C_below HC511.out hb1112); have hb12 := hb11.trans (hb1112.mono hb11.size); clear hd12 hb1112)) | (go_at_call 37; (with_reducible refine (HS _ (Kd.C_below HR.out hb12)).out.mono ?_); go_must (rintro e w17 ⟨v17, rfl, ⟨A17, c17, rfl, hl17, hC17⟩, hb17'⟩; have HC17 := Aside0.mk hC17; have hb17 := hb12.trans (hb17'.mono hb12.size); clear hC17 hb17')) | (go_at_call 38; (with_reducible refine (HRS _ (Kd.C_below HR.out hb17)).out.mono ?_); go_must (rintro e w18 ⟨v18, rfl, ⟨A18, c18, rfl, hl18, hC18⟩, hb18'⟩; have HC18 := Aside0.mk hC18; have HC1718 := Aside0.mk (Kd.C_below HC17.out hb18'); have hb18 := hb17.trans (hb18'.mono hb17.size); clear hC18 hb18')) | (go_at_call 12; (with_reducible refine (SameBlocks_calls _ _ _ _ _ _ _ HC1718.out HC18.out).mono ?_); go_must (rintro e w19 ⟨rfl, hd19⟩; have hb19 : Below w.heap.size w w19 := (by obtain ⟨m19, rfl⟩ := hd19; exact pw_below_drewN hb18 m19); clear hd19)) | (go_at_call 9; go_must (refine (awake_calls _).mono ?_; rintro e wz ⟨rfl, hbz⟩)))
        all_goals
          go_ret
          exact ⟨rfl, hb19.trans (hbz.mono hb19.size)⟩
end Go.Proofs.Ytjpobhdgfdeenaa.A
