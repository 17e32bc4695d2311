/- The law of halves of package array walked: it is true for every argument. -/
import Derived.Deep.DeepMust
import Derived.Test.YtjpobhdgfdeenaaM7
import Derived.Test.YtjpobhdgfdeenaaM11
set_option linter.unusedVariables false
set_option linter.unusedSimpArgs false
namespace Go.Proofs.Ytjpobhdgfdeenaa.A
open Go.RowKit Go.Proofs.YtjpobhdgfdeenaaW.PrintWords Go.Maps

theorem conv_at (x : Int) (n : Nat) (hn : n ≤ 1000) : ∃ M : Nat, wrap64 ((IntKind.u64.wrap x).tmod (IntKind.u64.wrap (wrap64 ((n : Int) + 1)))) = (M : Int) ∧ M ≤ n ∧ IntKind.u64.wrap (wrap64 ((n : Int) + 1)) ≠ 0 := by
  have h0 := wrap_u64_nonneg x
  have h1 : wrap64 ((n : Int) + 1) = (n : Int) + 1 := by unfold wrap64; omega
  have h2 : IntKind.u64.wrap ((n : Int) + 1) = (n : Int) + 1 := by simp [IntKind.wrap, IntKind.bits, IntKind.signed]; omega
  rw [h1, h2, Int.tmod_eq_emod_of_nonneg h0]
  have h3 := Int.emod_nonneg (IntKind.u64.wrap x) (show ((n : Int) + 1) ≠ 0 by omega)
  have h4 := Int.emod_lt_of_pos (IntKind.u64.wrap x) (show (0 : Int) < (n : Int) + 1 by omega)
  refine ⟨(IntKind.u64.wrap x % ((n : Int) + 1)).toNat, ?_, by omega, by omega⟩
  unfold wrap64
  omega
theorem half_at {b : Int} {l : List (List Int)} {k : Nat} {x y : List Int} (h : HalfP b l) (hx : l.drop k = x :: l.drop (k + 1)) (hy : l.drop (k + 1) = y :: l.drop (k + 1 + 1)) : b / 2 ≤ (x.length : Int) ∨ b / 2 ≤ (y.length : Int) := by
  refine (half_iff b l).1 h (l.take k) x y (l.drop (k + 1 + 1)) ?_
  rw [← hy, ← hx, List.take_append_drop]
theorem makeN_half {b : Int} (hb : 2 ≤ b) (l : List Int) : ∀ i, i ≤ l.length → HalfP b (makeN b l i)
  | 0, _ => trivial
  | i + 1, h => by
    obtain ⟨h1, h2⟩ := makeN_inv hb l i (by omega)
    have hl : (makeN b l i).flatten.length = i := by rw [h1, List.length_take]; omega
    rw [makeN]
    exact putF_half (by omega) (by omega) hb (makeN_half hb l i (by omega))
theorem make_half {b : Int} {l : List Int} (h : makeE b l = 0) : HalfP b (makeA b l) := by
  obtain ⟨h1, h2, h3⟩ := makeE_zero h
  have hb : 2 ≤ b ∧ b ≤ 50 := of_decide_eq_true h2
  rw [makeA_ok h]
  exact makeN_half hb.1 l l.length (Nat.le_refl _)
theorem take_arr {b m : Int} {l : List (List Int)} (h : Arr b l) (h0 : 0 ≤ m) (h1 : m < l.flatten.length) : Arr b (remF b l m).1 ∧ (remF b l m).1.flatten.length ≤ l.flatten.length := by
  have hf := (remF_flat (b := b) h0 h1).1
  have hs : ((l.flatten).eraseIdx m.toNat).Sublist l.flatten := List.eraseIdx_sublist _ _
  refine ⟨⟨h.room, remF_rows h0 h1 h.rows, by rw [hf]; exact h.nodup.sublist hs, fun x hx => h.keys x (by rw [hf] at hx; exact hs.subset hx), by rw [hf]; exact Nat.le_trans hs.length_le h.few⟩, by rw [hf]; exact hs.length_le⟩
theorem put_arr {b m k : Int} {l : List (List Int)} (h : Arr b l) (h0 : 0 ≤ m) (h1 : m ≤ l.flatten.length) (hk : keyB k = true) (hx : k ∉ l.flatten) (hn : l.flatten.length < 500) : Arr b (putF b l m k) ∧ (putF b l m k).flatten.length = l.flatten.length + 1 := by
  have hf := putF_flat b l m k h0 h1
  have hp : (putF b l m k).flatten.Perm (k :: l.flatten) := by
    rw [hf]
    refine List.perm_middle.trans ?_
    rw [List.take_append_drop]
  refine ⟨⟨h.room, putF_rows h.room.1 h.rows h0 h1, hp.nodup_iff.2 (List.nodup_cons.2 ⟨hx, h.nodup⟩), fun x hx' => ?_, by rw [hp.length_eq, List.length_cons]; omega⟩, by rw [hp.length_eq, List.length_cons]⟩
  rcases List.mem_cons.1 (hp.mem_iff.1 hx') with rfl | hx'
  · exact hk
  · exact h.keys x hx'
set_option maxRecDepth 100000 in
set_option maxHeartbeats 4000000 in
theorem lawHalf_row (w : World) (b : Int) (_ : (Lit.int .i64 b).wf = true) (A : Option Addr) (c : Nat) (l : List Int) (hr : Kd.C (Kd.int .i64) w A l.length l) (_ : ∀ n ∈ l, (Lit.int .i64 n).wf = true) (A' : Option Addr) (c' : Nat) (st : List Int) (hr' : Kd.C (Kd.int .i64) w A' st.length st) (_ : ∀ n ∈ st, (Lit.int .i64 n).wf = true) :
    Calls Try.prog 7 #[.int .i64 b, .slice A l.length c, .slice A' st.length c'] w fun e w' => e = .returned (.bool true) ∧ Below w.heap.size w w' := by
  have HR := Aside0.mk hr
  have HR' := Aside0.mk hr'
  have hm := (C_len hr).2
  have hm' := (C_len hr').2
  clear hr hr'
  by_cases h60 : 60 < l.length
  · have h61 : 60 < (l.length : Int) := by omega
    clear h60
    go_enter Try.func7, Try.ntmps7
    go_wp2_with (go_at_call 9; go_must (refine (awake_calls _).mono ?_; rintro e w2 ⟨rfl, hb2⟩))
    go_ret
    exact ⟨rfl, hb2⟩
  · have h61 : ¬ (60 < (l.length : Int)) := by omega
    by_cases s60 : 60 < st.length
    · have s61 : 60 < (st.length : Int) := by omega
      clear h60 s60
      go_enter Try.func7, Try.ntmps7
      go_wp2_with (go_at_call 9; go_must (refine (awake_calls _).mono ?_; rintro e w2 ⟨rfl, hb2⟩))
      go_ret
      exact ⟨rfl, hb2⟩
    · have s61 : ¬ (60 < (st.length : Int)) := by omega
      have HM := Aside0.mk (Make_calls b A c l w HR.out (by omega))
      by_cases hE : makeE b l = 0
      · obtain ⟨harr, hflat⟩ := make_arr hE
        have hfl : (makeA b l).flatten.length ≤ 60 := by rw [hflat]; omega
        rw [hE] at HM
        have HH : Aside0 (HalfP b (makeA b l)) := ⟨make_half hE⟩
        generalize makeA b l = a0 at HM harr hflat hfl HH
        have HA := Aside0.mk harr
        obtain ⟨hb2, hb50⟩ := harr.room
        clear hE harr hflat h60
        go_enter Try.func7, Try.ntmps7
        go_wp2_with (first | (go_at_call 10; go_must (refine HM.out.mono ?_; rintro e w1 ⟨v1, rfl, hra1, hb1⟩; have HC1 := Aside0.mk hra1; clear hra1)))
        go_loopg [7, 9, 10] st.length (fun g v7 v9 v10 wr => ∃ (i n : Nat) (a : List (List Int)), g = st.length - i ∧ i ≤ st.length ∧ n ≤ i ∧ v9 = .int .i64 (900000 + (n : Int)) ∧ v10 = .int .i64 i ∧ Aside0 (RA wr v7 a ∧ Arr b a ∧ HalfP b a) ∧ a.flatten.length ≤ 60 + i ∧ Below w.heap.size w wr)
        case atStart => exact ⟨0, 0, a0, rfl, Nat.zero_le _, Nat.zero_le _, rfl, rfl, ⟨HC1.out, HA.out, HH.out⟩, by omega, hb1⟩
        case round =>
          obtain ⟨i, n, a, hg, hi, hni, rfl, rfl, HI, hfa, hbel⟩ := hrel
          have HG := Aside0.mk hg
          clear hg
          obtain ⟨Av, cv, rfl, hcv, hCv⟩ := HI.out.1
          have HCv := Aside0.mk hCv
          clear hCv
          by_cases hlt : i < st.length
          · have hva := (validB_iff b a).2 HI.out.2.1
            have hkf : keysF b a = a.flatten := by unfold keysF; rw [if_pos hva]
            have HK := fun A1 c1 W h => Aside0.mk (Keys_calls b A1 c1 a W h)
            rw [hva, hkf] at HK
            have HVA := Aside0.mk hva
            clear hkf hva
            obtain ⟨ad, x, hA, hdrop, hcell⟩ := C_int HR'.out i hlt
            subst hA
            have hcell' := pw_cell_below hbel hcell
            clear hdrop
            obtain ⟨L, hL⟩ : ∃ L, L = a.flatten := ⟨_, rfl⟩
            rw [← hL] at HK hfa
            obtain ⟨M, hM, hML, hz1⟩ := conv_at x L.length (by omega)
            have hz2 : (IntKind.u64.wrap (wrap64 ((L.length : Int) + 1)) == 0) = false := by simpa using hz1
            have HL := Aside0.mk hL
            have HFA := Aside0.mk hfa
            have HML := Aside0.mk hML
            have hL100 : Aside0 (L.length ≤ 120) := ⟨by omega⟩
            clear hL hfa hML
            by_cases hneg : x < 0 ∧ M < L.length
            · obtain ⟨hx0, hM1⟩ := hneg
              have hM2 : (M : Int) < (L.length : Int) := by omega
              have hres : takeF b a M = (remF b a M, 0) := by unfold takeF; rw [if_pos HVA.out, if_neg (by rw [← HL.out]; omega)]
              have HT := fun W h => Aside0.mk (Take_calls b M Av cv a W h)
              simp only [hres] at HT
              have hta := take_arr (m := (M : Int)) HI.out.2.1 (by omega) (by rw [← HL.out]; omega)
              have HI1 : Aside0 (Arr b (remF b a M).1 ∧ HalfP b (remF b a M).1) := ⟨hta.1, remF_half (by omega) (by rw [← HL.out]; omega) hb2 HI.out.2.1.rows HI.out.2.2⟩
              have hfa1 : (remF b a M).1.flatten.length ≤ 60 + i := by have := HFA.out; rw [HL.out] at this; omega
              generalize (remF b a M).1 = a1 at HT HI1 hfa1
              generalize (remF b a M).2 = x1 at HT
              clear hres hta hM1
              go_wp2_with (first | (go_at_call 13; go_must (refine (HK _ _ _ HCv.out).out.mono ?_; rintro e w4 ⟨v4, rfl, ho4, hb4'⟩; have hb4 := hbel.trans (hb4'.mono hbel.size); have HC14 := Aside0.mk (Kd.C_below HCv.out hb4'); obtain ⟨A4, c4, e4, _, hC4⟩ := OI_reads ho4; subst e4; have hcell2 := pw_cell_below hb4 hcell; clear hC4 ho4 hb4')) | (go_at_call 32; go_must (refine (HT _ HC14.out).out.mono ?_; rintro e w5 ⟨v5, rfl, hra5, hb5'⟩; have hb5 := hb4.trans (hb5'.mono hb4.size); have HC5 := Aside0.mk hra5; clear hra5 hb5')))
              obtain ⟨A5, c5, rfl, hc5, hC5⟩ := HC5.out
              have HC6 := Aside0.mk hC5
              have hlm5 := (C_len hC5).2
              clear hC5
              have HGH := HG.out
              go_loopg [16] a1.length (fun g v16 wr => ∃ (k : Nat), g = a1.length - k ∧ v16 = .int .i64 ((k : Int) + 1) ∧ k ≤ a1.length ∧ w5 = wr)
              case atStart => exact ⟨0, rfl, by go_num, Nat.zero_le _, rfl⟩
              case round =>
                obtain ⟨k, hgk, rfl, hk, rfl⟩ := hrel
                have HGK := Aside0.mk hgk
                clear hgk
                by_cases hkl : k + 1 < a1.length
                · obtain ⟨ad6, A6, c6, r6, e6, d6, k6, l6, hr6⟩ := C_row HC6.out k (by omega)
                  obtain ⟨ad7, A7, c7, r7, e7, d7, k7, l7, hr7⟩ := C_row HC6.out (k + 1) hkl
                  subst e6
                  injection e7 with e7
                  subst e7
                  have hh := half_at HI1.out.2 d6 d7
                  replace k7 : w5.cell? ⟨ad6.block, ad6.off + (k + 1), none⟩ = some (.slice A7 r7.length c7) := by simpa [Addr.add] using k7
                  have hk1 : (k : Int) + 1 < (a1.length : Int) := by omega
                  have hk2 : IntKind.i64.wrap ((k : Int) + 1 - 1) = (k : Int) := by rw [IntKind.wrap_i64]; omega
                  have hk3 : (k : Int) < (a1.length : Int) := by omega
                  have hk5 : ((k : Int) + 1).toNat = k + 1 := by omega
                  clear d6 d7 hr6 hr7
                  by_cases hx : (r6.length : Int) < b / 2
                  · have hy : ¬ ((r7.length : Int) < b / 2) := by omega
                    clear hh
                    go_wp2
                    go_roundg (a1.length - (k + 1))
                    case measure => have := HGK.out; omega
                    case rel => exact ⟨k + 1, rfl, by go_num, by omega, rfl⟩
                  · clear hh
                    go_wp2
                    go_roundg (a1.length - (k + 1))
                    case measure => have := HGK.out; omega
                    case rel => exact ⟨k + 1, rfl, by go_num, by omega, rfl⟩
                · have hk1 : ¬ ((k : Int) + 1 < (a1.length : Int)) := by omega
                  go_wp2
                  go_roundg (st.length - (i + 1))
                  case measure => have := HG.out; omega
                  case rel => exact ⟨i + 1, n, a1, rfl, by omega, by omega, by first | rfl | go_num, by go_num, ⟨⟨_, _, rfl, hc5, HC6.out⟩, HI1.out.1, HI1.out.2⟩, by omega, hb5⟩
            · have HX := Aside0.mk hneg
              have hdec : ¬ (x < 0) ∨ ¬ ((M : Int) < (L.length : Int)) := by omega
              clear hneg
              have hkey : keyB (900000 + (n : Int) + 1) = true := decide_eq_true (by omega)
              have HP := fun W h => Aside0.mk (Put_calls b M (900000 + (n : Int) + 1) Av cv a W h)
              have h900 : IntKind.i64.wrap (900000 + (n : Int) + 1) = 900000 + (n : Int) + 1 := by rw [IntKind.wrap_i64]; omega
              by_cases hdup : (900000 + (n : Int) + 1) ∈ L
              · have hres : putAF b a M (900000 + (n : Int) + 1) = ([], 6) := by unfold putAF; rw [if_pos ⟨HVA.out, hkey⟩, if_neg (by rw [← HL.out]; have := HML.out; omega), if_pos (by rw [← HL.out]; exact hdup)]
                simp only [hres] at HP
                clear hres hkey hdup
                rcases hdec with hx0 | hM2
                · go_wp2_with (first | (go_at_call 13; go_must (refine (HK _ _ _ HCv.out).out.mono ?_; rintro e w4 ⟨v4, rfl, ho4, hb4'⟩; have hb4 := hbel.trans (hb4'.mono hbel.size); have HC14 := Aside0.mk (Kd.C_below HCv.out hb4'); obtain ⟨A4, c4, e4, _, hC4⟩ := OI_reads ho4; subst e4; have hcell2 := pw_cell_below hb4 hcell; clear hC4 ho4 hb4')) | (go_at_call 33; go_must (refine (HP _ HC14.out).out.mono ?_; rintro e w5 ⟨v5, rfl, hra5, hb5'⟩; have hb5 := hb4.trans (hb5'.mono hb4.size); have hb5x := hb5'; clear hra5 hb5')))
                  go_roundg (st.length - (i + 1))
                  case measure => have := HG.out; omega
                  case rel => exact ⟨i + 1, n + 1, a, rfl, by omega, by omega, by go_num, by go_num, ⟨⟨_, _, rfl, hcv, Kd.C_below HC14.out hb5x⟩, HI.out.2.1, HI.out.2.2⟩, by have := HFA.out; rw [HL.out] at this; omega, hb5⟩
                · by_cases hx0 : x < 0
                  · go_wp2_with (first | (go_at_call 13; go_must (refine (HK _ _ _ HCv.out).out.mono ?_; rintro e w4 ⟨v4, rfl, ho4, hb4'⟩; have hb4 := hbel.trans (hb4'.mono hbel.size); have HC14 := Aside0.mk (Kd.C_below HCv.out hb4'); obtain ⟨A4, c4, e4, _, hC4⟩ := OI_reads ho4; subst e4; have hcell2 := pw_cell_below hb4 hcell; clear hC4 ho4 hb4')) | (go_at_call 33; go_must (refine (HP _ HC14.out).out.mono ?_; rintro e w5 ⟨v5, rfl, hra5, hb5'⟩; have hb5 := hb4.trans (hb5'.mono hb4.size); have hb5x := hb5'; clear hra5 hb5')))
                    go_roundg (st.length - (i + 1))
                    case measure => have := HG.out; omega
                    case rel => exact ⟨i + 1, n + 1, a, rfl, by omega, by omega, by go_num, by go_num, ⟨⟨_, _, rfl, hcv, Kd.C_below HC14.out hb5x⟩, HI.out.2.1, HI.out.2.2⟩, by have := HFA.out; rw [HL.out] at this; omega, hb5⟩
                  · go_wp2_with (first | (go_at_call 13; go_must (refine (HK _ _ _ HCv.out).out.mono ?_; rintro e w4 ⟨v4, rfl, ho4, hb4'⟩; have hb4 := hbel.trans (hb4'.mono hbel.size); have HC14 := Aside0.mk (Kd.C_below HCv.out hb4'); obtain ⟨A4, c4, e4, _, hC4⟩ := OI_reads ho4; subst e4; have hcell2 := pw_cell_below hb4 hcell; clear hC4 ho4 hb4')) | (go_at_call 33; go_must (refine (HP _ HC14.out).out.mono ?_; rintro e w5 ⟨v5, rfl, hra5, hb5'⟩; have hb5 := hb4.trans (hb5'.mono hb4.size); have hb5x := hb5'; clear hra5 hb5')))
                    go_roundg (st.length - (i + 1))
                    case measure => have := HG.out; omega
                    case rel => exact ⟨i + 1, n + 1, a, rfl, by omega, by omega, by go_num, by go_num, ⟨⟨_, _, rfl, hcv, Kd.C_below HC14.out hb5x⟩, HI.out.2.1, HI.out.2.2⟩, by have := HFA.out; rw [HL.out] at this; omega, hb5⟩
              · have hres : putAF b a M (900000 + (n : Int) + 1) = (putF b a M (900000 + (n : Int) + 1), 0) := by unfold putAF; rw [if_pos ⟨HVA.out, hkey⟩, if_neg (by rw [← HL.out]; have := HML.out; omega), if_neg (by rw [← HL.out]; exact hdup), if_neg (by rw [← HL.out]; have := hL100.out; omega)]
                simp only [hres] at HP
                have hta := put_arr (b := b) (m := (M : Int)) HI.out.2.1 (by omega) (by rw [← HL.out]; have := HML.out; omega) hkey (by rw [← HL.out]; exact hdup) (by rw [← HL.out]; have := hL100.out; omega)
                have HI1 : Aside0 (Arr b (putF b a M (900000 + (n : Int) + 1)) ∧ HalfP b (putF b a M (900000 + (n : Int) + 1))) := ⟨hta.1, putF_half (by omega) (by rw [← HL.out]; have := HML.out; omega) hb2 HI.out.2.2⟩
                have hfa1 : (putF b a M (900000 + (n : Int) + 1)).flatten.length ≤ 61 + i := by have := HFA.out; rw [HL.out] at this; omega
                generalize (putF b a M (900000 + (n : Int) + 1)) = a1 at HP HI1 hfa1
                clear hres hta hkey hdup
                by_cases hx0 : x < 0
                · have hM2 : ¬ ((M : Int) < (L.length : Int)) := by omega
                  clear hdec
                  go_wp2_with (first | (go_at_call 13; go_must (refine (HK _ _ _ HCv.out).out.mono ?_; rintro e w4 ⟨v4, rfl, ho4, hb4'⟩; have hb4 := hbel.trans (hb4'.mono hbel.size); have HC14 := Aside0.mk (Kd.C_below HCv.out hb4'); obtain ⟨A4, c4, e4, _, hC4⟩ := OI_reads ho4; subst e4; have hcell2 := pw_cell_below hb4 hcell; clear hC4 ho4 hb4')) | (go_at_call 33; go_must (refine (HP _ HC14.out).out.mono ?_; rintro e w5 ⟨v5, rfl, hra5, hb5'⟩; have hb5 := hb4.trans (hb5'.mono hb4.size); have HC5 := Aside0.mk hra5; clear hra5 hb5')))
                  obtain ⟨A5, c5, rfl, hc5, hC5⟩ := HC5.out
                  have HC6 := Aside0.mk hC5
                  have hlm5 := (C_len hC5).2
                  clear hC5
                  have HGH := HG.out
                  go_loopg [16] a1.length (fun g v16 wr => ∃ (k : Nat), g = a1.length - k ∧ v16 = .int .i64 ((k : Int) + 1) ∧ k ≤ a1.length ∧ w5 = wr)
                  case atStart => exact ⟨0, rfl, by go_num, Nat.zero_le _, rfl⟩
                  case round =>
                    obtain ⟨k, hgk, rfl, hk, rfl⟩ := hrel
                    have HGK := Aside0.mk hgk
                    clear hgk
                    by_cases hkl : k + 1 < a1.length
                    · obtain ⟨ad6, A6, c6, r6, e6, d6, k6, l6, hr6⟩ := C_row HC6.out k (by omega)
                      obtain ⟨ad7, A7, c7, r7, e7, d7, k7, l7, hr7⟩ := C_row HC6.out (k + 1) hkl
                      subst e6
                      injection e7 with e7
                      subst e7
                      have hh := half_at HI1.out.2 d6 d7
                      replace k7 : w5.cell? ⟨ad6.block, ad6.off + (k + 1), none⟩ = some (.slice A7 r7.length c7) := by simpa [Addr.add] using k7
                      have hk1 : (k : Int) + 1 < (a1.length : Int) := by omega
                      have hk2 : IntKind.i64.wrap ((k : Int) + 1 - 1) = (k : Int) := by rw [IntKind.wrap_i64]; omega
                      have hk3 : (k : Int) < (a1.length : Int) := by omega
                      have hk5 : ((k : Int) + 1).toNat = k + 1 := by omega
                      clear d6 d7 hr6 hr7
                      by_cases hx : (r6.length : Int) < b / 2
                      · have hy : ¬ ((r7.length : Int) < b / 2) := by omega
                        clear hh
                        go_wp2
                        go_roundg (a1.length - (k + 1))
                        case measure => have := HGK.out; omega
                        case rel => exact ⟨k + 1, rfl, by go_num, by omega, rfl⟩
                      · clear hh
                        go_wp2
                        go_roundg (a1.length - (k + 1))
                        case measure => have := HGK.out; omega
                        case rel => exact ⟨k + 1, rfl, by go_num, by omega, rfl⟩
                    · have hk1 : ¬ ((k : Int) + 1 < (a1.length : Int)) := by omega
                      go_wp2
                      go_roundg (st.length - (i + 1))
                      case measure => have := HG.out; omega
                      case rel => exact ⟨i + 1, n + 1, a1, rfl, by omega, by omega, by first | rfl | go_num, by go_num, ⟨⟨_, _, rfl, hc5, HC6.out⟩, HI1.out.1, HI1.out.2⟩, by omega, hb5⟩
                · clear hdec
                  go_wp2_with (first | (go_at_call 13; go_must (refine (HK _ _ _ HCv.out).out.mono ?_; rintro e w4 ⟨v4, rfl, ho4, hb4'⟩; have hb4 := hbel.trans (hb4'.mono hbel.size); have HC14 := Aside0.mk (Kd.C_below HCv.out hb4'); obtain ⟨A4, c4, e4, _, hC4⟩ := OI_reads ho4; subst e4; have hcell2 := pw_cell_below hb4 hcell; clear hC4 ho4 hb4')) | (go_at_call 33; go_must (refine (HP _ HC14.out).out.mono ?_; rintro e w5 ⟨v5, rfl, hra5, hb5'⟩; have hb5 := hb4.trans (hb5'.mono hb4.size); have HC5 := Aside0.mk hra5; clear hra5 hb5')))
                  obtain ⟨A5, c5, rfl, hc5, hC5⟩ := HC5.out
                  have HC6 := Aside0.mk hC5
                  have hlm5 := (C_len hC5).2
                  clear hC5
                  have HGH := HG.out
                  go_loopg [16] a1.length (fun g v16 wr => ∃ (k : Nat), g = a1.length - k ∧ v16 = .int .i64 ((k : Int) + 1) ∧ k ≤ a1.length ∧ w5 = wr)
                  case atStart => exact ⟨0, rfl, by go_num, Nat.zero_le _, rfl⟩
                  case round =>
                    obtain ⟨k, hgk, rfl, hk, rfl⟩ := hrel
                    have HGK := Aside0.mk hgk
                    clear hgk
                    by_cases hkl : k + 1 < a1.length
                    · obtain ⟨ad6, A6, c6, r6, e6, d6, k6, l6, hr6⟩ := C_row HC6.out k (by omega)
                      obtain ⟨ad7, A7, c7, r7, e7, d7, k7, l7, hr7⟩ := C_row HC6.out (k + 1) hkl
                      subst e6
                      injection e7 with e7
                      subst e7
                      have hh := half_at HI1.out.2 d6 d7
                      replace k7 : w5.cell? ⟨ad6.block, ad6.off + (k + 1), none⟩ = some (.slice A7 r7.length c7) := by simpa [Addr.add] using k7
                      have hk1 : (k : Int) + 1 < (a1.length : Int) := by omega
                      have hk2 : IntKind.i64.wrap ((k : Int) + 1 - 1) = (k : Int) := by rw [IntKind.wrap_i64]; omega
                      have hk3 : (k : Int) < (a1.length : Int) := by omega
                      have hk5 : ((k : Int) + 1).toNat = k + 1 := by omega
                      clear d6 d7 hr6 hr7
                      by_cases hx : (r6.length : Int) < b / 2
                      · have hy : ¬ ((r7.length : Int) < b / 2) := by omega
                        clear hh
                        go_wp2
                        go_roundg (a1.length - (k + 1))
                        case measure => have := HGK.out; omega
                        case rel => exact ⟨k + 1, rfl, by go_num, by omega, rfl⟩
                      · clear hh
                        go_wp2
                        go_roundg (a1.length - (k + 1))
                        case measure => have := HGK.out; omega
                        case rel => exact ⟨k + 1, rfl, by go_num, by omega, rfl⟩
                    · have hk1 : ¬ ((k : Int) + 1 < (a1.length : Int)) := by omega
                      go_wp2
                      go_roundg (st.length - (i + 1))
                      case measure => have := HG.out; omega
                      case rel => exact ⟨i + 1, n + 1, a1, rfl, by omega, by omega, by first | rfl | go_num, by go_num, ⟨⟨_, _, rfl, hc5, HC6.out⟩, HI1.out.1, HI1.out.2⟩, by omega, hb5⟩
          · go_wp2_with (go_at_call 9; go_must (refine (awake_calls _).mono ?_; rintro e w7 ⟨rfl, hb7⟩))
            go_ret
            exact ⟨rfl, hbel.trans (hb7.mono hbel.size)⟩
      · have hE3 : (makeE b l == 0) = false := by simpa using hE
        generalize makeE b l = E at HM hE3
        generalize makeA b l = a at HM
        clear hE h60 s60
        go_enter Try.func7, Try.ntmps7
        go_wp2_with (first | (go_at_call 10; go_must (refine HM.out.mono ?_; rintro e w1 ⟨v1, rfl, ⟨A1, c1, rfl, hc1, hC1⟩, hb1⟩; have HC1 := Aside0.mk hC1; clear hC1)) | (go_at_call 9; go_must (refine (awake_calls _).mono ?_; rintro e w7 ⟨rfl, hb7⟩)))
        go_ret
        exact ⟨rfl, hb1.trans (hb7.mono hb1.size)⟩
end Go.Proofs.Ytjpobhdgfdeenaa.A
