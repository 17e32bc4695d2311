/- take of the reference behind its first rows. -/
import Derived.StillTailTactics
import Derived.Deep.DrawnRows
import Derived.BigQuiet
import Derived.Test.YtjpobhdgfdeenaaA43
set_option linter.unusedVariables false
set_option linter.unusedSimpArgs false
namespace Go.Proofs.Ytjpobhdgfdeenaa.A
open Go.RowKit Go.Proofs.YtjpobhdgfdeenaaW.PrintWords Go.Maps

theorem not_grown {v5 vb : Value} {n k : Nat} (h : v5.ownBlock = vb.ownBlock ∨ ∃ b, v5.ownBlock = some b ∧ n ≤ b) (h1 : some k ≠ vb.ownBlock) (h2 : k < n) : some k ≠ v5.ownBlock := by
  rcases h with h | ⟨b, h, hb⟩
  · rw [h]; exact h1
  · rw [h]; intro e; injection e with e; omega
noncomputable def tail59 : Code := seqAt 6 (Try.f59.body.getD .skip)
set_option maxRecDepth 100000 in
set_option maxHeartbeats 4000000 in
theorem take_tail (b key : Int) (r : List Int) (pre post : List (List Int)) (vl vb vh u1 u2 u3 u4 u5 u6 u7 u8 u9 u10 u15 u16 u17 u18 u19 u20 u21 u22 u23 u24 u25 u26 u27 u28 u29 u30 u31 u32 u33 u34 u35 u36 u37 u38 u39 u40 u41 u42 u43 u44 u45 u46 u47 u48 u49 u50 u51 u52 u53 u54 u55 u56 : Value) (vsb : List Value) (w W : World) (bl : Nat) (hb2 : 2 ≤ b) (hb50 : b ≤ 50)
    (HL : Aside0 (OI W w.heap.size vl r ∧ ∀ k, vl.ownBlock = some k → k < bl))
    (HV : Aside0 (OwnV W bl vb vsb pre))
    (HH : Aside0 (Kd.R kd3 22 W bl (fun k => some k ≠ vb.ownBlock ∧ ∀ u ∈ vsb, some k ≠ u.ownBlock) vh post))
    (hwb : w.heap.size ≤ bl) (hbw : Below w.heap.size w W) (hbl : bl ≤ W.heap.size) (hlen : r.length ≤ 60) (hp1 : pre.length ≤ 1000) (hp2 : post.length ≤ 1000) (HRL : Aside0 (∀ x ∈ pre ++ post, x.length ≤ 60))
    (R : Ending → World → Prop) (hR : ∀ v W', RA W' v (remP b pre r post) → Below w.heap.size w W' → R (.returned (.tuple #[v, .int .i64 key])) W') :
    tail59.wp Try.prog (bodyPost Try.prog Try.f59 R) { tmps := #[.int .i64 b, u1, u2, u3, u4, u5, u6, u7, u8, u9, u10, .int .i64 key, vl, vb, vh, u15, u16, u17, u18, u19, u20, u21, u22, u23, u24, u25, u26, u27, u28, u29, u30, u31, u32, u33, u34, u35, u36, u37, u38, u39, u40, u41, u42, u43, u44, u45, u46, u47, u48, u49, u50, u51, u52, u53, u54, u55, u56, undef, undef, undef, undef, undef, undef, undef, undef, undef, undef, undef, undef, undef, undef, undef, undef, undef, undef, undef, undef, undef, undef, undef, undef, undef, undef, undef, undef, undef, undef, undef, undef, undef, undef, undef, undef, undef, undef, undef, undef, undef, undef, undef, undef, undef, undef, undef, undef, undef, undef, undef, undef, undef, undef, undef, undef, undef, undef, undef, undef, undef, undef, undef, undef, undef, undef, undef, undef, undef, undef, undef, undef, undef, undef, undef, undef, undef], defers := [] } W := by
  have hRR := Aside0.mk hR
  clear hR
  obtain ⟨Al, cl, el, hcl, hCl⟩ := OI_reads HL.out.1
  subst el
  have HOB := Aside0.mk (own_orOk (ok := Tr) HV.out.1 (OwnV.S HV.out) (fun _ _ => trivial) (fun _ _ _ _ => trivial))
  have HOBk := Aside0.mk (own_orOk (ok := fun k => bl ≤ k) HV.out.1 (OwnV.S HV.out) (fun k hk => own_base HV.out.1 k hk) (fun u hu k hk => by
    obtain ⟨i, hi, rfl⟩ := List.getElem_of_mem hu
    have hl := HV.out.2.1.len
    obtain ⟨g5, c5, _, e5, h5, _⟩ := own_addr ((F2_iff.1 (OwnV.S HV.out)).2 i _ _ (List.getElem?_eq_getElem hi) (List.getElem?_eq_getElem (by omega)))
    rw [e5] at hk
    injection hk with hk
    omega))
  obtain ⟨Ab, cb, eb, hcb, hCb⟩ := OR_reads HOB.out
  subst eb
  obtain ⟨Okh, hOkh⟩ : ∃ Okh : Nat → Prop, Okh = fun k => (some k ≠ (Value.slice Ab pre.length cb).ownBlock ∧ ∀ u ∈ vsb, some k ≠ u.ownBlock) ∧ bl ≤ k ∧ k < W.heap.size := ⟨_, rfl⟩
  have HHk : Aside0 (Kd.R kd3 22 W bl (fun k => (some k ≠ (Value.slice Ab pre.length cb).ownBlock ∧ ∀ u ∈ vsb, some k ≠ u.ownBlock) ∧ bl ≤ k ∧ k < W.heap.size) vh post) := ⟨Kd.R_mono (Kd.R_bound HH.out) (fun k hk => ⟨hk.1, hk.2.1, hk.2.2.1⟩)⟩
  obtain ⟨Ah, ch, eh, hch, hrh⟩ := R_reads' HHk.out
  subst eh
  have HRH := Aside0.mk hrh
  have HCl := Aside0.mk hCl
  have HCh := Aside0.mk (OR_reads (R_C HHk.out))
  clear hrh hCl hCb
  generalize hQ0 : bodyPost Try.prog Try.f59 R = Q0
  simp only [tail59, seqAt, Try.f59, Option.getD]
  by_cases hr0 : r = []
  · have hz : ((r.length : Int) == 0) = true := by rw [hr0]; rfl
    have HP : Aside0 (remP b pre r post = pre ++ post) := ⟨by rw [hr0]; exact remP_gone⟩
    have HR0 := Aside0.mk hr0
    clear hr0 hOkh
    go_wp2_with (first | ((with_reducible refine at_b (b := .append) (xs := #[.tmp 60, .tmp 61]) rfl ?_); go_must (refine Kd.R_append_rows kd3 (w0 := w) (W := W) w.heap.size rfl (.tmp 60) (.tmp 61) 24 22 (.slice none 0 0) 24 rfl Try.underlying24 infoA22 rfl (by decide) (by omega) _ pre post _ _ _ Tr (fun k => ((some k ≠ (Value.slice Ab pre.length cb).ownBlock ∧ ∀ u ∈ vsb, some k ≠ u.ownBlock) ∧ bl ≤ k ∧ k < W.heap.size) ∧ some k ≠ (Value.slice Ah post.length ch).ownBlock) rfl rfl (Kd.R_lower HOB.out hwb) HRH.out (fun x cs h => kd3.M_lower hwb h) (fun k hk => ⟨trivial, hk.1.1.1⟩) (fun _ _ => trivial) hbw hbw.size ?bL ?_; (case bL => omega); intro v5 w5 ho5 hb5 hg5 hat5; have HO5 := Aside0.mk ho5; clear ho5 hg5 hat5)))
    rw [← hQ0]
    go_ret2
    exact hRR.out _ _ (by rw [HP.out]; exact OR_ra HO5.out) hb5
  · have hr1 : 0 < r.length := List.length_pos_iff.2 hr0
    have hz : ((r.length : Int) == 0) = false := by simpa using (show ¬ (r.length : Int) = 0 by omega)
    have HR0 := Aside0.mk hr0
    clear hr0 hOkh
    by_cases hge : (b + 1) / 2 ≤ (r.length : Int)
    · have HP : Aside0 (remP b pre r post = pre ++ [r] ++ post) := ⟨by rw [remP_large HR0.out hge]; simp⟩
      have hlt : ¬ ((r.length : Int) < (b + 1) / 2) := by omega
      clear hge
      go_wp2_with (first | ((with_reducible refine at_b (b := .append) (xs := #[.tmp 127, .tmp 129]) rfl ?_); go_must (refine Kd.R_append kd3 (w0 := w) (W := W) w.heap.size rfl (.tmp 127) (.tmp 129) 24 22 (.slice none 0 0) 24 rfl Try.underlying24 infoA22 rfl (by decide) (by omega) _ pre r [.slice Al r.length cl] Tr (fun k => Tr k ∧ some k ≠ (Value.slice Ab pre.length cb).ownBlock) rfl rfl (M_not_outer (Kd.R_lower HOB.out hwb) (M_of_OI HL.out.1)) (fun _ h => h) (fun _ _ => trivial) (Kd.R_lower HOB.out hwb) hbw hbw.size ?bL ?_; (case bL => omega); intro v5 w5 ho5 hb5 hg5 hat5; have HO5 := Aside0.mk ho5; have HH5 := Aside0.mk (R_reads' (Kd.R_grown HHk.out hg5 (fun k hk => hk.1.1))); have HAT5 := Aside0.mk hat5; clear ho5 hg5 hat5; obtain ⟨A5, c5, e5, _, hrr5⟩ := HH5.out; injection e5 with e5 e6 e7; subst e5 e7; have HRR5 := Aside0.mk hrr5; clear hrr5 e6)) | ((with_reducible refine at_b (b := .append) (xs := #[.tmp 130, .tmp 131]) rfl ?_); go_must (refine Kd.R_append_rows kd3 (w0 := w) (W := w5) w.heap.size rfl (.tmp 130) (.tmp 131) 24 22 (.slice none 0 0) 24 rfl Try.underlying24 infoA22 rfl (by decide) (by omega) _ (pre ++ [r]) post _ _ _ Tr (fun k => ((some k ≠ (Value.slice Ab pre.length cb).ownBlock ∧ ∀ u ∈ vsb, some k ≠ u.ownBlock) ∧ bl ≤ k ∧ k < W.heap.size) ∧ some k ≠ (Value.slice Ah post.length ch).ownBlock) rfl rfl HO5.out HRR5.out (fun x cs h => kd3.M_lower hwb h) (fun k hk => ⟨trivial, not_grown HAT5.out hk.1.1.1 hk.1.2.2⟩) (fun _ _ => trivial) hb5 hb5.size ?bL ?_; (case bL => rw [List.length_append, List.length_singleton]; omega); intro v6 w6 ho6 hb6 hg6 hat6; have HO6 := Aside0.mk ho6; clear ho6 hg6 hat6)))
      rw [← hQ0]
      go_ret2
      exact hRR.out _ _ (by rw [HP.out]; exact OR_ra HO6.out) hb6
    · have HGE := Aside0.mk hge
      have hlt : (r.length : Int) < (b + 1) / 2 := by omega
      clear hge
      by_cases hnx : ∃ s t, post = s :: t ∧ ((r.length + s.length : Nat) : Int) ≤ b
      · obtain ⟨s, t, rfl, hsum⟩ := hnx
        have HP : Aside0 (remP b pre r (s :: t) = pre ++ [r ++ s] ++ t) := ⟨by rw [remP_next HR0.out HGE.out hsum]; simp⟩
        have hsl : s.length ≤ 60 := HRL.out s (by simp)
        have hsm : (r.length : Int) + (s.length : Int) ≤ b := by omega
        have HSL : Aside0 (s.length ≤ 60) := ⟨hsl⟩
        obtain ⟨A9, c9, e9, h9, hC9⟩ := HCh.out
        injection e9 with e9 _ e10
        subst e10
        rw [← e9] at hC9
        obtain ⟨ad, As, cs, s2, eA, hd, hcell, hcs, hsC⟩ := C_row hC9 0 (by simp)
        have e2 : s = s2 := by simp at hd; exact hd
        subst e2
        subst eA
        have HS := Aside0.mk hsC
        have hcell0 : W.cell? ad = some (.slice As s.length cs) := by rw [Addr.add_zero'] at hcell; exact hcell
        have hlp : (0 : Int) < (((s :: t).length : Nat) : Int) := by simp
        clear hd hsC hC9 e9 hsum h9
        have hch1 : (s :: t).length ≤ ch := hch
        have ht1 : t.length + 1 ≤ 1000 := by simpa using hp2
        go_wp2_with (first | ((with_reducible refine at_b (b := .append) (xs := #[.tmp 85, .tmp 88]) rfl ?_); go_must (refine Kd.R_append_rows (Kd.int .i64) (w0 := w) (W := W) w.heap.size rfl (.tmp 85) (.tmp 88) 22 3 (.int .i64 0) 8 rfl Try.underlying22 infoA3 rfl (by decide) (by omega) _ r s _ _ _ Tr (fun _ => False) rfl rfl HL.out.1 HS.out (fun _ _ h => h) (fun _ h => h.elim) (fun _ _ => trivial) hbw hbw.size ?bL ?_; (case bL => have := HSL.out; omega); intro v5 w5 ho5 hb5 hg5 hat5; obtain ⟨A5, c5, e5, _⟩ := OI_reads ho5; rw [List.length_append] at e5; subst e5; have HO5 := Aside0.mk ho5; have HB5 := Aside0.mk (R_C (Kd.R_grown HOBk.out hg5 (fun k hk e => by have := HL.out.2 k e.symm; omega))); have HH5 := Aside0.mk (Kd.R_grown HHk.out hg5 (fun k hk e => by have := HL.out.2 k e.symm; have := hk.2.1; omega)); have HSZ5 := Aside0.mk hg5.size; clear ho5 hg5 hat5)) | ((with_reducible refine at_b (b := .append) (xs := #[.tmp 84, .tmp 90]) rfl ?_); go_must (refine Kd.R_append kd3 (w0 := w) (W := w5) w.heap.size rfl (.tmp 84) (.tmp 90) 24 22 (.slice none 0 0) 24 rfl Try.underlying24 infoA22 rfl (by decide) (by omega) _ pre (r ++ s) [.slice A5 (r.length + s.length) c5] Tr (fun k => Tr k ∧ some k ≠ (Value.slice Ab pre.length cb).ownBlock) rfl rfl (M_not_outer (Kd.R_lower HB5.out hwb) (M_of_OI HO5.out)) (fun _ h => h) (fun _ _ => trivial) (Kd.R_lower HB5.out hwb) hb5 hb5.size ?bL ?_; (case bL => omega); intro v6 w6 ho6 hb6 hg6 hat6; have HO6 := Aside0.mk ho6; have HH6 := Aside0.mk (R_reads' (Kd.R_grown HH5.out hg6 (fun k hk => hk.1.1))); have HAT6 := Aside0.mk hat6; clear ho6 hg6 hat6; obtain ⟨A7, c7, e7, hl7, hrr7⟩ := HH6.out; injection e7 with e7 e8 e9; subst e7 e9; have HRR7 := Aside0.mk (rr_drop hrr7 hl7); clear hrr7 e8)) | ((with_reducible refine at_b (b := .append) (xs := #[.tmp 92, .tmp 94]) rfl ?_); go_must (refine Kd.R_append_rows kd3 (w0 := w) (W := w6) w.heap.size rfl (.tmp 92) (.tmp 94) 24 22 (.slice none 0 0) 24 rfl Try.underlying24 infoA22 rfl (by decide) (by omega) _ (pre ++ [r ++ s]) t _ _ _ Tr (fun k => ((some k ≠ (Value.slice Ab pre.length cb).ownBlock ∧ ∀ u ∈ vsb, some k ≠ u.ownBlock) ∧ bl ≤ k ∧ k < W.heap.size) ∧ some k ≠ (Value.slice (some ad) (s :: t).length ch).ownBlock) rfl rfl HO6.out ?bR (fun x cs h => kd3.M_lower hwb h) (fun k hk => ⟨trivial, not_grown HAT6.out hk.1.1.1 (Nat.lt_of_lt_of_le hk.1.2.2 HSZ5.out)⟩) (fun _ _ => trivial) hb6 hb6.size ?bL ?_; (case bR => have h := HRR7.out; have e1 : ad.add 1 = ⟨ad.block, ad.off + 1, none⟩ := (by simp [Addr.add]); rw [e1] at h; exact h); (case bL => rw [List.length_append, List.length_singleton]; omega); intro v8 w8 ho8 hb8 hg8 hat8; have HO8 := Aside0.mk ho8; clear ho8 hg8 hat8)))
        all_goals
          rw [← hQ0]
          go_ret2
          exact hRR.out _ _ (by rw [HP.out]; exact OR_ra HO8.out) hb8
      · have HN : Aside0 (∀ s t, post = s :: t → ¬ ((r.length + s.length : Nat) : Int) ≤ b) := ⟨fun s t e h => hnx ⟨s, t, e, h⟩⟩
        clear hnx
        by_cases hpo : post.length = 0
        · have hgt : ¬ ((0 : Int) < (post.length : Int)) := by omega
          have hgt2 : decide ((0 : Int) < (post.length : Int)) = false := decide_eq_false hgt
          have HPO := Aside0.mk hpo
          clear hpo
          by_cases hpe : pre.length = 0
          · have HP : Aside0 (remP b pre r post = pre ++ [r] ++ post) := ⟨by rw [remP_alone HR0.out HGE.out HN.out (fun t s e => by rw [e] at hpe; simp at hpe)]; simp⟩
            have hz1 : ¬ ((1 : Int) ≤ (pre.length : Int)) := by omega
            have hz3 : decide ((1 : Int) ≤ (pre.length : Int)) = false := decide_eq_false hz1
            have hz4 : ¬ ((0 : Int) ≤ (pre.length : Int) - 1) := by omega
            have hz5 : decide ((0 : Int) ≤ (pre.length : Int) - 1) = false := decide_eq_false hz4
            have HPE := Aside0.mk hpe
            clear hpe
            go_wp2_with (first | ((with_reducible refine at_b (b := .append) (xs := #[.tmp 127, .tmp 129]) rfl ?_); go_must (refine Kd.R_append kd3 (w0 := w) (W := W) w.heap.size rfl (.tmp 127) (.tmp 129) 24 22 (.slice none 0 0) 24 rfl Try.underlying24 infoA22 rfl (by decide) (by omega) _ pre r [.slice Al r.length cl] Tr (fun k => Tr k ∧ some k ≠ (Value.slice Ab pre.length cb).ownBlock) rfl rfl (M_not_outer (Kd.R_lower HOB.out hwb) (M_of_OI HL.out.1)) (fun _ h => h) (fun _ _ => trivial) (Kd.R_lower HOB.out hwb) hbw hbw.size ?bL ?_; (case bL => omega); intro v5 w5 ho5 hb5 hg5 hat5; have HO5 := Aside0.mk ho5; have HH5 := Aside0.mk (R_reads' (Kd.R_grown HHk.out hg5 (fun k hk => hk.1.1))); have HAT5 := Aside0.mk hat5; clear ho5 hg5 hat5; obtain ⟨A5, c5, e5, _, hrr5⟩ := HH5.out; injection e5 with e5 e6 e7; subst e5 e7; have HRR5 := Aside0.mk hrr5; clear hrr5 e6)) | ((with_reducible refine at_b (b := .append) (xs := #[.tmp 130, .tmp 131]) rfl ?_); go_must (refine Kd.R_append_rows kd3 (w0 := w) (W := w5) w.heap.size rfl (.tmp 130) (.tmp 131) 24 22 (.slice none 0 0) 24 rfl Try.underlying24 infoA22 rfl (by decide) (by omega) _ (pre ++ [r]) post _ _ _ Tr (fun k => ((some k ≠ (Value.slice Ab pre.length cb).ownBlock ∧ ∀ u ∈ vsb, some k ≠ u.ownBlock) ∧ bl ≤ k ∧ k < W.heap.size) ∧ some k ≠ (Value.slice Ah post.length ch).ownBlock) rfl rfl HO5.out HRR5.out (fun x cs h => kd3.M_lower hwb h) (fun k hk => ⟨trivial, not_grown HAT5.out hk.1.1.1 hk.1.2.2⟩) (fun _ _ => trivial) hb5 hb5.size ?bL ?_; (case bL => rw [List.length_append, List.length_singleton]; omega); intro v6 w6 ho6 hb6 hg6 hat6; have HO6 := Aside0.mk ho6; clear ho6 hg6 hat6)))
            rw [← hQ0]
            go_ret2
            exact hRR.out _ _ (by rw [HP.out]; exact OR_ra HO6.out) hb6
          · obtain ⟨t2, s2, hpre⟩ : ∃ t2 s2, pre = t2 ++ [s2] := ⟨pre.dropLast, pre.getLast (by rintro rfl; exact hpe rfl), (List.dropLast_concat_getLast _).symm⟩
            have hs2l : s2.length ≤ 60 := HRL.out s2 (by rw [hpre]; simp)
            have HVT : Aside0 (OwnV W bl (.slice Ab pre.length cb) vsb (t2 ++ [s2])) := ⟨by have h := HV.out; rw [hpre] at h ⊢; exact h⟩
            obtain ⟨gb, cb2, gu, cu, hv, hcb2, hgb, hgbl, hvs, hcu, hgu, hgne, hcellN, hfz, hOI⟩ := prev_row HVT.out
            obtain ⟨N, hNt⟩ : ∃ N, N = t2.length := ⟨_, rfl⟩
            have hN : pre.length = N + 1 := by rw [hpre, hNt]; simp
            rw [← hNt] at hv hcellN hfz hvs
            rw [hN] at hv HVT HOB HOBk HHk HH HRH HV hcb ⊢
            injection hv with hv1 _ hv2
            subst hv1 hv2
            have HPRE := Aside0.mk hpre
            have HOI := Aside0.mk hOI
            have HVS0 := Aside0.mk hvs
            have HNE := Aside0.mk hgne
            have HGB := Aside0.mk hgbl
            have HGL : Aside0 (w.heap.size ≤ gb) := ⟨by omega⟩
            have HNT := Aside0.mk hNt.symm
            have HNT2 : Aside0 ((t2 ++ [s2 ++ r]).length ≤ 1000 ∧ (t2 ++ [s2 ++ r]).length = N + 1) := ⟨by simp; omega⟩
            have HVS : Aside0 (vsb[t2.length]? = some (.slice (some ⟨gu, 0, none⟩) s2.length cu)) := ⟨by rw [← hNt]; exact HVS0.out⟩
            have hN0 : (0 : Int) ≤ (N : Int) := by omega
            have hN1 : (N : Int) < (N : Int) + 1 := by omega
            have hN2 : N ≤ 999 := by omega
            have HN9 := Aside0.mk hN
            clear hpre hOI hvs hgne hgbl hN hNt HVS0 hpe
            by_cases hm2 : (r.length : Int) + (s2.length : Int) ≤ b
            · have HP : Aside0 (remP b pre r post = t2 ++ [s2 ++ r] ++ post) := ⟨by rw [HPRE.out, remP_prev HR0.out HGE.out HN.out (by omega)]; simp⟩
              go_wp2_with (first | ((with_reducible refine at_b (b := .append) (xs := #[.tmp 119, .tmp 120]) rfl ?_); go_must (refine Kd.R_append_rows (Kd.int .i64) (w0 := W) (W := W) bl rfl (.tmp 119) (.tmp 120) 22 3 (.int .i64 0) 8 rfl Try.underlying22 infoA3 rfl (by decide) (by omega) (.slice (some ⟨gu, 0, none⟩) s2.length cu) s2 r _ _ _ Tr (fun _ => False) rfl rfl HOI.out HCl.out (fun _ _ h => h) (fun _ h => h.elim) (fun _ _ => trivial) (Below.refl _ _) hbl ?bL ?_; (case bL => omega); intro v5 w5 ho5 hb5 hg5 hat5; obtain ⟨A5, c5, e5, _⟩ := OI_reads ho5; rw [List.length_append] at e5; subst e5; have HO5 := Aside0.mk ho5; have HG5 := Aside0.mk (show W.grownBy w5 (some gu) from hg5); have HB5 := Aside0.mk hb5; have hc5 := HG5.out.cell hcellN (by intro e; injection e with e; exact HNE.out e.symm); have hf5 : w5.frozen? ⟨gb, N, none⟩ = false := (HG5.out.frozen_far ⟨gb, N, none⟩ HGB.out (by intro e; injection e with e; exact HNE.out e.symm)).trans hfz; clear ho5 hg5 hat5)) | ((with_reducible refine at_b (b := .append) (xs := #[.tmp 123, .tmp 124]) rfl ?_); go_must (refine Kd.R_append_rows kd3 (w0 := w) (W := (w5.setCell ⟨gb, N, none⟩ (.slice A5 (s2.length + r.length) c5))) w.heap.size rfl (.tmp 123) (.tmp 124) 24 22 (.slice none 0 0) 24 rfl Try.underlying24 infoA22 rfl (by decide) (by omega) _ (t2 ++ [s2 ++ r]) post _ _ _ Tr (fun k => ((some k ≠ (Value.slice (some ⟨gb, 0, none⟩) (N + 1) cb).ownBlock ∧ ∀ u ∈ vsb, some k ≠ u.ownBlock) ∧ bl ≤ k ∧ k < W.heap.size) ∧ some k ≠ (Value.slice Ah post.length ch).ownBlock) rfl rfl ?bO ?bR (fun x cs h => kd3.M_lower hwb h) (fun k hk => ⟨trivial, hk.1.1.1⟩) (fun _ _ => trivial) ?bB ?bS ?bL ?_; (case bO => have h := merge_prev (cb := cb) HVT.out (by rw [HNT.out]) HVS.out HG5.out HNE.out (OwnS_of_OI HO5.out (by intro e; have := congrArg List.length e; simp at this; have := this.2; rw [this] at hr1; simp at hr1)); rw [HNT.out] at h; exact Kd.R_lower h hwb); (case bR => have h1 := Kd.R_grown HHk.out HG5.out (fun k hk => hk.1.2 _ (List.mem_of_getElem? HVS.out)); have h2 := Kd.R_far (d := kd3) h1 (p := ⟨gb, N, none⟩) (fun k hk e => hk.1.1 (by rw [e]; rfl)) (.slice A5 (s2.length + r.length) c5); obtain ⟨A7, c7, e7, _, hrr7⟩ := R_reads' h2; injection e7 with e7 e8 e9; subst e7 e9; exact hrr7); (case bB => exact (hbw.trans (HB5.out.mono hwb)).setCell (by show w.heap.size ≤ gb; have := HGL.out; omega) _); (case bS => have := hbw.size; have := HB5.out.size; simp; omega); (case bL => have := HNT2.out; omega); intro v6 w6 ho6 hb6 hg6 hat6; have HO6 := Aside0.mk ho6; clear ho6 hg6 hat6)))
              rw [← hQ0]
              go_ret2
              exact hRR.out _ _ (by rw [HP.out]; exact OR_ra HO6.out) hb6
            · have hnm : ∀ t s, pre = t ++ [s] → ¬ ((s.length + r.length : Nat) : Int) ≤ b := by
                intro t s e
                have e4 : s2 = s := by
                  have := HPRE.out.symm.trans e
                  have := congrArg List.getLast? this
                  simpa using this
                subst e4
                omega
              have HP : Aside0 (remP b pre r post = pre ++ [r] ++ post) := ⟨by rw [remP_alone HR0.out HGE.out HN.out hnm]; simp⟩
              clear hnm
              go_wp2_with (first | ((with_reducible refine at_b (b := .append) (xs := #[.tmp 127, .tmp 129]) rfl ?_); go_must (refine Kd.R_append kd3 (w0 := w) (W := W) w.heap.size rfl (.tmp 127) (.tmp 129) 24 22 (.slice none 0 0) 24 rfl Try.underlying24 infoA22 rfl (by decide) (by omega) _ pre r [.slice Al r.length cl] Tr (fun k => Tr k ∧ some k ≠ (Value.slice (some ⟨gb, 0, none⟩) (N + 1) cb).ownBlock) rfl rfl (M_not_outer (Kd.R_lower HOB.out hwb) (M_of_OI HL.out.1)) (fun _ h => h) (fun _ _ => trivial) (Kd.R_lower HOB.out hwb) hbw hbw.size ?bL ?_; (case bL => omega); intro v5 w5 ho5 hb5 hg5 hat5; have HO5 := Aside0.mk ho5; have HH5 := Aside0.mk (R_reads' (Kd.R_grown HHk.out hg5 (fun k hk => hk.1.1))); have HAT5 := Aside0.mk hat5; clear ho5 hg5 hat5; obtain ⟨A5, c5, e5, _, hrr5⟩ := HH5.out; injection e5 with e5 e6 e7; subst e5 e7; have HRR5 := Aside0.mk hrr5; clear hrr5 e6)) | ((with_reducible refine at_b (b := .append) (xs := #[.tmp 130, .tmp 131]) rfl ?_); go_must (refine Kd.R_append_rows kd3 (w0 := w) (W := w5) w.heap.size rfl (.tmp 130) (.tmp 131) 24 22 (.slice none 0 0) 24 rfl Try.underlying24 infoA22 rfl (by decide) (by omega) _ (pre ++ [r]) post _ _ _ Tr (fun k => ((some k ≠ (Value.slice (some ⟨gb, 0, none⟩) (N + 1) cb).ownBlock ∧ ∀ u ∈ vsb, some k ≠ u.ownBlock) ∧ bl ≤ k ∧ k < W.heap.size) ∧ some k ≠ (Value.slice Ah post.length ch).ownBlock) rfl rfl HO5.out HRR5.out (fun x cs h => kd3.M_lower hwb h) (fun k hk => ⟨trivial, not_grown HAT5.out hk.1.1.1 hk.1.2.2⟩) (fun _ _ => trivial) hb5 hb5.size ?bL ?_; (case bL => rw [List.length_append, List.length_singleton]; omega); intro v6 w6 ho6 hb6 hg6 hat6; have HO6 := Aside0.mk ho6; clear ho6 hg6 hat6)))
              rw [← hQ0]
              go_ret2
              exact hRR.out _ _ (by rw [HP.out]; exact OR_ra HO6.out) hb6
        · obtain ⟨s, t, hpost⟩ : ∃ s t, post = s :: t := by
            cases post with
            | nil => exact absurd rfl hpo
            | cons s t => exact ⟨s, t, rfl⟩
          have hsl : s.length ≤ 60 := HRL.out s (by rw [hpost]; simp)
          have hsm : ¬ ((r.length : Int) + (s.length : Int) ≤ b) := by have := HN.out s t hpost; omega
          have hgt : (0 : Int) < (post.length : Int) := by omega
          obtain ⟨A9, c9, e9, h9, hC9⟩ := HCh.out
          injection e9 with e9 _ e10
          subst e10
          rw [← e9] at hC9
          obtain ⟨ad, As, cs, s2, eA, hd, hcell, hcs, hsC⟩ := C_row hC9 0 (by omega)
          have e2 : s = s2 := by rw [hpost] at hd; simp at hd; exact hd
          subst e2
          subst eA
          have hcell0 : W.cell? ad = some (.slice As s.length cs) := by rw [Addr.add_zero'] at hcell; exact hcell
          have HPOST := Aside0.mk hpost
          clear hd hsC hC9 e9 h9 hpost hpo
          by_cases hpe : pre.length = 0
          · have HP : Aside0 (remP b pre r post = pre ++ [r] ++ post) := ⟨by rw [remP_alone HR0.out HGE.out HN.out (fun t s e => by rw [e] at hpe; simp at hpe)]; simp⟩
            have hz1 : ¬ ((1 : Int) ≤ (pre.length : Int)) := by omega
            have hz3 : decide ((1 : Int) ≤ (pre.length : Int)) = false := decide_eq_false hz1
            have hz4 : ¬ ((0 : Int) ≤ (pre.length : Int) - 1) := by omega
            have hz5 : decide ((0 : Int) ≤ (pre.length : Int) - 1) = false := decide_eq_false hz4
            have HPE := Aside0.mk hpe
            clear hpe
            go_wp2_with (first | ((with_reducible refine at_b (b := .append) (xs := #[.tmp 127, .tmp 129]) rfl ?_); go_must (refine Kd.R_append kd3 (w0 := w) (W := W) w.heap.size rfl (.tmp 127) (.tmp 129) 24 22 (.slice none 0 0) 24 rfl Try.underlying24 infoA22 rfl (by decide) (by omega) _ pre r [.slice Al r.length cl] Tr (fun k => Tr k ∧ some k ≠ (Value.slice Ab pre.length cb).ownBlock) rfl rfl (M_not_outer (Kd.R_lower HOB.out hwb) (M_of_OI HL.out.1)) (fun _ h => h) (fun _ _ => trivial) (Kd.R_lower HOB.out hwb) hbw hbw.size ?bL ?_; (case bL => omega); intro v5 w5 ho5 hb5 hg5 hat5; have HO5 := Aside0.mk ho5; have HH5 := Aside0.mk (R_reads' (Kd.R_grown HHk.out hg5 (fun k hk => hk.1.1))); have HAT5 := Aside0.mk hat5; clear ho5 hg5 hat5; obtain ⟨A5, c5, e5, _, hrr5⟩ := HH5.out; injection e5 with e5 e6 e7; subst e5 e7; have HRR5 := Aside0.mk hrr5; clear hrr5 e6)) | ((with_reducible refine at_b (b := .append) (xs := #[.tmp 130, .tmp 131]) rfl ?_); go_must (refine Kd.R_append_rows kd3 (w0 := w) (W := w5) w.heap.size rfl (.tmp 130) (.tmp 131) 24 22 (.slice none 0 0) 24 rfl Try.underlying24 infoA22 rfl (by decide) (by omega) _ (pre ++ [r]) post _ _ _ Tr (fun k => ((some k ≠ (Value.slice Ab pre.length cb).ownBlock ∧ ∀ u ∈ vsb, some k ≠ u.ownBlock) ∧ bl ≤ k ∧ k < W.heap.size) ∧ some k ≠ (Value.slice (some ad) post.length ch).ownBlock) rfl rfl HO5.out HRR5.out (fun x cs h => kd3.M_lower hwb h) (fun k hk => ⟨trivial, not_grown HAT5.out hk.1.1.1 hk.1.2.2⟩) (fun _ _ => trivial) hb5 hb5.size ?bL ?_; (case bL => rw [List.length_append, List.length_singleton]; omega); intro v6 w6 ho6 hb6 hg6 hat6; have HO6 := Aside0.mk ho6; clear ho6 hg6 hat6)))
            rw [← hQ0]
            go_ret2
            exact hRR.out _ _ (by rw [HP.out]; exact OR_ra HO6.out) hb6
          · obtain ⟨t2, s2, hpre⟩ : ∃ t2 s2, pre = t2 ++ [s2] := ⟨pre.dropLast, pre.getLast (by rintro rfl; exact hpe rfl), (List.dropLast_concat_getLast _).symm⟩
            have hs2l : s2.length ≤ 60 := HRL.out s2 (by rw [hpre]; simp)
            have HVT : Aside0 (OwnV W bl (.slice Ab pre.length cb) vsb (t2 ++ [s2])) := ⟨by have h := HV.out; rw [hpre] at h ⊢; exact h⟩
            obtain ⟨gb, cb2, gu, cu, hv, hcb2, hgb, hgbl, hvs, hcu, hgu, hgne, hcellN, hfz, hOI⟩ := prev_row HVT.out
            obtain ⟨N, hNt⟩ : ∃ N, N = t2.length := ⟨_, rfl⟩
            have hN : pre.length = N + 1 := by rw [hpre, hNt]; simp
            rw [← hNt] at hv hcellN hfz hvs
            rw [hN] at hv HVT HOB HOBk HHk HH HRH HV hcb ⊢
            injection hv with hv1 _ hv2
            subst hv1 hv2
            have HPRE := Aside0.mk hpre
            have HOI := Aside0.mk hOI
            have HVS0 := Aside0.mk hvs
            have HNE := Aside0.mk hgne
            have HGB := Aside0.mk hgbl
            have HGL : Aside0 (w.heap.size ≤ gb) := ⟨by omega⟩
            have HNT := Aside0.mk hNt.symm
            have HNT2 : Aside0 ((t2 ++ [s2 ++ r]).length ≤ 1000 ∧ (t2 ++ [s2 ++ r]).length = N + 1) := ⟨by simp; omega⟩
            have HVS : Aside0 (vsb[t2.length]? = some (.slice (some ⟨gu, 0, none⟩) s2.length cu)) := ⟨by rw [← hNt]; exact HVS0.out⟩
            have hN0 : (0 : Int) ≤ (N : Int) := by omega
            have hN1 : (N : Int) < (N : Int) + 1 := by omega
            have hN2 : N ≤ 999 := by omega
            have HN9 := Aside0.mk hN
            clear hpre hOI hvs hgne hgbl hN hNt HVS0 hpe
            by_cases hm2 : (r.length : Int) + (s2.length : Int) ≤ b
            · have HP : Aside0 (remP b pre r post = t2 ++ [s2 ++ r] ++ post) := ⟨by rw [HPRE.out, remP_prev HR0.out HGE.out HN.out (by omega)]; simp⟩
              go_wp2_with (first | ((with_reducible refine at_b (b := .append) (xs := #[.tmp 119, .tmp 120]) rfl ?_); go_must (refine Kd.R_append_rows (Kd.int .i64) (w0 := W) (W := W) bl rfl (.tmp 119) (.tmp 120) 22 3 (.int .i64 0) 8 rfl Try.underlying22 infoA3 rfl (by decide) (by omega) (.slice (some ⟨gu, 0, none⟩) s2.length cu) s2 r _ _ _ Tr (fun _ => False) rfl rfl HOI.out HCl.out (fun _ _ h => h) (fun _ h => h.elim) (fun _ _ => trivial) (Below.refl _ _) hbl ?bL ?_; (case bL => omega); intro v5 w5 ho5 hb5 hg5 hat5; obtain ⟨A5, c5, e5, _⟩ := OI_reads ho5; rw [List.length_append] at e5; subst e5; have HO5 := Aside0.mk ho5; have HG5 := Aside0.mk (show W.grownBy w5 (some gu) from hg5); have HB5 := Aside0.mk hb5; have hc5 := HG5.out.cell hcellN (by intro e; injection e with e; exact HNE.out e.symm); have hf5 : w5.frozen? ⟨gb, N, none⟩ = false := (HG5.out.frozen_far ⟨gb, N, none⟩ HGB.out (by intro e; injection e with e; exact HNE.out e.symm)).trans hfz; clear ho5 hg5 hat5)) | ((with_reducible refine at_b (b := .append) (xs := #[.tmp 123, .tmp 124]) rfl ?_); go_must (refine Kd.R_append_rows kd3 (w0 := w) (W := (w5.setCell ⟨gb, N, none⟩ (.slice A5 (s2.length + r.length) c5))) w.heap.size rfl (.tmp 123) (.tmp 124) 24 22 (.slice none 0 0) 24 rfl Try.underlying24 infoA22 rfl (by decide) (by omega) _ (t2 ++ [s2 ++ r]) post _ _ _ Tr (fun k => ((some k ≠ (Value.slice (some ⟨gb, 0, none⟩) (N + 1) cb).ownBlock ∧ ∀ u ∈ vsb, some k ≠ u.ownBlock) ∧ bl ≤ k ∧ k < W.heap.size) ∧ some k ≠ (Value.slice (some ad) post.length ch).ownBlock) rfl rfl ?bO ?bR (fun x cs h => kd3.M_lower hwb h) (fun k hk => ⟨trivial, hk.1.1.1⟩) (fun _ _ => trivial) ?bB ?bS ?bL ?_; (case bO => have h := merge_prev (cb := cb) HVT.out (by rw [HNT.out]) HVS.out HG5.out HNE.out (OwnS_of_OI HO5.out (by intro e; have := congrArg List.length e; simp at this; have := this.2; rw [this] at hr1; simp at hr1)); rw [HNT.out] at h; exact Kd.R_lower h hwb); (case bR => have h1 := Kd.R_grown HHk.out HG5.out (fun k hk => hk.1.2 _ (List.mem_of_getElem? HVS.out)); have h2 := Kd.R_far (d := kd3) h1 (p := ⟨gb, N, none⟩) (fun k hk e => hk.1.1 (by rw [e]; rfl)) (.slice A5 (s2.length + r.length) c5); obtain ⟨A7, c7, e7, _, hrr7⟩ := R_reads' h2; injection e7 with e7 e8 e9; subst e7 e9; exact hrr7); (case bB => exact (hbw.trans (HB5.out.mono hwb)).setCell (by show w.heap.size ≤ gb; have := HGL.out; omega) _); (case bS => have := hbw.size; have := HB5.out.size; simp; omega); (case bL => have := HNT2.out; omega); intro v6 w6 ho6 hb6 hg6 hat6; have HO6 := Aside0.mk ho6; clear ho6 hg6 hat6)))
              rw [← hQ0]
              go_ret2
              exact hRR.out _ _ (by rw [HP.out]; exact OR_ra HO6.out) hb6
            · have hnm : ∀ t s, pre = t ++ [s] → ¬ ((s.length + r.length : Nat) : Int) ≤ b := by
                intro t s e
                have e4 : s2 = s := by
                  have := HPRE.out.symm.trans e
                  have := congrArg List.getLast? this
                  simpa using this
                subst e4
                omega
              have HP : Aside0 (remP b pre r post = pre ++ [r] ++ post) := ⟨by rw [remP_alone HR0.out HGE.out HN.out hnm]; simp⟩
              clear hnm
              go_wp2_with (first | ((with_reducible refine at_b (b := .append) (xs := #[.tmp 127, .tmp 129]) rfl ?_); go_must (refine Kd.R_append kd3 (w0 := w) (W := W) w.heap.size rfl (.tmp 127) (.tmp 129) 24 22 (.slice none 0 0) 24 rfl Try.underlying24 infoA22 rfl (by decide) (by omega) _ pre r [.slice Al r.length cl] Tr (fun k => Tr k ∧ some k ≠ (Value.slice (some ⟨gb, 0, none⟩) (N + 1) cb).ownBlock) rfl rfl (M_not_outer (Kd.R_lower HOB.out hwb) (M_of_OI HL.out.1)) (fun _ h => h) (fun _ _ => trivial) (Kd.R_lower HOB.out hwb) hbw hbw.size ?bL ?_; (case bL => omega); intro v5 w5 ho5 hb5 hg5 hat5; have HO5 := Aside0.mk ho5; have HH5 := Aside0.mk (R_reads' (Kd.R_grown HHk.out hg5 (fun k hk => hk.1.1))); have HAT5 := Aside0.mk hat5; clear ho5 hg5 hat5; obtain ⟨A5, c5, e5, _, hrr5⟩ := HH5.out; injection e5 with e5 e6 e7; subst e5 e7; have HRR5 := Aside0.mk hrr5; clear hrr5 e6)) | ((with_reducible refine at_b (b := .append) (xs := #[.tmp 130, .tmp 131]) rfl ?_); go_must (refine Kd.R_append_rows kd3 (w0 := w) (W := w5) w.heap.size rfl (.tmp 130) (.tmp 131) 24 22 (.slice none 0 0) 24 rfl Try.underlying24 infoA22 rfl (by decide) (by omega) _ (pre ++ [r]) post _ _ _ Tr (fun k => ((some k ≠ (Value.slice (some ⟨gb, 0, none⟩) (N + 1) cb).ownBlock ∧ ∀ u ∈ vsb, some k ≠ u.ownBlock) ∧ bl ≤ k ∧ k < W.heap.size) ∧ some k ≠ (Value.slice (some ad) post.length ch).ownBlock) rfl rfl HO5.out HRR5.out (fun x cs h => kd3.M_lower hwb h) (fun k hk => ⟨trivial, not_grown HAT5.out hk.1.1.1 hk.1.2.2⟩) (fun _ _ => trivial) hb5 hb5.size ?bL ?_; (case bL => rw [List.length_append, List.length_singleton]; omega); intro v6 w6 ho6 hb6 hg6 hat6; have HO6 := Aside0.mk ho6; clear ho6 hg6 hat6)))
              rw [← hQ0]
              go_ret2
              exact hRR.out _ _ (by rw [HP.out]; exact OR_ra HO6.out) hb6
end Go.Proofs.Ytjpobhdgfdeenaa.A
