/- take of the reference. -/
import Derived.StillTailTactics
import Derived.Deep.DrawnRows
import Derived.BigQuiet
import Derived.Deep.RegionHeld3
import Derived.Test.YtjpobhdgfdeenaaA44
set_option linter.unusedVariables false
set_option linter.unusedSimpArgs false
namespace Go.Proofs.Ytjpobhdgfdeenaa.A
open Go.RowKit Go.Proofs.YtjpobhdgfdeenaaW.PrintWords Go.Maps

theorem copied_any {A : Option Addr} {m c : Nat} {l : List (List Int)} {w W : World} (h : Aside0 (Kd.C (Kd.slice 3 (Kd.int .i64)) w A m l)) (hs : Aside0 (l.length ≤ 1000000)) (hs2 : Aside0 (∀ x ∈ l, x ≠ [] ∧ x.length ≤ 1000000)) (hb : Below w.heap.size w W) :
    Calls Try.prog 63 #[.slice A m c] W fun e w' => ∃ v, e = .returned v ∧ Aside0 (OwnM w' W.heap.size v l ∧ Below W.heap.size W w') := by
  have hm : l.length = m := h.out.1
  subst hm
  refine (copied_own A c l W (Kd.C_below h.out hb) hs.out hs2.out).mono ?_
  rintro e w' ⟨v, rfl, ho, hb'⟩
  exact ⟨v, rfl, ⟨ho, hb'⟩⟩
theorem below_then {n : Nat} {w W w' : World} (h : Below n w W) (hn : n = w.heap.size) (h' : Below W.heap.size W w') : Below n w w' := h.trans (h'.mono (by have := h.size; omega))
theorem ownV_lt {W : World} {bl : Nat} {vb : Value} {vsb : List Value} {pre : List (List Int)} (h : OwnV W bl vb vsb pre) : (∀ k, vb.ownBlock = some k → bl ≤ k ∧ k < W.heap.size) ∧ ∀ u ∈ vsb, ∀ k, u.ownBlock = some k → bl ≤ k ∧ k < W.heap.size := by
  refine ⟨fun k hk => ⟨own_base h.1 k hk, own_lt h.1 k hk⟩, fun u hu k hk => ?_⟩
  obtain ⟨i, hi, rfl⟩ := List.getElem_of_mem hu
  have hl := h.2.1.len
  obtain ⟨g5, c5, _, e5, h5, h6, _⟩ := own_addr ((F2_iff.1 (OwnV.S h)).2 i _ _ (List.getElem?_eq_getElem hi) (List.getElem?_eq_getElem (by omega)))
  rw [e5] at hk
  injection hk with hk
  omega
/-- Rows copied behind others: none of their blocks is one of the others'. -/
theorem apart_of {W : World} {b1 b2 : Nat} {vb vh : Value} {vsb vsh : List Value} {pre post : List (List Int)} (h1 : OwnV W b1 vb vsb pre) (h2 : OwnV W b2 vh vsh post) (bl : Nat) (hb : bl ≤ b2)
    (hd : ∀ k j, ((vb.ownBlock = some k) ∨ ∃ u ∈ vsb, u.ownBlock = some k) → ((vh.ownBlock = some j) ∨ ∃ u ∈ vsh, u.ownBlock = some j) → j ≠ k) :
    Kd.R kd3 22 W bl (fun k => some k ≠ vb.ownBlock ∧ ∀ u ∈ vsb, some k ≠ u.ownBlock) vh post :=
  Kd.R_lower (own_orOk h2.1 (OwnV.S h2) (fun k hk => ⟨fun e => hd k k (.inl e.symm) (.inl hk) rfl, fun u hu e => hd k k (.inr ⟨u, hu, e.symm⟩) (.inl hk) rfl⟩) (fun u hu k hk => ⟨fun e => hd k k (.inl e.symm) (.inr ⟨u, hu, hk⟩) rfl, fun u' hu' e => hd k k (.inr ⟨u', hu', e.symm⟩) (.inr ⟨u, hu, hk⟩) rfl⟩)) hb
set_option maxRecDepth 100000 in
set_option maxHeartbeats 4000000 in
theorem take_calls (b m : Int) (A : Option Addr) (c : Nat) (l : List (List Int)) (w : World) (hr : Kd.C (Kd.slice 3 (Kd.int .i64)) w A l.length l) (hlc : l.length ≤ c) (hb : 2 ≤ b ∧ b ≤ 50) (hs : l.flatten.length ≤ 500) (hrows : Rows b l) (h0 : 0 ≤ m) (h1 : m < l.flatten.length) :
    Calls Try.prog 59 #[.int .i64 b, .slice A l.length c, .int .i64 m] w fun e w' => ∃ v, e = .returned (.tuple #[v, .int .i64 (remF b l m).2]) ∧ RA w' v (remF b l m).1 ∧ Below w.heap.size w w' := by
  obtain ⟨j, q, rj, hat, hj, hq, _, _⟩ := remF_rem (b := b) h0 h1
  have HAT := Aside0.mk hat
  have hspot := spotF_at hat
  have hrem := remF_at (b := b) hat hj
  obtain ⟨rw0, hrw0, hmq, _⟩ := hat
  have hjl : j < l.length := (List.getElem?_eq_some_iff.1 hj).1
  obtain ⟨ad, A0, c0, row2, hA, hdrop, hcell, hrl, hrowC⟩ := C_row hr j hjl
  have hr2 : row2 = rj := by
    rw [List.drop_eq_getElem_cons hjl] at hdrop
    injection hdrop with h1 _
    rw [← h1]
    exact (List.getElem?_eq_some_iff.1 hj).2
  subst hr2
  subst hA
  obtain ⟨ad2, key, hA2, hd2, hcell2⟩ := C_int hrowC q hq
  subst hA2
  have hkey : row2.getD q 0 = key := by
    rw [List.drop_eq_getElem_cons hq] at hd2
    injection hd2 with h9 _
    rw [List.getD_eq_getElem?_getD, List.getElem?_eq_getElem hq, h9]; rfl
  have hr60 := hrows row2 (List.mem_of_getElem? hj)
  have hrl60 : row2.length ≤ 50 := by omega
  obtain ⟨F, hF⟩ : ∃ F, F = (l.take j).flatten.length := ⟨_, rfl⟩
  rw [← hF] at hspot hmq
  have hfl : F + row2.length ≤ 500 := by
    have h1 := flat_len l (j + 1)
    rw [flat_drop l j row2 hdrop, List.length_append] at h1
    omega
  have hsp := spot_calls (some ad) c l m w hr (by omega)
  rw [hspot] at hsp
  dsimp only at hsp
  have hw1 : IntKind.i64.wrap (m - (F : Int)) = (q : Int) := by rw [hmq, IntKind.wrap_i64]; omega
  have hll : l.length ≤ 500 := Nat.le_trans (rows_len hrows) hs
  have hsplit := split_at hj
  have hpl : (l.take j).length = j := by rw [List.length_take]; omega
  have hremP : remL b l j (row2.eraseIdx q) = remP b (l.take j) (row2.eraseIdx q) (l.drop (j + 1)) := by
    conv => lhs; rw [hsplit]
    have := remL_remP b (l.take j) (l.drop (j + 1)) row2 (row2.eraseIdx q)
    rw [hpl] at this
    exact this
  rw [hrem, hremP, hkey]
  have HR := Aside0.mk hr
  have HSP := Aside0.mk hsp
  have HRC := Aside0.mk hrowC
  have HROWS := Aside0.mk hrows
  have HHB := Aside0.mk hb
  have HF := Aside0.mk (And.intro hF hfl)
  have herase : row2.eraseIdx q = row2.take q ++ row2.drop (q + 1) := List.eraseIdx_eq_take_drop_succ row2 q
  have hel : (row2.eraseIdx q).length = row2.length - 1 := List.length_eraseIdx_of_lt hq
  have HER := Aside0.mk (And.intro herase hel)
  have HCP1 : Aside0 (Kd.C (Kd.slice 3 (Kd.int .i64)) w (some ad) j (l.take j)) := ⟨by
    have := Kd.C_take hr (show j ≤ l.length by omega)
    rwa [hpl] at this⟩
  have HCP2 : Aside0 (Kd.C (Kd.slice 3 (Kd.int .i64)) w (if c = j + 1 then some ad else some { block := ad.block, off := ad.off + (j + 1) }) (l.length - (j + 1)) (l.drop (j + 1))) := ⟨by
    have := Kd.C_drop (c := c) hr (show j + 1 ≤ l.length by omega) hlc
    rw [List.length_drop] at this
    split
    · rename_i e; rwa [if_pos e] at this
    · rename_i e
      rw [if_neg e, show (j + 1) * (Kd.slice 3 (Kd.int .i64)).sz = j + 1 from Nat.mul_one _] at this
      simpa [Addr.add] using this⟩
  have HR1 : Aside0 ((l.take j).length ≤ 1000000) := ⟨by omega⟩
  have HR2 : Aside0 ((l.drop (j + 1)).length ≤ 1000000) := ⟨by rw [List.length_drop]; omega⟩
  have HQ1 : Aside0 (∀ x ∈ l.take j, x ≠ [] ∧ x.length ≤ 1000000) := ⟨fun x hx => by have := hrows x (List.mem_of_mem_take hx); exact ⟨this.1, by omega⟩⟩
  have HQ2 : Aside0 (∀ x ∈ l.drop (j + 1), x ≠ [] ∧ x.length ≤ 1000000) := ⟨fun x hx => by have := hrows x (List.mem_of_mem_drop hx); exact ⟨this.1, by omega⟩⟩
  have HQ3 : Aside0 (∀ x ∈ l.take j ++ l.drop (j + 1), x.length ≤ 60) := ⟨fun x hx => by
    have hm : x ∈ l := by
      rcases List.mem_append.1 hx with hx | hx
      · exact List.mem_of_mem_take hx
      · exact List.mem_of_mem_drop hx
    have := hrows x hm
    omega⟩
  have HT : Aside0 (Kd.C (Kd.int .i64) w (some ad2) q (row2.take q)) := ⟨by
    have := Kd.C_take hrowC (show q ≤ row2.length by omega)
    rwa [show (row2.take q).length = q by rw [List.length_take]; omega] at this⟩
  have HDp : Aside0 (Kd.C (Kd.int .i64) w (if c0 = q + 1 then some ad2 else some { block := ad2.block, off := ad2.off + (q + 1) }) (row2.length - (q + 1)) (row2.drop (q + 1))) := ⟨by
    have := Kd.C_drop (c := c0) hrowC (show q + 1 ≤ row2.length by omega) hrl
    rw [List.length_drop] at this
    split
    · rename_i e; rwa [if_pos e] at this
    · rename_i e
      rw [if_neg e, show (q + 1) * (Kd.int .i64).sz = q + 1 from Nat.mul_one _] at this
      simpa [Addr.add] using this⟩
  clear hr hsp hrowC hspot hmq hfl hF hsplit hpl hremP hrem hkey hrows hdrop hd2 hj hb hs hel herase hr60 h0 h1 hrw0
  have hj0 : (0 : Int) ≤ (j : Int) := by omega
  have hj1 : (j : Int) < (l.length : Int) := by omega
  have hj2 : (j : Int) ≤ (c : Int) := by omega
  have hj3 : IntKind.i64.wrap ((j : Int) + 1) = (j : Int) + 1 := wrap_small _ (by omega) (by omega)
  have hj4 : (j : Int) + 1 ≤ (l.length : Int) := by omega
  have hj5 : (0 : Int) ≤ (j : Int) + 1 := by omega
  have hj6 : (l.length : Int) ≤ (c : Int) := by omega
  have hq0 : (0 : Int) ≤ (q : Int) := by omega
  have hq1 : (q : Int) < (row2.length : Int) := by omega
  have hq2 : (q : Int) ≤ (c0 : Int) := by omega
  have hq3 : IntKind.i64.wrap ((q : Int) + 1) = (q : Int) + 1 := wrap_small _ (by omega) (by omega)
  have hq4 : (q : Int) + 1 ≤ (row2.length : Int) := by omega
  have hq5 : (0 : Int) ≤ (q : Int) + 1 := by omega
  have hq6 : (row2.length : Int) ≤ (c0 : Int) := by omega
  have hca := fun (X : World) (h : Below w.heap.size w X) => pw_cell_below h hcell
  have hcb := fun (X : World) (h : Below w.heap.size w X) => pw_cell_below h hcell2
  rcases Decidable.em (c = j + 1) with hcj | hcj
  · have HCP3 : Aside0 (Kd.C (Kd.slice 3 (Kd.int .i64)) w (some ad) 0 (l.drop (j + 1))) := ⟨by have := HCP2.out; rwa [if_pos hcj, show l.length - (j + 1) = 0 by omega] at this⟩
    have hj7 : (j : Int) ≤ (j : Int) + 1 := by omega
    subst hcj
    go_enter Try.func59, Try.ntmps59
    go_wp2_with (go_at_call 50; go_must (refine HSP.out.mono ?_; rintro e w1 ⟨rfl, hd1⟩; have hbel : Below w.heap.size w w1 := (by obtain ⟨n1, rfl⟩ := hd1; exact pw_below_drewN (Below.refl _ _) n1); have hc1 := hca _ hbel; have hc2 := hcb _ hbel; clear hd1))
    have hcellw := hcell
    have hbelw := hbel
    have hOA : Aside0 (OI (w1.alloc (.cells #[] 3)).drew w.heap.size (.slice (some ⟨w1.heap.size, 0, none⟩) 0 0) []) := ⟨OI_below (OI_empty hbel.size) (below_drew (Below.refl _ _))⟩
    clear hca hcb hc1 hc2
    go_region_held3 (fun w' => w'.cell? (ad.add j) = some (.slice (some ad2) row2.length c0) ∧ Below w.heap.size w w') ((refine (fun h => ⟨pw_cell_below h hcellw, h⟩ : Below w.heap.size w _ → _) ?_; (repeat first | exact hbelw | exact hb3 | exact hb1 | refine below_drew ?_ | refine below_alloc ?_ _))) (first
      | (refine Kd.R_append_rows_step (Kd.int .i64) (w0 := w) w.heap.size (by rfl) (.tmp 32) (.tmp 38) 22 3 (.int .i64 0) 8 rfl Try.underlying22 infoA3 rfl (by decide) (by omega) _ [] (row2.take q) _ _ _ Tr (fun _ => False) rfl rfl hOA.out ?bR (fun _ _ h => h) (fun _ h => h.elim) (fun _ _ => trivial) (‹_ ∧ Below w.heap.size w _›).2 (‹_ ∧ Below w.heap.size w _›).2.size ?bL ?_; (case bR => exact Kd.C_below HT.out (‹_ ∧ Below w.heap.size w _›).2); (case bL => simp; omega); intro v1 w1 ho1 hb1 hg1 hat1; have HO1 := Aside0.mk ho1; clear ho1 hg1 hat1)
      | (refine Kd.R_append_rows_step (Kd.int .i64) (w0 := w) w.heap.size (by rfl) (.tmp 39) (.tmp 46) 22 3 (.int .i64 0) 8 rfl Try.underlying22 infoA3 rfl (by decide) (by omega) _ ([] ++ row2.take q) (row2.drop (q + 1)) _ _ _ Tr (fun _ => False) rfl rfl HO1.out ?bR (fun _ _ h => h) (fun _ h => h.elim) (fun _ _ => trivial) (‹_ ∧ Below w.heap.size w _›).2 (‹_ ∧ Below w.heap.size w _›).2.size ?bL ?_; (case bR => exact Kd.C_below HDp.out (‹_ ∧ Below w.heap.size w _›).2); (case bL => simp; omega); intro v3 w3 ho3 hb3 hg3 hat3; have HO3 := Aside0.mk ho3; clear ho3 hg3 hat3))
    all_goals
      rename_i KK hKK hHH
      refine hKK _ _ ?_
      clear hKK KK
      have hsz3 := hb3.size
      have HV3 : Aside0 (OI w3 w.heap.size v3 (row2.eraseIdx q)) := ⟨by rw [HER.out.1]; have := HO3.out; simpa using this⟩
      have HB3 := Aside0.mk hb3
      obtain ⟨base3, hbase3⟩ : ∃ n, n = w3.heap.size := ⟨_, rfl⟩
      have HBS := Aside0.mk hbase3
      have hbb : Below base3 w3 w3 := Below.refl _ _
      have HC1 : ∀ X, Below base3 w3 X → Aside0 (Calls Try.prog 63 #[.slice (some ad) j (j + 1)] X fun e w' => ∃ v, e = .returned v ∧ Aside0 (OwnM w' X.heap.size v (l.take j) ∧ Below X.heap.size X w')) := fun X hX => ⟨copied_any HCP1 HR1 HQ1 (HB3.out.trans (hX.mono (by have := HBS.out; omega)))⟩
      have HC2 : ∀ X cap, Below base3 w3 X → Aside0 (Calls Try.prog 63 #[.slice (some ad) 0 cap] X fun e w' => ∃ v, e = .returned v ∧ Aside0 (OwnM w' X.heap.size v (l.drop (j + 1)) ∧ Below X.heap.size X w')) := fun X cap hX => ⟨copied_any HCP3 HR2 HQ2 (HB3.out.trans (hX.mono (by have := HBS.out; omega)))⟩
      have hb33 := hb3
      clear hcellw hbelw hOA hHH HO1 HO3 hcell hcell2 hbase3
      go_wp2
    all_goals
      go_region_held3 (fun w' => Below base3 w3 w') (first | assumption | (refine below_drew ?_; assumption) | (exact below_then ‹Below base3 w3 _› HBS.out HM13.out.2) | (exact below_then ‹Below base3 w3 _› HBS.out HM14.out.2)) (first
        | (go_at_call 63; (with_reducible refine (HC1 _ ‹Below base3 w3 _›).out.mono ?_); rintro e w13 ⟨v13, rfl, HM13⟩)
        | (go_at_call 63; (with_reducible refine (HC2 _ _ ‹Below base3 w3 _›).out.mono ?_); rintro e w14 ⟨v14, rfl, HM14⟩))
    all_goals
      rename_i KK hKK hHH
      obtain ⟨vsb, hvb⟩ := HM13.out.1
      obtain ⟨vsh, hvh⟩ := HM14.out.1
      have hb13 := HM13.out.2
      have hb14 := HM14.out.2
      have hbs := HBS.out
      have hs13 : w3.heap.size ≤ w13.heap.size := hb13.size
      have hs14 := hb14.size
      have hvb14 := hvb.below hb14
      have hl1 := ownV_lt hvb
      have hl2 := ownV_lt hvh
      have hap := apart_of hvb14 hvh base3 (by omega) (fun k i hk hi => by
        have h1 : k < w13.heap.size := by
          rcases hk with hk | ⟨u, hu, hk⟩
          · exact (hl1.1 k hk).2
          · exact (hl1.2 u hu k hk).2
        have h2 : w13.heap.size ≤ i := by
          rcases hi with hi | ⟨u, hu, hi⟩
          · exact (hl2.1 i hi).1
          · exact (hl2.2 u hu i hi).1
        omega)
      have hb3w : Below w3.heap.size w3 w14 := (below_drew (Below.refl w3.heap.size w3)).trans (Below.trans hb13 (hb14.mono hs13))
      refine hKK _ _ (take_tail b key (row2.eraseIdx q) (l.take j) (l.drop (j + 1)) v3 v13 v14 _ _ _ _ _ _ _ _ _ _ _ _ _ _ _ _ _ _ _ _ _ _ _ _ _ _ _ _ _ _ _ _ _ _ _ _ _ _ _ _ _ _ _ _ _ _ _ _ _ _ _ _ vsb w w14 base3 HHB.out.1 HHB.out.2 ⟨OI_below HV3.out hb3w, fun k hk => by have := Kd.R_lt HV3.out k hk; omega⟩ ⟨hvb14.low (by show base3 ≤ w3.heap.size; omega)⟩ ⟨hap⟩ (by omega) (HB3.out.trans (hb3w.mono hsz3)) (by omega) (by rw [HER.out.2]; omega) (by rw [List.length_take]; omega) (by rw [List.length_drop]; omega) HQ3 _ ?_)
      intro v W' hra hbw
      exact ⟨v, rfl, hra, hbw⟩

  · have HCP3 : Aside0 (Kd.C (Kd.slice 3 (Kd.int .i64)) w (some { block := ad.block, off := ad.off + (j + 1) }) (l.length - (j + 1)) (l.drop (j + 1))) := ⟨by have := HCP2.out; rwa [if_neg hcj] at this⟩
    go_enter Try.func59, Try.ntmps59
    go_wp2_with (go_at_call 50; go_must (refine HSP.out.mono ?_; rintro e w1 ⟨rfl, hd1⟩; have hbel : Below w.heap.size w w1 := (by obtain ⟨n1, rfl⟩ := hd1; exact pw_below_drewN (Below.refl _ _) n1); have hc1 := hca _ hbel; have hc2 := hcb _ hbel; clear hd1))
    have hcellw := hcell
    have hbelw := hbel
    have hOA : Aside0 (OI (w1.alloc (.cells #[] 3)).drew w.heap.size (.slice (some ⟨w1.heap.size, 0, none⟩) 0 0) []) := ⟨OI_below (OI_empty hbel.size) (below_drew (Below.refl _ _))⟩
    clear hca hcb hc1 hc2
    go_region_held3 (fun w' => w'.cell? (ad.add j) = some (.slice (some ad2) row2.length c0) ∧ Below w.heap.size w w') ((refine (fun h => ⟨pw_cell_below h hcellw, h⟩ : Below w.heap.size w _ → _) ?_; (repeat first | exact hbelw | exact hb3 | exact hb1 | refine below_drew ?_ | refine below_alloc ?_ _))) (first
      | (refine Kd.R_append_rows_step (Kd.int .i64) (w0 := w) w.heap.size (by rfl) (.tmp 32) (.tmp 38) 22 3 (.int .i64 0) 8 rfl Try.underlying22 infoA3 rfl (by decide) (by omega) _ [] (row2.take q) _ _ _ Tr (fun _ => False) rfl rfl hOA.out ?bR (fun _ _ h => h) (fun _ h => h.elim) (fun _ _ => trivial) (‹_ ∧ Below w.heap.size w _›).2 (‹_ ∧ Below w.heap.size w _›).2.size ?bL ?_; (case bR => exact Kd.C_below HT.out (‹_ ∧ Below w.heap.size w _›).2); (case bL => simp; omega); intro v1 w1 ho1 hb1 hg1 hat1; have HO1 := Aside0.mk ho1; clear ho1 hg1 hat1)
      | (refine Kd.R_append_rows_step (Kd.int .i64) (w0 := w) w.heap.size (by rfl) (.tmp 39) (.tmp 46) 22 3 (.int .i64 0) 8 rfl Try.underlying22 infoA3 rfl (by decide) (by omega) _ ([] ++ row2.take q) (row2.drop (q + 1)) _ _ _ Tr (fun _ => False) rfl rfl HO1.out ?bR (fun _ _ h => h) (fun _ h => h.elim) (fun _ _ => trivial) (‹_ ∧ Below w.heap.size w _›).2 (‹_ ∧ Below w.heap.size w _›).2.size ?bL ?_; (case bR => exact Kd.C_below HDp.out (‹_ ∧ Below w.heap.size w _›).2); (case bL => simp; omega); intro v3 w3 ho3 hb3 hg3 hat3; have HO3 := Aside0.mk ho3; clear ho3 hg3 hat3))
    all_goals
      rename_i KK hKK hHH
      refine hKK _ _ ?_
      clear hKK KK
      have hsz3 := hb3.size
      have HV3 : Aside0 (OI w3 w.heap.size v3 (row2.eraseIdx q)) := ⟨by rw [HER.out.1]; have := HO3.out; simpa using this⟩
      have HB3 := Aside0.mk hb3
      obtain ⟨base3, hbase3⟩ : ∃ n, n = w3.heap.size := ⟨_, rfl⟩
      have HBS := Aside0.mk hbase3
      have hbb : Below base3 w3 w3 := Below.refl _ _
      have HC1 : ∀ X, Below base3 w3 X → Aside0 (Calls Try.prog 63 #[.slice (some ad) j c] X fun e w' => ∃ v, e = .returned v ∧ Aside0 (OwnM w' X.heap.size v (l.take j) ∧ Below X.heap.size X w')) := fun X hX => ⟨copied_any HCP1 HR1 HQ1 (HB3.out.trans (hX.mono (by have := HBS.out; omega)))⟩
      have HC2 : ∀ X cap, Below base3 w3 X → Aside0 (Calls Try.prog 63 #[.slice (some { block := ad.block, off := ad.off + (j + 1) }) (l.length - (j + 1)) cap] X fun e w' => ∃ v, e = .returned v ∧ Aside0 (OwnM w' X.heap.size v (l.drop (j + 1)) ∧ Below X.heap.size X w')) := fun X cap hX => ⟨copied_any HCP3 HR2 HQ2 (HB3.out.trans (hX.mono (by have := HBS.out; omega)))⟩
      have hb33 := hb3
      clear hcellw hbelw hOA hHH HO1 HO3 hcell hcell2 hbase3
      go_wp2
    all_goals
      go_region_held3 (fun w' => Below base3 w3 w') (first | assumption | (refine below_drew ?_; assumption) | (exact below_then ‹Below base3 w3 _› HBS.out HM13.out.2) | (exact below_then ‹Below base3 w3 _› HBS.out HM14.out.2)) (first
        | (go_at_call 63; (with_reducible refine (HC1 _ ‹Below base3 w3 _›).out.mono ?_); rintro e w13 ⟨v13, rfl, HM13⟩)
        | (go_at_call 63; (with_reducible refine (HC2 _ _ ‹Below base3 w3 _›).out.mono ?_); rintro e w14 ⟨v14, rfl, HM14⟩))
    all_goals
      rename_i KK hKK hHH
      obtain ⟨vsb, hvb⟩ := HM13.out.1
      obtain ⟨vsh, hvh⟩ := HM14.out.1
      have hb13 := HM13.out.2
      have hb14 := HM14.out.2
      have hbs := HBS.out
      have hs13 : w3.heap.size ≤ w13.heap.size := hb13.size
      have hs14 := hb14.size
      have hvb14 := hvb.below hb14
      have hl1 := ownV_lt hvb
      have hl2 := ownV_lt hvh
      have hap := apart_of hvb14 hvh base3 (by omega) (fun k i hk hi => by
        have h1 : k < w13.heap.size := by
          rcases hk with hk | ⟨u, hu, hk⟩
          · exact (hl1.1 k hk).2
          · exact (hl1.2 u hu k hk).2
        have h2 : w13.heap.size ≤ i := by
          rcases hi with hi | ⟨u, hu, hi⟩
          · exact (hl2.1 i hi).1
          · exact (hl2.2 u hu i hi).1
        omega)
      have hb3w : Below w3.heap.size w3 w14 := (below_drew (Below.refl w3.heap.size w3)).trans (Below.trans hb13 (hb14.mono hs13))
      refine hKK _ _ (take_tail b key (row2.eraseIdx q) (l.take j) (l.drop (j + 1)) v3 v13 v14 _ _ _ _ _ _ _ _ _ _ _ _ _ _ _ _ _ _ _ _ _ _ _ _ _ _ _ _ _ _ _ _ _ _ _ _ _ _ _ _ _ _ _ _ _ _ _ _ _ _ _ _ vsb w w14 base3 HHB.out.1 HHB.out.2 ⟨OI_below HV3.out hb3w, fun k hk => by have := Kd.R_lt HV3.out k hk; omega⟩ ⟨hvb14.low (by show base3 ≤ w3.heap.size; omega)⟩ ⟨hap⟩ (by omega) (HB3.out.trans (hb3w.mono hsz3)) (by omega) (by rw [HER.out.2]; omega) (by rw [List.length_take]; omega) (by rw [List.length_drop]; omega) HQ3 _ ?_)
      intro v W' hra hbw
      exact ⟨v, rfl, hra, hbw⟩

end Go.Proofs.Ytjpobhdgfdeenaa.A
