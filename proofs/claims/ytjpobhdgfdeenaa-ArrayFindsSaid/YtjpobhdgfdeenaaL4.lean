/- The law ArrayFinds. -/
import Derived.Test.YtjpobhdgfdeenaaProg
import Derived.Below
import Derived.Deep.Draws
import Derived.Deep.AppendLies
import Derived.Maps.AppendAt
import Derived.Maps.OwnSet
import Derived.OwnWalk
import Derived.Laws.BytesArg
import Derived.Laws.MakeOwn
import Derived.Laws.OwnMore
import Derived.Deep.OwnRows
import Derived.Tactics
import Derived.Laws.Slices
import Derived.WalkKit
import Derived.KernelRfl
import Derived.RowKit3
import Derived.Deep.LoopGhost
import Derived.Deep.QuietTactic
import Derived.BigQuiet
import Derived.WideLaws
import Derived.Deep.DeepCutAuto
import Derived.Deep.CutBlock
import Derived.Deep.RegionHeld3
import Derived.Laws.Rows
import Derived.ArgAppend
import Derived.Laws.IdiomCopy
import Derived.OrdersHeld
import Derived.Laws.BitsLemmas
import Derived.Outline
import Derived.WalkSpells
import Derived.Lib.Hide
import Derived.RowKit
import Derived.Deep.DeepMust
import Derived.BigQuiet
import Derived.Test.YtjpobhdgfdeenaaL1
import Derived.Test.YtjpobhdgfdeenaaA26
set_option linter.unusedVariables false
set_option linter.unusedSimpArgs false
namespace Go.Proofs.Ytjpobhdgfdeenaa.A
open Go.RowKit Go.Proofs.YtjpobhdgfdeenaaW.PrintWords Go.Maps

theorem at_ok {b m : Int} {l : List (List Int)} (h : (atF b l m).2.2 = 0) : ∃ (j q M : Nat) (row : List Int), validB b l = true ∧ m = M ∧ atF b l m = ((j : Int), (q : Int), 0) ∧ l[j]? = some row ∧ q < row.length ∧ M < l.flatten.length ∧ l.flatten[M]? = row[q]? := by
  unfold atF at h
  split at h
  · rename_i hv
    split at h
    · cases h
    · rename_i hm
      have hne : l ≠ [] := by rintro rfl; simp at hm; omega
      obtain ⟨p, hp, he⟩ := posAll_all l 0 0 m (by omega) (by omega)
      obtain ⟨j, q, ha, hj, hq, hf⟩ := At_of_pos hp
      rw [he] at ha
      have hs := spotF_at ha
      obtain ⟨row, hr, hmq, hor⟩ := ha
      have hat : atF b l m = ((spotF l m).1, m - (spotF l m).2, 0) := by unfold atF; rw [if_pos hv, if_neg hm]
      have hsp := split_at hr
      have hf2 : l.flatten = (l.take j).flatten ++ (row ++ (l.drop (j + 1)).flatten) := by
        conv => lhs; rw [hsp]
        simp
      have hlen : l.flatten.length = (l.take j).flatten.length + (row.length + (l.drop (j + 1)).flatten.length) := by
        conv => lhs; rw [hf2]
        simp
      have hqr : q < row.length := by
        rcases hor with h | ⟨h1, h2⟩
        · exact h
        · have : l.drop (j + 1) = [] := List.drop_eq_nil_of_le (by omega)
          rw [this, List.flatten_nil, List.length_nil] at hlen
          omega
      refine ⟨j, q, (l.take j).flatten.length + q, row, hv, hmq, by rw [hat, hs]; simp only [Prod.mk.injEq, true_and, and_true]; omega, hr, hqr, by omega, ?_⟩
      conv => lhs; arg 1; rw [hf2]
      rw [List.getElem?_append_right (by omega), Nat.add_sub_cancel_left, List.getElem?_append_left hqr]
  · cases h
theorem find_at {b x : Int} {M : Nat} {l : List (List Int)} (hv : validB b l = true) (h : l.flatten[M]? = some x) : findF b l x = ((M : Int), 0) := by
  have ha := (validB_iff b l).1 hv
  have hx : x ∈ l.flatten := List.mem_of_getElem? h
  have hM : M < l.flatten.length := (List.getElem?_eq_some_iff.1 h).1
  have hs : l.flatten = l.flatten.take M ++ x :: l.flatten.drop (M + 1) := by
    have h6 : l.flatten[M] = x := (List.getElem?_eq_some_iff.1 h).2
    rw [← h6, ← List.drop_eq_getElem_cons hM, List.take_append_drop]
  have hn : x ∉ l.flatten.take M := fun hm => by
    have := ha.nodup
    rw [hs, List.nodup_append] at this
    exact this.2.2 x hm x (by simp) rfl
  have hi : idxF l.flatten x = M := by
    unfold idxF
    conv => lhs; arg 3; rw [hs]
    rw [idxFrom_split x _ _ 0 hn, List.length_take]
    omega
  unfold findF
  rw [if_pos ⟨hv, ha.keys x hx⟩, hi, if_neg (by omega)]
theorem C_rowcell {w : World} {A : Option Addr} {l : List (List Int)} {j q : Nat} {row : List Int} {x : Int} (h : Kd.C (Kd.slice 3 (Kd.int .i64)) w A l.length l) (hr : l[j]? = some row) (hx : row[q]? = some x) :
    ∃ ad ad2 c0, A = some ad ∧ w.cell? (ad.add j) = some (.slice (some ad2) row.length c0) ∧ row.length ≤ c0 ∧ w.cell? (ad2.add q) = some (.int .i64 x) := by
  have hjl : j < l.length := (List.getElem?_eq_some_iff.1 hr).1
  have hql : q < row.length := (List.getElem?_eq_some_iff.1 hx).1
  obtain ⟨ad, A0, c0, row2, hA, hdrop, hcell, hrl, hrowC⟩ := C_row h j hjl
  have hr2 : row2 = row := by
    rw [List.drop_eq_getElem_cons hjl] at hdrop
    injection hdrop with h1 _
    rw [← h1]
    exact (List.getElem?_eq_some_iff.1 hr).2
  subst hr2
  obtain ⟨ad2, y, hA2, hd2, hc2⟩ := C_int hrowC q hql
  have hy : y = x := by
    rw [List.drop_eq_getElem_cons hql] at hd2
    injection hd2 with h1 _
    rw [← h1]
    exact (List.getElem?_eq_some_iff.1 hx).2
  subst hA2 hy
  exact ⟨ad, ad2, c0, hA, hcell, hrl, hc2⟩
theorem drop_get {L r : List Int} {M : Nat} {x y : Int} (h : L.drop M = y :: r) (hx : L[M]? = some x) : y = x := by
  have hM : M < L.length := (List.getElem?_eq_some_iff.1 hx).1
  rw [List.drop_eq_getElem_cons hM] at h
  injection h with h _
  rw [← h]
  exact (List.getElem?_eq_some_iff.1 hx).2
set_option maxRecDepth 100000 in
set_option maxHeartbeats 4000000 in
theorem lawFinds_row (w : World) (b : Int) (_ : (Lit.int .i64 b).wf = true) (A : Option Addr) (c : Nat) (l : List (List Int)) (hr : Kd.C (Kd.slice 3 (Kd.int .i64)) w A l.length l) (_ : ∀ r ∈ l, ∀ n ∈ r, (Lit.int .i64 n).wf = true) (k : Int) (_ : (Lit.int .i64 k).wf = true) (n : Int) (_ : (Lit.int .i64 n).wf = true) :
    Calls Try.prog 5 #[.int .i64 b, .slice A l.length c, .int .i64 k, .int .i64 n] w fun e w' => e = .returned (.bool true) ∧ Below w.heap.size w w' := by
  have HR := Aside0.mk hr
  cases hl : lightF l with
  | false =>
    have HL := fun W h => Aside0.mk (light_calls A c l W h)
    rw [hl] at HL
    clear hr hl
    go_enter Try.func5, Try.ntmps5
    go_wp2_with (first | (go_at_call 16; go_must (refine (HL _ HR.out).out.mono ?_; rintro e w1 ⟨rfl, ⟨m, rfl⟩⟩)) | (go_at_call 9; go_must (refine (awake_calls _).mono ?_; rintro e w2 ⟨rfl, hb2⟩)))
    go_ret
    exact ⟨rfl, (pw_below_drewN (Below.refl _ _) m).trans hb2⟩
  | true =>
    have HL := fun W h => Aside0.mk (light_calls A c l W h)
    rw [hl] at HL
    clear hl
    have HF := fun W h => Aside0.mk (Find_calls b k A c l W h)
    have HRF := fun W h => Aside0.mk (rFind_calls b k A c l W h)
    have HN := fun W h => Aside0.mk (Nth_calls b n A c l W h)
    have HRN := fun W h => Aside0.mk (rNth_calls b n A c l W h)
    have HA := fun W h => Aside0.mk (At_calls b n A c l W h)
    have HRA := fun W h => Aside0.mk (rAt_calls b n A c l W h)
    generalize (findF b l k).1 = F1 at HF HRF
    generalize (findF b l k).2 = F2 at HF HRF
    generalize (nthF b l n).1 = N1 at HN HRN
    generalize (nthF b l n).2 = N2 at HN HRN
    by_cases hE : (atF b l n).2.2 = 0
    · obtain ⟨j, q, M, row, hv, rfl, hat, hrow, hq, hM, hfx⟩ := at_ok hE
      obtain ⟨x, hx⟩ : ∃ x, row[q]? = some x := ⟨row[q], List.getElem?_eq_getElem hq⟩
      rw [hx] at hfx
      have HF2 := fun W h => Aside0.mk (Find_calls b x A c l W h)
      simp only [find_at hv hfx] at HF2
      simp only [hat] at HA HRA
      have hk : keysF b l = l.flatten := by unfold keysF; rw [if_pos hv]
      have HK := fun W h => Aside0.mk (Keys_calls b A c l W h)
      rw [hk, hv] at HK
      obtain ⟨ad, ad2, c0, rfl, hc1, hc0, hc2⟩ := C_rowcell hr hrow hx
      have hjl : j < l.length := (List.getElem?_eq_some_iff.1 hrow).1
      have hj1 : (j : Int) < (l.length : Int) := by omega
      have hq1 : (q : Int) < (row.length : Int) := by omega
      have hfew := valid_few hv
      clear hr hE hat hk hrow hx hv
      generalize l.flatten = L at HK hfx hM hfew
      have hM0 : (M : Int) < (L.length : Int) := by omega
      go_enter Try.func5, Try.ntmps5
      go_wp2_with (first | (go_at_call 16; go_must (refine (HL _ HR.out).out.mono ?_; rintro e w1 ⟨rfl, ⟨m, rfl⟩⟩; have hb1 := pw_below_drewN (Below.refl w.heap.size w) m)) | (go_at_call 22; (with_reducible refine (HF _ (Kd.C_below HR.out hb1)).out.mono ?_); go_must (rintro e w2 ⟨rfl, hb2'⟩; have hb2 := hb1.trans (hb2'.mono hb1.size); clear hb2')) | (go_at_call 23; (with_reducible refine (HRF _ (Kd.C_below HR.out hb2)).out.mono ?_); go_must (rintro e w3 ⟨rfl, hb3'⟩; have hb3 := hb2.trans (hb3'.mono hb2.size); clear hb3')) | (go_at_call 24; (with_reducible refine (HN _ (Kd.C_below HR.out hb3)).out.mono ?_); go_must (rintro e w4 ⟨rfl, hb4'⟩; have hb4 := hb3.trans (hb4'.mono hb3.size); clear hb4')) | (go_at_call 25; (with_reducible refine (HRN _ (Kd.C_below HR.out hb4)).out.mono ?_); go_must (rintro e w5 ⟨rfl, hb5'⟩; have hb5 := hb4.trans (hb5'.mono hb4.size); clear hb5')) | (go_at_call 26; (with_reducible refine (HA _ (Kd.C_below HR.out hb5)).out.mono ?_); go_must (rintro e w6 ⟨rfl, hb6'⟩; have hb6 := hb5.trans (hb6'.mono hb5.size); clear hb6')) | (go_at_call 27; (with_reducible refine (HRA _ (Kd.C_below HR.out hb6)).out.mono ?_); go_must (rintro e w7 ⟨rfl, hb7'⟩; have hb7 := hb6.trans (hb7'.mono hb6.size); clear hb7')) | (go_at_call 13; go_must (refine (HK _ (Kd.C_below HR.out hb7)).out.mono ?_; rintro e w8 ⟨v8, rfl, ho8, hb8'⟩; have hb8 := hb7.trans (hb8'.mono hb7.size); clear hb8'; obtain ⟨A8, c8, e8, _, hC8⟩ := OI_reads ho8; subst e8; have HC8 := Aside0.mk hC8; clear hC8 ho8; have hc18 := pw_cell_below hb8 hc1; have hc28 := pw_cell_below hb8 hc2)) | (go_at_call 22; (with_reducible refine (HF2 _ (Kd.C_below HR.out hb8)).out.mono ?_); go_must (rintro e w9 ⟨rfl, hb9'⟩; have hb9 := hb8.trans (hb9'.mono hb8.size); obtain ⟨ad8, y8, hA8, hd8, hc8⟩ := C_int HC8.out M hM; subst hA8; have hc89 := pw_cell_below hb9' hc8; have hc19 := pw_cell_below hb9' hc18; have hc29 := pw_cell_below hb9' hc28; clear hb9'; have hyx := Aside0.mk (drop_get hd8 hfx); clear hc8 hc18 hc28 hd8)))
      have hy8 := hyx.out
      subst hy8
      go_quiet (fail)
      go_wp2_with (go_at_call 9; go_must (refine (awake_calls _).mono ?_; rintro e w10 ⟨rfl, hb10⟩))
      go_ret
      exact ⟨rfl, (pw_below_drewN hb9 _).trans (hb10.mono hb9.size)⟩
    · have hE3 : ((atF b l n).2.2 == 0) = false := by simpa using hE
      generalize (atF b l n).1 = X1 at HA HRA
      generalize (atF b l n).2.1 = X2 at HA HRA
      generalize (atF b l n).2.2 = X3 at HA HRA hE3
      clear hr hE
      go_enter Try.func5, Try.ntmps5
      go_wp2_with (first | (go_at_call 16; go_must (refine (HL _ HR.out).out.mono ?_; rintro e w1 ⟨rfl, ⟨m, rfl⟩⟩; have hb1 := pw_below_drewN (Below.refl w.heap.size w) m)) | (go_at_call 22; (with_reducible refine (HF _ (Kd.C_below HR.out hb1)).out.mono ?_); go_must (rintro e w2 ⟨rfl, hb2'⟩; have hb2 := hb1.trans (hb2'.mono hb1.size); clear hb2')) | (go_at_call 23; (with_reducible refine (HRF _ (Kd.C_below HR.out hb2)).out.mono ?_); go_must (rintro e w3 ⟨rfl, hb3'⟩; have hb3 := hb2.trans (hb3'.mono hb2.size); clear hb3')) | (go_at_call 24; (with_reducible refine (HN _ (Kd.C_below HR.out hb3)).out.mono ?_); go_must (rintro e w4 ⟨rfl, hb4'⟩; have hb4 := hb3.trans (hb4'.mono hb3.size); clear hb4')) | (go_at_call 25; (with_reducible refine (HRN _ (Kd.C_below HR.out hb4)).out.mono ?_); go_must (rintro e w5 ⟨rfl, hb5'⟩; have hb5 := hb4.trans (hb5'.mono hb4.size); clear hb5')) | (go_at_call 26; (with_reducible refine (HA _ (Kd.C_below HR.out hb5)).out.mono ?_); go_must (rintro e w6 ⟨rfl, hb6'⟩; have hb6 := hb5.trans (hb6'.mono hb5.size); clear hb6')) | (go_at_call 27; (with_reducible refine (HRA _ (Kd.C_below HR.out hb6)).out.mono ?_); go_must (rintro e w7 ⟨rfl, hb7'⟩; have hb7 := hb6.trans (hb7'.mono hb6.size); clear hb7')) | (go_at_call 9; go_must (refine (awake_calls _).mono ?_; rintro e w10 ⟨rfl, hb10⟩)))
      go_ret
      exact ⟨rfl, hb7.trans (hb10.mono hb7.size)⟩
end Go.Proofs.Ytjpobhdgfdeenaa.A
