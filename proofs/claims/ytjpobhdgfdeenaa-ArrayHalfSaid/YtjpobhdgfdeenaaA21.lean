/- put of the reference: the whole. -/
import Derived.Test.YtjpobhdgfdeenaaProg
import Derived.Below
import Derived.Deep.Draws
import Derived.Deep.AppendLies
import Derived.Maps.AppendAt
import Derived.Maps.OwnSet
import Derived.OwnWalk
import Derived.Laws.BytesArg
import Derived.Laws.MakeOwn
import Derived.Laws.OwnMore
import Derived.Deep.OwnRows
import Derived.Tactics
import Derived.Laws.Slices
import Derived.WalkKit
import Derived.KernelRfl
import Derived.RowKit3
import Derived.Deep.LoopGhost
import Derived.Deep.QuietTactic
import Derived.BigQuiet
import Derived.WideLaws
import Derived.Deep.DeepCutAuto
import Derived.Deep.CutBlock
import Derived.Deep.RegionHeld3
import Derived.Laws.Rows
import Derived.ArgAppend
import Derived.Laws.IdiomCopy
import Derived.OrdersHeld
import Derived.Laws.BitsLemmas
import Derived.Outline
import Derived.WalkSpells
import Derived.Lib.Hide
import Derived.RowKit
import Derived.Deep.DeepMust
import Derived.Deep.RegionHeld3
import Derived.Test.YtjpobhdgfdeenaaA20
set_option linter.unusedVariables false
set_option linter.unusedSimpArgs false
namespace Go.Proofs.Ytjpobhdgfdeenaa.A
open Go.RowKit Go.Proofs.YtjpobhdgfdeenaaW.PrintWords Go.Maps

theorem row_le (l : List (List Int)) : ∀ x ∈ l, x.length ≤ l.flatten.length := fun x hx => by
  obtain ⟨i, hi, rfl⟩ := List.getElem_of_mem hx
  have h1 := flat_len l (i + 1)
  rw [flat_drop l i l[i] (List.drop_eq_getElem_cons hi), List.length_append] at h1
  omega
set_option maxRecDepth 100000 in
set_option maxHeartbeats 2000000 in
theorem put_some (b m k : Int) (A : Option Addr) (c : Nat) (l : List (List Int)) (w : World) (hr : Kd.C (Kd.slice 3 (Kd.int .i64)) w A l.length l) (hlc : l.length ≤ c) (hb : 2 ≤ b ∧ b ≤ 50) (hs : l.flatten.length ≤ 1000000) (hll : l.length ≤ 1000000) (hne : l ≠ []) (hm : 0 ≤ m ∧ m ≤ l.flatten.length) :
    Calls Try.prog 45 #[.int .i64 b, .slice A l.length c, .int .i64 m, .int .i64 k] w fun e w' => ∃ v, e = .returned v ∧ RA w' v (putF b l m k) ∧ Below w.heap.size w w' := by
  obtain ⟨j, q, hat⟩ := At_some hne hm.1 hm.2
  have HAT := Aside0.mk hat
  have hspot := spotF_at hat
  obtain ⟨row, hrow, hmq, hq⟩ := hat
  have hput := putF_at (b := b) (k := k) HAT.out hrow
  have hjl : j < l.length := (List.getElem?_eq_some_iff.1 hrow).1
  obtain ⟨ad, A0, c0, row2, hA, hdrop, hcell, hrl, hrowC⟩ := C_row hr j hjl
  have hr2 : row2 = row := by
    rw [List.drop_eq_getElem_cons hjl] at hdrop
    injection hdrop with h1 _
    rw [← h1]
    exact (List.getElem?_eq_some_iff.1 hrow).2
  subst hr2
  subst hA
  have hrm := (C_len hrowC).2
  obtain ⟨F, hF⟩ : ∃ F, F = (l.take j).flatten.length := ⟨_, rfl⟩
  rw [← hF] at hspot hmq
  have hfl : F + row2.length ≤ 1000000 := by
    have h1 := flat_len l (j + 1)
    rw [flat_drop l j row2 hdrop, List.length_append] at h1
    omega
  have hsp := spot_calls (some ad) c l m w hr hs
  rw [hspot] at hsp
  dsimp only at hsp
  have hql : q ≤ row2.length := by omega
  have hw1 : IntKind.i64.wrap (m - (F : Int)) = (q : Int) := by rw [hmq]; rw [IntKind.wrap_i64]; omega
  have hlen0 : ((l.length : Int) == 0) = false := by
    have : 0 < l.length := by omega
    simpa using (show ¬ (l.length : Int) = 0 by omega)
  have HR := Aside0.mk hr
  have HSP := Aside0.mk hsp
  have HRC := Aside0.mk hrowC
  have HP := Aside0.mk hput
  have HROW := Aside0.mk hrow
  have HQ := Aside0.mk hq
  have HHB := Aside0.mk hb
  have HMQ := Aside0.mk hmq
  have HD := Aside0.mk hdrop
  have HF := Aside0.mk hF
  have HFL := Aside0.mk hfl
  have HS := Aside0.mk (fun x hx => Nat.le_trans (row_le l x hx) hs)
  clear hr hsp hrowC hput hrow hq hb hm hs hne hdrop hF hspot hmq hfl
  have hj0 : (0 : Int) ≤ (j : Int) := by omega
  have hj1 : (j : Int) < (l.length : Int) := by omega
  have hj2 : (j : Int) ≤ (c : Int) := by omega
  have hq0 : (0 : Int) ≤ (q : Int) := by omega
  have hq1 : (q : Int) ≤ (row2.length : Int) := by omega
  have hq2 : (q : Int) ≤ (c0 : Int) := by omega
  go_enter Try.func45, Try.ntmps45
  go_wp2_with (go_at_call 50; go_must (refine HSP.out.mono ?_; rintro e w1 ⟨rfl, ⟨n1, rfl⟩⟩))
  have hbel : Below w.heap.size w (w.drewN n1) := pw_below_drewN (Below.refl _ _) n1
  have hcell5 := pw_cell_below hbel hcell
  generalize w.drewN n1 = W at hbel hcell5 ⊢
  have hcellw := hcell
  clear hcell
  have HK1 : ∀ X : World, Aside0 (OwnS (X.alloc (.cells #[.int .i64 k] 3)) X.heap.size 3 (.slice (some ⟨X.heap.size, 0, none⟩) 1 1) (ints [k])) := fun X => ⟨OwnS_new X 3 [.int .i64 k] (by simp) (by simp) (by simp [Value.oneCell'])⟩
  have hOA : Aside0 (OI (W.alloc (.cells #[] 3)).drew w.heap.size (.slice (some ⟨W.heap.size, 0, none⟩) 0 0) []) := ⟨OI_below (OI_empty hbel.size) (below_drew (Below.refl _ _))⟩
  have hOB : Aside0 (OI ((W.alloc (.cells #[] 3)).alloc (.cells #[.int .i64 k] 3)).drew w.heap.size (.slice (some ⟨W.heap.size, 0, none⟩) 0 0) []) := ⟨OI_below (OI_empty hbel.size) (below_drew (below_alloc (Below.refl _ _) _))⟩
  have hOC : Aside0 (OI ((W.alloc (.cells #[.int .i64 k] 3)).alloc (.cells #[] 3)).drew w.heap.size (.slice (some ⟨W.heap.size + 1, 0, none⟩) 0 0) []) := ⟨by
    have := OI_empty (w := W.alloc (.cells #[.int .i64 k] 3)) (base := w.heap.size) (by have := hbel.size; simp; omega)
    rw [World.size_alloc] at this
    exact OI_below this (below_drew (Below.refl _ _))⟩
  have hKB : Aside0 (OwnS ((W.alloc (.cells #[] 3)).alloc (.cells #[.int .i64 k] 3)).drew 0 3 (.slice (some ⟨W.heap.size + 1, 0, none⟩) 1 1) (ints [k])) := ⟨by
    have := (HK1 (W.alloc (.cells #[] 3))).out
    rw [World.size_alloc] at this
    exact (this.kept (grown_of_below (below_drew (Below.refl _ _)) none) (by simp [Value.ownBlock])).low (Nat.zero_le _)⟩
  have hKC : Aside0 (OwnS ((W.alloc (.cells #[.int .i64 k] 3)).alloc (.cells #[] 3)).drew 0 3 (.slice (some ⟨W.heap.size, 0, none⟩) 1 1) (ints [k])) := ⟨by
    have := (HK1 W).out
    exact (this.kept (grown_of_below (below_drew (below_alloc (Below.refl _ _) _)) none) (by simp [Value.ownBlock])).low (Nat.zero_le _)⟩
  have HT : Aside0 (Kd.C (Kd.int .i64) w A0 q (row2.take q)) := ⟨by
    have := Kd.C_take HRC.out hql
    rwa [show (row2.take q).length = q by rw [List.length_take]; omega] at this⟩
  have HDp : Aside0 (Kd.C (Kd.int .i64) w (if c0 = q then A0 else A0.map (·.add q)) (row2.length - q) (row2.drop q)) := ⟨by
    have := Kd.C_drop HRC.out hql hrl
    rwa [List.length_drop, show q * (Kd.int .i64).sz = q from Nat.mul_one q] at this⟩
  go_region_held3 (fun w' => w'.cell? (ad.add j) = some (.slice A0 row2.length c0) ∧ Below w.heap.size w w') ((refine (fun h => ⟨pw_cell_below h hcellw, h⟩ : Below w.heap.size w _ → _) ?_; (repeat first | exact hbel | exact hb3 | exact hb2 | exact hb1 | refine below_drew ?_ | refine below_alloc ?_ _))) (first
    | (refine Kd.R_append_rows_step (Kd.int .i64) (w0 := w) w.heap.size (by rfl) (.tmp 30) (.tmp 36) 22 3 (.int .i64 0) 8 rfl Try.underlying22 infoA3 rfl (by decide) (by omega) _ [] (row2.take q) _ _ _ Tr (fun _ => False) rfl rfl ?bO ?bR (fun _ _ h => h) (fun _ h => h.elim) (fun _ _ => trivial) (‹_ ∧ Below w.heap.size w _›).2 (‹_ ∧ Below w.heap.size w _›).2.size ?bL ?_; (case bO => first | exact hOA.out | exact hOB.out | exact hOC.out); (case bR => exact Kd.C_below HT.out (‹_ ∧ Below w.heap.size w _›).2); (case bL => have := HFL.out; simp; omega); intro v1 w1 ho1 hb1 hg1 hat1; have HO1 := Aside0.mk ho1; have HG1 := Aside0.mk hg1; clear ho1 hg1 hat1)
    | (refine Kd.R_append_rows_step (Kd.int .i64) (w0 := w) w.heap.size (by rfl) (.tmp 37) (.tmp 39) 22 3 (.int .i64 0) 8 rfl Try.underlying22 infoA3 rfl (by decide) (by omega) _ ([] ++ row2.take q) [k] _ _ _ Tr (fun _ => False) rfl rfl ?bO ?bR (fun _ _ h => h) (fun _ h => h.elim) (fun _ _ => trivial) (‹_ ∧ Below w.heap.size w _›).2 (‹_ ∧ Below w.heap.size w _›).2.size ?bL ?_; (case bO => first | exact HO1.out | exact OI_below HO1.out (below_alloc (Below.refl _ _) _)); (case bR => first | exact (HK1 w1).out.C1 | exact (hKB.out.kept HG1.out (by show some (W.heap.size + 1) ≠ some W.heap.size; simp)).C1 | exact (hKC.out.kept HG1.out (by show some W.heap.size ≠ some (W.heap.size + 1); simp)).C1); (case bL => have := HFL.out; simp; omega); intro v2 w2 ho2 hb2 hg2 hat2; have HO2 := Aside0.mk ho2; clear ho2 hg2 hat2)
    | (refine Kd.R_append_rows_step (Kd.int .i64) (w0 := w) w.heap.size (by rfl) (.tmp 40) (.tmp 46) 22 3 (.int .i64 0) 8 rfl Try.underlying22 infoA3 rfl (by decide) (by omega) _ ([] ++ row2.take q ++ [k]) (row2.drop q) _ _ _ Tr (fun _ => False) rfl rfl HO2.out ?bR (fun _ _ h => h) (fun _ h => h.elim) (fun _ _ => trivial) (‹_ ∧ Below w.heap.size w _›).2 (‹_ ∧ Below w.heap.size w _›).2.size ?bL ?_; (case bR => exact Kd.C_below HDp.out (‹_ ∧ Below w.heap.size w _›).2); (case bL => have := HFL.out; simp; omega); intro v3 w3 ho3 hb3 hg3 hat3; have HO3 := Aside0.mk ho3; clear ho3 hg3 hat3))
  all_goals
    rename_i KK hKK hHH
    refine hKK _ _ (put_tail b m k F c j q ad l (row2.take q ++ k :: row2.drop q) v3 _ _ _ _ _ _ _ _ _ _ _ _ _ _ _ _ _ _ _ _ _ _ _ _ _ _ _ _ _ _ _ _ _ w w3 HR hlc ⟨by have := HO3.out; simpa using this⟩ hb3 hjl HHB.out (by rw [ins_len row2 q hql k]; omega) (by rw [ins_len row2 q hql k]; have := HFL.out; omega) hll HS _ ?_)
    intro v W' hra hbw
    rw [HP.out]
    exact ⟨v, rfl, hra, hbw⟩
theorem put_calls (b m k : Int) (A : Option Addr) (c : Nat) (l : List (List Int)) (w : World) (hr : Kd.C (Kd.slice 3 (Kd.int .i64)) w A l.length l) (hlc : l.length ≤ c) (hb : 2 ≤ b ∧ b ≤ 50) (hs : l.flatten.length ≤ 1000000) (hll : l.length ≤ 1000000) (hm : 0 ≤ m ∧ m ≤ l.flatten.length) :
    Calls Try.prog 45 #[.int .i64 b, .slice A l.length c, .int .i64 m, .int .i64 k] w fun e w' => ∃ v, e = .returned v ∧ RA w' v (putF b l m k) ∧ Below w.heap.size w w' := by
  by_cases hne : l = []
  · subst hne
    exact put_nil b m k A c w
  · exact put_some b m k A c l w hr hlc hb hs hll hne hm
end Go.Proofs.Ytjpobhdgfdeenaa.A
