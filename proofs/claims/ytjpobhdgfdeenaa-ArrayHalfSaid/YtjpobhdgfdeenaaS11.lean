/- slices.Delete of one element of a row of the call's own. -/
import Derived.Test.YtjpobhdgfdeenaaProg
import Derived.Below
import Derived.Deep.Draws
import Derived.Deep.AppendLies
import Derived.Maps.AppendAt
import Derived.Maps.OwnSet
import Derived.OwnWalk
import Derived.Laws.BytesArg
import Derived.Laws.MakeOwn
import Derived.Laws.OwnMore
import Derived.Deep.OwnRows
import Derived.Tactics
import Derived.Laws.Slices
import Derived.WalkKit
import Derived.KernelRfl
import Derived.RowKit3
import Derived.Deep.LoopGhost
import Derived.Deep.QuietTactic
import Derived.BigQuiet
import Derived.WideLaws
import Derived.Deep.DeepCutAuto
import Derived.Deep.CutBlock
import Derived.Deep.RegionHeld3
import Derived.Laws.Rows
import Derived.ArgAppend
import Derived.Laws.IdiomCopy
import Derived.OrdersHeld
import Derived.Laws.BitsLemmas
import Derived.Outline
import Derived.WalkSpells
import Derived.Lib.Hide
import Derived.RowKit
import Derived.Deep.DeepMust
import Derived.ArgAppend
import Derived.Lib.SliceRun
import Derived.Lib.AppendZeros
import Derived.StillTailTactics
import Derived.Test.YtjpobhdgfdeenaaS10
set_option linter.unusedVariables false
set_option linter.unusedSimpArgs false
namespace Go.Proofs.Ytjpobhdgfdeenaa.A
open Go.RowKit Go.Lib Go.Proofs.YtjpobhdgfdeenaaW.PrintWords Go.Maps

theorem del_append {P : Program} {W : World} (t ty e : TypeId) (i : TypeInfo) (ht : P.underlying t = some (.slice e)) (hi : P.info? e = some i) (hsz : i.size = 1) {g n c k : Nat} {cur : List Value} (hB : Blk W g e cur) (hk : k < n) (hnc : n ≤ c) (hc : c ≤ cur.length)
    (h1 : ∀ x ∈ cur.take n, x.oneCell' = true) {A : Option Addr} (hA : A = if c = k + 1 then some ⟨g, 0, none⟩ else some ⟨g, k + 1, none⟩) (c2 : Nat) :
    ∃ w1, (Builtin.append_ #[t, t] ty #[.slice (some ⟨g, 0, none⟩) k c, .slice A (n - (k + 1)) c2]).run P W = .ok (.slice (some ⟨g, 0, none⟩) (n - 1) c) w1 ∧ Blk w1 g e ((cur.take n).eraseIdx k ++ cur.drop (n - 1)) ∧ W.grownBy w1 (some g) := by
  obtain ⟨news, hnews⟩ : ∃ news, news = (cur.take n).drop (k + 1) := ⟨_, rfl⟩
  have hnl : news.length = n - (k + 1) := by rw [hnews, List.length_drop, List.length_take]; omega
  obtain ⟨a, rfl, hcell⟩ : ∃ a, A = some a ∧ ∀ j u, news[j]? = some u → W.cell? (a.add j) = some u := by
    by_cases hck : c = k + 1
    · rw [if_pos hck] at hA
      refine ⟨_, hA, fun j u hu => ?_⟩
      have := (List.getElem?_eq_some_iff.1 hu).1
      omega
    · rw [if_neg hck] at hA
      refine ⟨_, hA, fun j u hu => ?_⟩
      have hj : j < news.length := (List.getElem?_eq_some_iff.1 hu).1
      rw [Addr.add_lit, blk_cell hB]
      rw [hnews, List.getElem?_drop, List.getElem?_take] at hu
      split at hu
      · exact hu
      · cases hu
  have hone : ∀ u ∈ news, u.oneCell' = true := fun u hu => h1 u (by rw [hnews] at hu; exact List.mem_of_mem_drop hu)
  have hrun := run_append_room_cells (P := P) (w := W) t ty e i ht hi g 0 k c a (n - (k + 1)) c2 news (by rw [hnl, hsz, Nat.mul_one]) hcell hone (by omega)
    (fun j hj => by rw [blk_cell hB]; simp; rw [hsz]; omega) (fun j _ => blk_free hB _)
  rw [hsz, show k + (n - (k + 1)) = n - 1 by omega, Nat.mul_one, Nat.zero_add] at hrun
  obtain ⟨cur', h3, h4, h5⟩ := setCells_row news k W cur.toArray hB (by simp; omega)
  obtain ⟨s1, s2, s3, s4⟩ := setCells_same g news k W
  refine ⟨_, hrun, ?_, s1, s2, s3, by rw [s4]; exact Nat.le_refl _, fun k' _ hk' => setCells_far news _ k' (fun he => hk' (by rw [he]))⟩
  have : cur' = ((cur.take n).eraseIdx k ++ cur.drop (n - 1)).toArray := by
    apply Array.ext'
    rw [h5, List.eraseIdx_eq_take_drop_succ, ← hnews, List.take_take, Nat.min_eq_left (by omega), show k + news.length = n - 1 by omega]
  show (W.setCells g k news).heap[g]? = some (.cells _ e (0, 0))
  rw [← this]
  exact h3
theorem clear_one {P : Program} {W : World} (t ty e : TypeId) (z : Value) (ht : P.underlying t = some (.slice e)) (hv : ∀ w, (zeroValue e).run P w = .ok z w) (hz : z.cells = #[z]) (h1 : z.oneCell' = true) {g o c : Nat} {cur : List Value} (hB : Blk W g e cur) (ho : o < cur.length) :
    (Builtin.clear_ #[t] ty #[.slice (some ⟨g, o, none⟩) 1 c]).run P W = .ok (.tuple #[]) (W.setCell ⟨g, o, none⟩ z) ∧ Blk (W.setCell ⟨g, o, none⟩ z) g e (cur.set o z) := by
  refine ⟨?_, ?_⟩
  · rw [run_clear_slice W t e ty z ht hv hz h1 g o 1 c (by omega) (fun j hj => by rw [blk_cell hB]; have : j = 0 := (by omega); subst this; simp; omega) (fun j _ => blk_free hB _)]
    rfl
  · show (W.setCell ⟨g, o, none⟩ z).heap[g]? = _
    rw [setCell_eq_setRow W g o cur.toArray e (0, 0) z hB]
    have := setRow_heap W g cur.toArray (cur.toArray.setIfInBounds o z) e (0, 0) hB
    rw [this]
    congr 2
    simp
theorem zero3v (w : World) : (zeroValue 3).run Try.prog w = .ok (.int .i64 0) w := by kernel_rfl
theorem zero22 (w : World) : (zeroValue 22).run Try.prog w = .ok (.slice none 0 0) w := by kernel_rfl
theorem setCell_grown (w : World) (a : Addr) (u : Value) : w.grownBy (w.setCell a u) (some a.block) :=
  ⟨rfl, rfl, rfl, by simp, fun k _ hk => Below.heap_setCell w a u k (fun e => hk (by rw [e]))⟩
set_option maxHeartbeats 1000000 in
theorem del68 {base : Nat} {v : Value} {xs : List Value} {w : World} (h : OwnS w base 3 v xs) (i : Nat) (hi : i < xs.length) (hs : xs.length ≤ 1000000) :
    Calls Try.prog 68 #[v, .int .i64 i, .int .i64 ((i : Int) + 1)] w fun e w' => ∃ v', e = .returned v' ∧ OwnS w' base 3 v' (xs.eraseIdx i) ∧ w.grownBy w' v.ownBlock ∧ v'.ownBlock = v.ownBlock := by
  obtain ⟨g, c, cur, rfl, hbg, hB, hc1, hc2, hc3, htk, hc0, h1⟩ := h
  obtain ⟨n, hn⟩ : ∃ n, n = xs.length := ⟨_, rfl⟩
  rw [← hn] at hi hs hc1 htk ⊢
  obtain ⟨i0, hi0, hz0, hzs, hzb⟩ := info_parts infoA3
  have hne : ((i : Int) == (i : Int) + 1) = false := by simpa using (show ¬ ((i : Int) = (i : Int) + 1) by omega)
  have ha0 : (0 : Int) ≤ (i : Int) := by omega
  have ha1 : (i : Int) ≤ (i : Int) + 1 := by omega
  have ha2 : (i : Int) + 1 ≤ (n : Int) := by omega
  have ha3 : (n : Int) ≤ (c : Int) := by omega
  have ha4 : (i : Int) ≤ (c : Int) := by omega
  have ha5 : (0 : Int) ≤ (i : Int) + 1 := by omega
  have HH := Aside0.mk (And.intro hn htk)
  have H1 := Aside0.mk h1
  clear hn htk h1
  go_enter Try.func68, Try.ntmps68
  go_wp2
  go_still_tail 6, (by kernel_rfl)
  change wpList _ _ _ _ _ w.drew
  obtain ⟨w1, hrun, hB1, hg1⟩ := del_append (P := Try.prog) (W := w.drew) 22 22 3 i0 Try.underlying22 hi0 hzs (g := g) (n := n) (c := c) (k := i) (cur := cur) hB hi hc1 hc2 (by rw [HH.out.2]; exact H1.out) rfl (c - (i + 1))
  have hl1 : ((cur.take n).eraseIdx i ++ cur.drop (n - 1)).length = cur.length := by
    rw [List.length_append, List.length_eraseIdx_of_lt (by rw [List.length_take]; omega), List.length_take, List.length_drop]; omega
  obtain ⟨hcl, hB2⟩ := clear_one (P := Try.prog) (W := w1) 22 0 3 (.int .i64 0) Try.underlying22 zero3v rfl rfl (g := g) (o := n - 1) (c := c - (n - 1)) hB1 (by rw [hl1]; omega)
  have e1 : n - (n - 1) = 1 := by omega
  have HE1 := Aside0.mk e1
  have hcl' : (Builtin.clear_ #[22] 0 #[.slice (some ⟨g, n - 1, none⟩) (n - (n - 1)) (c - (n - 1))]).run Try.prog w1 = .ok (.tuple #[]) (w1.setCell ⟨g, n - 1, none⟩ (.int .i64 0)) := by rw [e1]; exact hcl
  clear hcl
  have hb0 : (0 : Int) ≤ ((n - 1 : Nat) : Int) := by omega
  have hb1 : ((n - 1 : Nat) : Int) ≤ (n : Int) := by omega
  have hb2 : ((n - 1 : Nat) : Int) ≤ (c : Int) := by omega
  have HB2 := Aside0.mk hB2
  have HL1 := Aside0.mk hl1
  clear hB2 hl1 e1
  go_wp2_with (at_builtin; go_must (refine Lib.wpList_append_run _ rfl _ _ _ _ rfl _ _ rfl rfl _ _ hrun ?_))
  all_goals
    go_ret
    have hlen : (xs.eraseIdx i).length = n - 1 := by rw [List.length_eraseIdx_of_lt (by rw [← HH.out.1]; exact hi), ← HH.out.1]
    refine ⟨_, rfl, ⟨g, _, _, by rw [hlen]; rfl, hbg, HB2.out, by omega, by rw [List.length_set, HL1.out]; omega, by rw [List.length_set, HL1.out]; exact hc3, ?_, by omega, fun x hx => H1.out x (List.mem_of_mem_eraseIdx hx)⟩, ?_, rfl⟩
    · rw [hlen, List.take_set_of_le (Nat.le_refl _), HH.out.2]
      exact List.take_left' hlen
    · exact grown_trans (grown_trans (drew_grown (World.grownBy.refl w _)) hg1) (setCell_grown _ _ _)
set_option maxHeartbeats 1000000 in
theorem del69 {base : Nat} {v : Value} {xs : List Value} {w : World} (h : OwnS w base 22 v xs) (i : Nat) (hi : i < xs.length) (hs : xs.length ≤ 1000000) :
    Calls Try.prog 69 #[v, .int .i64 i, .int .i64 ((i : Int) + 1)] w fun e w' => ∃ v', e = .returned v' ∧ OwnS w' base 22 v' (xs.eraseIdx i) ∧ w.grownBy w' v.ownBlock ∧ v'.ownBlock = v.ownBlock := by
  obtain ⟨g, c, cur, rfl, hbg, hB, hc1, hc2, hc3, htk, hc0, h1⟩ := h
  obtain ⟨n, hn⟩ : ∃ n, n = xs.length := ⟨_, rfl⟩
  rw [← hn] at hi hs hc1 htk ⊢
  obtain ⟨i0, hi0, hz0, hzs, hzb⟩ := info_parts infoA22
  have hne : ((i : Int) == (i : Int) + 1) = false := by simpa using (show ¬ ((i : Int) = (i : Int) + 1) by omega)
  have ha0 : (0 : Int) ≤ (i : Int) := by omega
  have ha1 : (i : Int) ≤ (i : Int) + 1 := by omega
  have ha2 : (i : Int) + 1 ≤ (n : Int) := by omega
  have ha3 : (n : Int) ≤ (c : Int) := by omega
  have ha4 : (i : Int) ≤ (c : Int) := by omega
  have ha5 : (0 : Int) ≤ (i : Int) + 1 := by omega
  have HH := Aside0.mk (And.intro hn htk)
  have H1 := Aside0.mk h1
  clear hn htk h1
  go_enter Try.func69, Try.ntmps69
  go_wp2
  go_still_tail 6, (by kernel_rfl)
  change wpList _ _ _ _ _ w.drew
  obtain ⟨w1, hrun, hB1, hg1⟩ := del_append (P := Try.prog) (W := w.drew) 24 24 22 i0 Try.underlying24 hi0 hzs (g := g) (n := n) (c := c) (k := i) (cur := cur) hB hi hc1 hc2 (by rw [HH.out.2]; exact H1.out) rfl (c - (i + 1))
  have hl1 : ((cur.take n).eraseIdx i ++ cur.drop (n - 1)).length = cur.length := by
    rw [List.length_append, List.length_eraseIdx_of_lt (by rw [List.length_take]; omega), List.length_take, List.length_drop]; omega
  obtain ⟨hcl, hB2⟩ := clear_one (P := Try.prog) (W := w1) 24 0 22 (.slice none 0 0) Try.underlying24 zero22 rfl rfl (g := g) (o := n - 1) (c := c - (n - 1)) hB1 (by rw [hl1]; omega)
  have e1 : n - (n - 1) = 1 := by omega
  have HE1 := Aside0.mk e1
  have hcl' : (Builtin.clear_ #[24] 0 #[.slice (some ⟨g, n - 1, none⟩) (n - (n - 1)) (c - (n - 1))]).run Try.prog w1 = .ok (.tuple #[]) (w1.setCell ⟨g, n - 1, none⟩ (.slice none 0 0)) := by rw [e1]; exact hcl
  clear hcl
  have hb0 : (0 : Int) ≤ ((n - 1 : Nat) : Int) := by omega
  have hb1 : ((n - 1 : Nat) : Int) ≤ (n : Int) := by omega
  have hb2 : ((n - 1 : Nat) : Int) ≤ (c : Int) := by omega
  have HB2 := Aside0.mk hB2
  have HL1 := Aside0.mk hl1
  clear hB2 hl1 e1
  go_wp2_with (at_builtin; go_must (refine Lib.wpList_append_run _ rfl _ _ _ _ rfl _ _ rfl rfl _ _ hrun ?_))
  all_goals
    go_ret
    have hlen : (xs.eraseIdx i).length = n - 1 := by rw [List.length_eraseIdx_of_lt (by rw [← HH.out.1]; exact hi), ← HH.out.1]
    refine ⟨_, rfl, ⟨g, _, _, by rw [hlen]; rfl, hbg, HB2.out, by omega, by rw [List.length_set, HL1.out]; omega, by rw [List.length_set, HL1.out]; exact hc3, ?_, by omega, fun x hx => H1.out x (List.mem_of_mem_eraseIdx hx)⟩, ?_, rfl⟩
    · rw [hlen, List.take_set_of_le (Nat.le_refl _), HH.out.2]
      exact List.take_left' hlen
    · exact grown_trans (grown_trans (drew_grown (World.grownBy.refl w _)) hg1) (setCell_grown _ _ _)
end Go.Proofs.Ytjpobhdgfdeenaa.A
