/- slices.Delete of one element of a row of the call's own. -/
import Derived.Below
import Derived.Deep.Draws
import Derived.Deep.AppendLies
import Derived.Maps.AppendAt
import Derived.Maps.OwnSet
import Derived.OwnWalk
import Derived.Laws.BytesArg
import Derived.Laws.MakeOwn
import Derived.Laws.OwnMore
import Derived.Deep.OwnRows
import Derived.Tactics
import Derived.Laws.Slices
import Derived.WalkKit
import Derived.KernelRfl
import Derived.RowKit3
import Derived.Deep.LoopGhost
import Derived.Deep.QuietTactic
import Derived.BigQuiet
import Derived.WideLaws
import Derived.Deep.DeepCutAuto
import Derived.Deep.CutBlock
import Derived.Deep.RegionHeld3
import Derived.Laws.Rows
import Derived.ArgAppend
import Derived.Laws.IdiomCopy
import Derived.OrdersHeld
import Derived.Laws.BitsLemmas
import Derived.Outline
import Derived.WalkSpells
import Derived.Lib.Hide
import Derived.RowKit
import Derived.Deep.DeepMust
import Derived.Lib.SliceRun
import Derived.Lib.AppendZeros
import Derived.StillTailTactics
import Derived.RangeFuncNested
import Derived.RangeFuncBound
import Derived.RangeFuncCalls
import Derived.RangeFuncLeaves
import Derived.Shelf.Abstract
import Derived.Shelf.RegionOpen
import Derived.OwnWalkIn
import Derived.TacticsInMore
import Derived.LoopNIn
import Derived.LoopIn
import Derived.RangeFuncBox
import Derived.Test.YtjpobhdgfdeenaaProg
import Derived.Test.YtjpobhdgfdeenaaM4
import Derived.Test.YtjpobhdgfdeenaaM6
import Derived.Test.YtjpobhdgfdeenaaM5
set_option linter.unusedVariables false
set_option linter.unusedSimpArgs false
namespace Go.Proofs.Ytjpobhdgfdeenaa.A
open Go.RowKit Go.Lib Go.Proofs.YtjpobhdgfdeenaaW.PrintWords Go.Maps

theorem del_append {P : Program} {W : World} (t ty e : TypeId) (i : TypeInfo) (ht : P.underlying t = some (.slice e)) (hi : P.info? e = some i) (hsz : i.size = 1) {g n c k : Nat} {cur : List Value} (hB : Blk W g e cur) (hk : k < n) (hnc : n ≤ c) (hc : c ≤ cur.length)
    (h1 : ∀ x ∈ cur.take n, x.oneCell' = true) {A : Option Addr} (hA : A = if c = k + 1 then some ⟨g, 0, none⟩ else some ⟨g, k + 1, none⟩) (c2 : Nat) :
    ∃ w1, (Builtin.append_ #[t, t] ty #[.slice (some ⟨g, 0, none⟩) k c, .slice A (n - (k + 1)) c2]).run P W = .ok (.slice (some ⟨g, 0, none⟩) (n - 1) c) w1 ∧ Blk w1 g e ((cur.take n).eraseIdx k ++ cur.drop (n - 1)) ∧ W.grownBy w1 (some g) := by
  obtain ⟨news, hnews⟩ : ∃ news, news = (cur.take n).drop (k + 1) := ⟨_, rfl⟩
  have hnl : news.length = n - (k + 1) := by rw [hnews, List.length_drop, List.length_take]; omega
  obtain ⟨a, rfl, hcell⟩ : ∃ a, A = some a ∧ ∀ j u, news[j]? = some u → W.cell? (a.add j) = some u := by
    by_cases hck : c = k + 1
    · rw [if_pos hck] at hA
      refine ⟨_, hA, fun j u hu => ?_⟩
      have := (List.getElem?_eq_some_iff.1 hu).1
      omega
    · rw [if_neg hck] at hA
      refine ⟨_, hA, fun j u hu => ?_⟩
      have hj : j < news.length := (List.getElem?_eq_some_iff.1 hu).1
      rw [Addr.add_lit, blk_cell hB]
      rw [hnews, List.getElem?_drop, List.getElem?_take] at hu
      split at hu
      · exact hu
      · cases hu
  have hone : ∀ u ∈ news, u.oneCell' = true := fun u hu => h1 u (by rw [hnews] at hu; exact List.mem_of_mem_drop hu)
  have hrun := run_append_room_cells (P := P) (w := W) t ty e i ht hi g 0 k c a (n - (k + 1)) c2 news (by rw [hnl, hsz, Nat.mul_one]) hcell hone (by omega)
    (fun j hj => by rw [blk_cell hB]; simp; rw [hsz]; omega) (fun j _ => blk_free hB _)
  rw [hsz, show k + (n - (k + 1)) = n - 1 by omega, Nat.mul_one, Nat.zero_add] at hrun
  obtain ⟨cur', h3, h4, h5⟩ := setCells_row news k W cur.toArray hB (by simp; omega)
  obtain ⟨s1, s2, s3, s4⟩ := setCells_same g news k W
  refine ⟨_, hrun, ?_, s1, s2, s3, by rw [s4]; exact Nat.le_refl _, fun k' _ hk' => setCells_far news _ k' (fun he => hk' (by rw [he]))⟩
  have : cur' = ((cur.take n).eraseIdx k ++ cur.drop (n - 1)).toArray := by
    apply Array.ext'
    rw [h5, List.eraseIdx_eq_take_drop_succ, ← hnews, List.take_take, Nat.min_eq_left (by omega), show k + news.length = n - 1 by omega]
  show (W.setCells g k news).heap[g]? = some (.cells _ e (0, 0))
  rw [← this]
  exact h3
theorem clear_one {P : Program} {W : World} (t ty e : TypeId) (z : Value) (ht : P.underlying t = some (.slice e)) (hv : ∀ w, (zeroValue e).run P w = .ok z w) (hz : z.cells = #[z]) (h1 : z.oneCell' = true) {g o c : Nat} {cur : List Value} (hB : Blk W g e cur) (ho : o < cur.length) :
    (Builtin.clear_ #[t] ty #[.slice (some ⟨g, o, none⟩) 1 c]).run P W = .ok (.tuple #[]) (W.setCell ⟨g, o, none⟩ z) ∧ Blk (W.setCell ⟨g, o, none⟩ z) g e (cur.set o z) := by
  refine ⟨?_, ?_⟩
  · rw [run_clear_slice W t e ty z ht hv hz h1 g o 1 c (by omega) (fun j hj => by rw [blk_cell hB]; have : j = 0 := (by omega); subst this; simp; omega) (fun j _ => blk_free hB _)]
    rfl
  · show (W.setCell ⟨g, o, none⟩ z).heap[g]? = _
    rw [setCell_eq_setRow W g o cur.toArray e (0, 0) z hB]
    have := setRow_heap W g cur.toArray (cur.toArray.setIfInBounds o z) e (0, 0) hB
    rw [this]
    congr 2
    simp
theorem zero3v (w : World) : (zeroValue 3).run Try.prog w = .ok (.int .i64 0) w := by kernel_rfl
theorem zero22 (w : World) : (zeroValue 22).run Try.prog w = .ok (.slice none 0 0) w := by kernel_rfl
theorem setCell_grown (w : World) (a : Addr) (u : Value) : w.grownBy (w.setCell a u) (some a.block) :=
  ⟨rfl, rfl, rfl, by simp, fun k _ hk => Below.heap_setCell w a u k (fun e => hk (by rw [e]))⟩
set_option maxHeartbeats 1000000 in
theorem del68 {base : Nat} {v : Value} {xs : List Value} {w : World} (h : OwnS w base 3 v xs) (i : Nat) (hi : i < xs.length) (hs : xs.length ≤ 1000000) :
    Calls Try.prog 68 #[v, .int .i64 i, .int .i64 ((i : Int) + 1)] w fun e w' => ∃ v', e = .returned v' ∧ OwnS w' base 3 v' (xs.eraseIdx i) ∧ w.grownBy w' v.ownBlock ∧ v'.ownBlock = v.ownBlock := by
  obtain ⟨g, c, cur, rfl, hbg, hB, hc1, hc2, hc3, htk, hc0, h1⟩ := h
  obtain ⟨n, hn⟩ : ∃ n, n = xs.length := ⟨_, rfl⟩
  rw [← hn] at hi hs hc1 htk ⊢
  obtain ⟨i0, hi0, hz0, hzs, hzb⟩ := info_parts infoA3
  have hne : ((i : Int) == (i : Int) + 1) = false := by simpa using (show ¬ ((i : Int) = (i : Int) + 1) by omega)
  have ha0 : (0 : Int) ≤ (i : Int) := by omega
  have ha1 : (i : Int) ≤ (i : Int) + 1 := by omega
  have ha2 : (i : Int) + 1 ≤ (n : Int) := by omega
  have ha3 : (n : Int) ≤ (c : Int) := by omega
  have ha4 : (i : Int) ≤ (c : Int) := by omega
  have ha5 : (0 : Int) ≤ (i : Int) + 1 := by omega
  have HH := Aside0.mk (And.intro hn htk)
  have H1 := Aside0.mk h1
  clear hn htk h1
  go_enter Try.func68, Try.ntmps68
  go_wp2
  go_still_tail 6, (by kernel_rfl)
  change wpList _ _ _ _ _ w.drew
  obtain ⟨w1, hrun, hB1, hg1⟩ := del_append (P := Try.prog) (W := w.drew) 22 22 3 i0 Try.underlying22 hi0 hzs (g := g) (n := n) (c := c) (k := i) (cur := cur) hB hi hc1 hc2 (by rw [HH.out.2]; exact H1.out) rfl (c - (i + 1))
  have hl1 : ((cur.take n).eraseIdx i ++ cur.drop (n - 1)).length = cur.length := by
    rw [List.length_append, List.length_eraseIdx_of_lt (by rw [List.length_take]; omega), List.length_take, List.length_drop]; omega
  obtain ⟨hcl, hB2⟩ := clear_one (P := Try.prog) (W := w1) 22 0 3 (.int .i64 0) Try.underlying22 zero3v rfl rfl (g := g) (o := n - 1) (c := c - (n - 1)) hB1 (by rw [hl1]; omega)
  have e1 : n - (n - 1) = 1 := by omega
  have HE1 := Aside0.mk e1
  have hcl' : (Builtin.clear_ #[22] 0 #[.slice (some ⟨g, n - 1, none⟩) (n - (n - 1)) (c - (n - 1))]).run Try.prog w1 = .ok (.tuple #[]) (w1.setCell ⟨g, n - 1, none⟩ (.int .i64 0)) := by rw [e1]; exact hcl
  clear hcl
  have hb0 : (0 : Int) ≤ ((n - 1 : Nat) : Int) := by omega
  have hb1 : ((n - 1 : Nat) : Int) ≤ (n : Int) := by omega
  have hb2 : ((n - 1 : Nat) : Int) ≤ (c : Int) := by omega
  have HB2 := Aside0.mk hB2
  have HL1 := Aside0.mk hl1
  clear hB2 hl1 e1
  go_wp2_with (at_builtin; go_must (refine Lib.wpList_append_run _ rfl _ _ _ _ rfl _ _ rfl rfl _ _ hrun ?_))
  all_goals
    go_ret
    have hlen : (xs.eraseIdx i).length = n - 1 := by rw [List.length_eraseIdx_of_lt (by rw [← HH.out.1]; exact hi), ← HH.out.1]
    refine ⟨_, rfl, ⟨g, _, _, by rw [hlen]; rfl, hbg, HB2.out, by omega, by rw [List.length_set, HL1.out]; omega, by rw [List.length_set, HL1.out]; exact hc3, ?_, by omega, fun x hx => H1.out x (List.mem_of_mem_eraseIdx hx)⟩, ?_, rfl⟩
    · rw [hlen, List.take_set_of_le (Nat.le_refl _), HH.out.2]
      exact List.take_left' hlen
    · exact grown_trans (grown_trans (drew_grown (World.grownBy.refl w _)) hg1) (setCell_grown _ _ _)
set_option maxHeartbeats 1000000 in
theorem del69 {base : Nat} {v : Value} {xs : List Value} {w : World} (h : OwnS w base 22 v xs) (i : Nat) (hi : i < xs.length) (hs : xs.length ≤ 1000000) :
    Calls Try.prog 69 #[v, .int .i64 i, .int .i64 ((i : Int) + 1)] w fun e w' => ∃ v', e = .returned v' ∧ OwnS w' base 22 v' (xs.eraseIdx i) ∧ w.grownBy w' v.ownBlock ∧ v'.ownBlock = v.ownBlock := by
  obtain ⟨g, c, cur, rfl, hbg, hB, hc1, hc2, hc3, htk, hc0, h1⟩ := h
  obtain ⟨n, hn⟩ : ∃ n, n = xs.length := ⟨_, rfl⟩
  rw [← hn] at hi hs hc1 htk ⊢
  obtain ⟨i0, hi0, hz0, hzs, hzb⟩ := info_parts infoA22
  have hne : ((i : Int) == (i : Int) + 1) = false := by simpa using (show ¬ ((i : Int) = (i : Int) + 1) by omega)
  have ha0 : (0 : Int) ≤ (i : Int) := by omega
  have ha1 : (i : Int) ≤ (i : Int) + 1 := by omega
  have ha2 : (i : Int) + 1 ≤ (n : Int) := by omega
  have ha3 : (n : Int) ≤ (c : Int) := by omega
  have ha4 : (i : Int) ≤ (c : Int) := by omega
  have ha5 : (0 : Int) ≤ (i : Int) + 1 := by omega
  have HH := Aside0.mk (And.intro hn htk)
  have H1 := Aside0.mk h1
  clear hn htk h1
  go_enter Try.func69, Try.ntmps69
  go_wp2
  go_still_tail 6, (by kernel_rfl)
  change wpList _ _ _ _ _ w.drew
  obtain ⟨w1, hrun, hB1, hg1⟩ := del_append (P := Try.prog) (W := w.drew) 24 24 22 i0 Try.underlying24 hi0 hzs (g := g) (n := n) (c := c) (k := i) (cur := cur) hB hi hc1 hc2 (by rw [HH.out.2]; exact H1.out) rfl (c - (i + 1))
  have hl1 : ((cur.take n).eraseIdx i ++ cur.drop (n - 1)).length = cur.length := by
    rw [List.length_append, List.length_eraseIdx_of_lt (by rw [List.length_take]; omega), List.length_take, List.length_drop]; omega
  obtain ⟨hcl, hB2⟩ := clear_one (P := Try.prog) (W := w1) 24 0 22 (.slice none 0 0) Try.underlying24 zero22 rfl rfl (g := g) (o := n - 1) (c := c - (n - 1)) hB1 (by rw [hl1]; omega)
  have e1 : n - (n - 1) = 1 := by omega
  have HE1 := Aside0.mk e1
  have hcl' : (Builtin.clear_ #[24] 0 #[.slice (some ⟨g, n - 1, none⟩) (n - (n - 1)) (c - (n - 1))]).run Try.prog w1 = .ok (.tuple #[]) (w1.setCell ⟨g, n - 1, none⟩ (.slice none 0 0)) := by rw [e1]; exact hcl
  clear hcl
  have hb0 : (0 : Int) ≤ ((n - 1 : Nat) : Int) := by omega
  have hb1 : ((n - 1 : Nat) : Int) ≤ (n : Int) := by omega
  have hb2 : ((n - 1 : Nat) : Int) ≤ (c : Int) := by omega
  have HB2 := Aside0.mk hB2
  have HL1 := Aside0.mk hl1
  clear hB2 hl1 e1
  go_wp2_with (at_builtin; go_must (refine Lib.wpList_append_run _ rfl _ _ _ _ rfl _ _ rfl rfl _ _ hrun ?_))
  all_goals
    go_ret
    have hlen : (xs.eraseIdx i).length = n - 1 := by rw [List.length_eraseIdx_of_lt (by rw [← HH.out.1]; exact hi), ← HH.out.1]
    refine ⟨_, rfl, ⟨g, _, _, by rw [hlen]; rfl, hbg, HB2.out, by omega, by rw [List.length_set, HL1.out]; omega, by rw [List.length_set, HL1.out]; exact hc3, ?_, by omega, fun x hx => H1.out x (List.mem_of_mem_eraseIdx hx)⟩, ?_, rfl⟩
    · rw [hlen, List.take_set_of_le (Nat.le_refl _), HH.out.2]
      exact List.take_left' hlen
    · exact grown_trans (grown_trans (drew_grown (World.grownBy.refl w _)) hg1) (setCell_grown _ _ _)
end Go.Proofs.Ytjpobhdgfdeenaa.A

/- owned of package array. -/
set_option linter.unusedVariables false
set_option linter.unusedSimpArgs false
namespace Go.Proofs.Ytjpobhdgfdeenaa.A
open Go.RowKit Go.Proofs.YtjpobhdgfdeenaaW.PrintWords Go.Maps

theorem owns_below {W W' : World} {base e size : Nat} {v : Value} {n : Nat} {xs : List Value} (h : W.ownsRow base e size v n xs) (hb : Below W.heap.size W W') : W'.ownsRow base e size v n xs := by
  refine ⟨h.1, ?_⟩
  rcases h.2 with h0 | ⟨g, cap, cur, hv, hg, hh, r⟩
  · exact .inl h0
  · exact .inr ⟨g, cap, cur, hv, hg, (hb.block g (Array.getElem?_eq_some_iff.1 hh).1).trans hh, r⟩
theorem owns_ne {W : World} {base base' : Nat} {e e' : TypeId} {v u : Value} {n : Nat} {xs ys : List Value} {size : Nat} (h : W.ownsRow base e size v n xs) (hu : OwnS W base' e' u ys) (hne : e ≠ e') : u.ownBlock ≠ v.ownBlock := by
  obtain ⟨g, c, rfl, e1, _, _, cells, hc⟩ := own_addr hu
  rw [e1]
  rcases h.2 with ⟨hv, _⟩ | ⟨g', cap, cur, hv, hg, hh, r⟩
  · rw [hv]; simp [Value.ownBlock]
  · rw [hv]
    intro he
    have he : g = g' := by injection he
    subst he
    rw [hc] at hh
    injection hh with hh
    injection hh with _ hh
    exact hne hh.symm
theorem OwnS.below {w w' : World} {base : Nat} {e : TypeId} {v : Value} {xs : List Value} (h : OwnS w base e v xs) (hb : Below w.heap.size w w') : OwnS w' base e v xs := by
  obtain ⟨g, c, cur, rfl, hbg, hB, r⟩ := h
  exact ⟨g, c, cur, rfl, hbg, (hb.block g (blk_lt hB)).trans hB, r⟩
theorem owns_S {W : World} {base e : Nat} {v : Value} {xs : List Value} (h : W.ownsRow base e 1 v xs.length xs) (hne : xs ≠ []) (h1 : ∀ x ∈ xs, x.oneCell' = true) : OwnS W base e v xs := by
  have hl : 0 < xs.length := List.length_pos_iff.2 hne
  rcases h.2 with ⟨_, h0⟩ | ⟨g, cap, cur, hv, hg, hh, h2, h3, h4, h5⟩
  · omega
  · refine ⟨g, cap, cur.toList, hv, hg, by simpa using hh, h2, ?_, ?_, ?_, by omega, h1⟩
    · have h6 : cur.size = cap * 1 := h4
      simp
      omega
    · have h6 : cur.size = cap * 1 := h4
      have : maxLen = 9223372036854775807 := rfl
      simp
      omega
    · rw [Nat.mul_one] at h5
      exact h5
/-- Rows of the call's own behind an outer row that may still be none. -/
def OwnL (w : World) (base : Nat) (v : Value) (l : List (List Int)) : Prop := ∃ vs, w.ownsRow base 22 1 v l.length vs ∧ F2 (fun u x => OwnS w base 3 u (ints x)) vs l ∧ vs.Pairwise (fun a b => a.ownBlock ≠ b.ownBlock)
theorem OwnL_a {w : World} {base : Nat} {v : Value} {l : List (List Int)} (h : OwnL w base v l) : OwnA w base v l := by
  obtain ⟨vs, h1, h2, h3⟩ := h
  by_cases hne : l = []
  · subst hne
    refine .inl ⟨rfl, ?_⟩
    rcases h1.2 with ⟨hv, _⟩ | ⟨g, cap, cur, hv, _⟩
    · exact ⟨none, 0, hv⟩
    · exact ⟨_, cap, hv⟩
  · have hl := h2.len
    refine .inr ⟨hne, vs, ⟨owns_S (by rw [hl]; exact h1) (by rintro rfl; exact hne (List.eq_nil_of_length_eq_zero (by simpa using hl.symm))) (fun x hx => ?_), h2, h3⟩⟩
    obtain ⟨i, hi, rfl⟩ := List.getElem_of_mem hx
    obtain ⟨_, _, hv, _⟩ := own_addr ((F2_iff.1 h2).2 i _ _ (List.getElem?_eq_getElem hi) (List.getElem?_eq_getElem (show i < l.length by omega)))
    rw [hv]
    rfl
theorem OwnL_push {W w4 : World} {base : Nat} {v v4 u : Value} {l : List (List Int)} {row : List Int} {vs : List Value} (hv : W.ownsRow base 22 1 v l.length vs) (h2 : F2 (fun u x => OwnS W base 3 u (ints x)) vs l) (h3 : vs.Pairwise (fun a b => a.ownBlock ≠ b.ownBlock))
    (hu : OwnS W base 3 u (ints row)) (hnew : ∀ x ∈ vs, x.ownBlock ≠ u.ownBlock) (ho : w4.ownsRow base 22 1 v4 (l.length + 1) (vs ++ [u])) (hg : W.grownBy w4 v.ownBlock) : OwnL w4 base v4 (l ++ [row]) := by
  refine ⟨vs ++ [u], by rw [List.length_append]; exact ho, (F2_iff.2 ⟨h2.len, fun i a b ha hb => ?_⟩ : F2 _ vs l).append ⟨?_, trivial⟩, ?_⟩
  · have h4 := (F2_iff.1 h2).2 i a b ha hb
    exact h4.kept hg (owns_ne hv h4 (by decide))
  · exact hu.kept hg (owns_ne hv hu (by decide))
  · rw [List.pairwise_append]
    exact ⟨h3, by simp, fun a ha b hb => by rw [List.mem_singleton.1 hb]; exact hnew a ha⟩
set_option maxHeartbeats 1000000 in
theorem owned_calls (A : Option Addr) (c : Nat) (l : List (List Int)) (w : World) (hr : Kd.C (Kd.slice 3 (Kd.int .i64)) w A l.length l) (hs : l.length ≤ 1000000) (hs2 : ∀ x ∈ l, x ≠ [] ∧ x.length ≤ 1000000) :
    Calls Try.prog 57 #[.slice A l.length c] w fun e w' => ∃ v, e = .returned v ∧ OwnA w' w.heap.size v l ∧ Below w.heap.size w w' := by
  have HR := Aside0.mk hr
  have hm := (C_len hr).2
  have HS2 := Aside0.mk hs2
  clear hr hs2
  go_enter Try.func57, Try.ntmps57
  go_wp2
  go_loopg [3, 8] l.length (fun g v3 v8 wr => ∃ (i : Nat), g = l.length - i ∧ i ≤ l.length ∧ v8 = .int .i64 i ∧ Aside0 (OwnL wr w.heap.size v3 (l.take i)) ∧ Below w.heap.size w wr)
  case atStart => exact ⟨0, rfl, Nat.zero_le _, rfl, ⟨⟨[], World.ownsRow_nil _ _ _ _, trivial, by simp⟩⟩, Below.refl _ _⟩
  case round =>
    obtain ⟨i, hg, hi, rfl, HO, hbel⟩ := hrel
    have HG := Aside0.mk hg
    clear hg
    by_cases hlt : i < l.length
    · obtain ⟨ad, A0, c0, row, hA, hdrop, hcell, hrl, hrow⟩ := C_row HR.out i hlt
      subst hA
      replace hcell := pw_cell_below hbel hcell
      have HD := Aside0.mk hdrop
      have hri : row ∈ l := List.mem_of_mem_drop (i := i) (by rw [hdrop]; simp)
      obtain ⟨hr0, hr1⟩ := HS2.out row hri
      have hcl := Aside0.mk (Clone_calls A0 c0 row wr (Kd.C_below hrow hbel) hr0 hr1)
      have HR0 := Aside0.mk hr0
      obtain ⟨vs, hv, h2, h3⟩ := HO.out
      have HV := Aside0.mk (And.intro hv (And.intro h2 h3))
      have htl : (l.take i).length = i := by rw [List.length_take]; omega
      have HTL := Aside0.mk htl
      clear hdrop hrow hr0 hri hv h2 h3 htl
      go_wp2_with (first | (go_at_call 52; go_must (refine hcl.out.mono ?_; rintro e w1 ⟨v1, rfl, ho1, hb1⟩; have hS1 := OwnS_of_OI ho1 HR0.out; have HS1 := Aside0.mk hS1; obtain ⟨g1, c1, e1, _, _, _, _, _⟩ := own_addr hS1; subst e1; clear ho1 hS1)) | ((with_reducible refine at_b (b := .append) (xs := #[.tmp 12, .tmp 15]) rfl ?_); go_must (refine print_append_cells (w0 := w) (W := w1) w.heap.size rfl (.tmp 12) (.tmp 15) 24 22 (.slice none 0 0) 1 24 rfl Try.underlying24 infoA22 rfl (by decide) (by omega) u3 i vs [.slice (some ⟨g1, 0, none⟩) (ints row).length c1] rfl rfl rfl (by simp [Value.oneCell']) ?bO (hbel.trans (hb1.mono hbel.size)) ?bB ?bL ?_; (case bO => have h := owns_below HV.out.1 hb1; rw [HTL.out] at h; exact h); (case bB => have := hbel.size; have := hb1.size; omega); (case bL => omega); intro v4 w4 ho4 hb4 hg4 hat4; have HO4 := Aside0.mk (And.intro ho4 hg4); clear ho4 hg4 hat4)))
      go_roundg (l.length - (i + 1))
      case measure => have := HG.out; omega
      case rel =>
        refine ⟨i + 1, rfl, by omega, by go_num, ⟨?_⟩, hb4⟩
        rw [take_drop_snoc HD.out]
        have h := HV.out
        have hlt2 : ∀ x ∈ vs, ∀ k, x.ownBlock = some k → k < wr.heap.size := by
          intro x hx k hk
          obtain ⟨j, hj, rfl⟩ := List.getElem_of_mem hx
          have hl := h.2.1.len
          obtain ⟨g5, c5, _, e5, _, h5, _⟩ := own_addr ((F2_iff.1 h.2.1).2 j _ _ (List.getElem?_eq_getElem hj) (List.getElem?_eq_getElem (by omega)))
          rw [e5] at hk
          injection hk with hk
          omega
        obtain ⟨g6, c6, e6, e7, h6, _⟩ := own_addr HS1.out
        refine OwnL_push (W := w1) (u := .slice (some ⟨g1, 0, none⟩) (ints row).length c1) (vs := vs) (owns_below h.1 hb1) (h.2.1.imp fun u x _ hr => hr.below hb1) h.2.2 (HS1.out.low hbel.size) (fun x hx he => ?_) (by rw [HTL.out]; exact HO4.out.1) HO4.out.2
        rw [e7] at he
        have := hlt2 x hx g6 he
        omega
    · go_wp2
      go_ret
      refine ⟨_, rfl, ?_, hbel⟩
      have h := HO.out
      rw [List.take_of_length_le (by omega)] at h
      exact OwnL_a h
end Go.Proofs.Ytjpobhdgfdeenaa.A

/- remove of package array: the loop. -/
set_option linter.unusedVariables false
set_option linter.unusedSimpArgs false
namespace Go.Proofs.Ytjpobhdgfdeenaa.A
open Go.RowKit Go.Shelf Go.Proofs.YtjpobhdgfdeenaaW.PrintWords Go.Maps
attribute [local go_sem] Oper.semAt_some

theorem blk_setCell {W : World} {g o e : Nat} {cur : List Value} (hB : Blk W g e cur) (z : Value) : Blk (W.setCell ⟨g, o, none⟩ z) g e (cur.set o z) := by
  show (W.setCell ⟨g, o, none⟩ z).heap[g]? = _
  rw [setCell_eq_setRow W g o cur.toArray e (0, 0) z hB]
  have := setRow_heap W g cur.toArray (cur.toArray.setIfInBounds o z) e (0, 0) hB
  rw [this]
  congr 2
  simp
theorem PBox.set4 {W : World} {B : Nat} {p : Pos} (h : PBox W B p) (x : Pos) : PBox ((((W.setCell ⟨B, 0, none⟩ (.int .i64 x.1)).setCell ⟨B, 1, none⟩ (.int .i64 x.2.1)).setCell ⟨B, 2, none⟩ (.int .i64 x.2.2.1)).setCell ⟨B, 3, none⟩ (.int .i64 x.2.2.2)) B x := by
  have h0 : Blk W B 62 [.int .i64 p.1, .int .i64 p.2.1, .int .i64 p.2.2.1, .int .i64 p.2.2.2] := h
  exact blk_setCell (blk_setCell (blk_setCell (blk_setCell h0 (o := 0) (.int .i64 x.1)) (o := 1) (.int .i64 x.2.1)) (o := 2) (.int .i64 x.2.2.1)) (o := 3) (.int .i64 x.2.2.2)
theorem PBox.frozen {W : World} {B : Nat} {p : Pos} (h : PBox W B p) (i : Nat) : W.frozen? ⟨B, i, none⟩ = false := by
  have h' : W.heap[B]? = _ := h
  simp [World.frozen?, h']
def StopR (B : Nat) (m : Int) (pre : List Pos) (W : World) : Prop := ∃ p pre0, PBox W B p ∧ (pre = pre0 ++ [p] ∧ p.1 = m)
/-- The loop of remove. -/
noncomputable def loop56 : Code := match seqAt 2 (Try.f56.body.getD .skip) with
  | .seq (.seq _ (.block _ c)) _ => c
  | c => c
set_option maxHeartbeats 4000000 in
set_option maxRecDepth 100000 in
theorem remove_loop (b m : Int) (g c : Nat) (l : List (List Int)) (w W1 : World) (B11 : Nat)
    (HR : Aside0 (Kd.C (Kd.slice 3 (Kd.int .i64)) w (some ⟨g, 0, none⟩) l.length l)) (HS : Aside0 (l.flatten.length ≤ 1000000)) (hm : 0 ≤ m ∧ m < l.flatten.length) (hlm : l.length ≤ 9223372036854775807)
    (f6 : Boxed W1 w.heap.size 3 (.int .i64 m)) (f8 : PBox W1 (w.heap.size + 1) (0, 0, 0, 0)) (f11 : Boxed W1 B11 24 (.slice (some ⟨g, 0, none⟩) l.length c))
    (hB1 : Below w.heap.size w W1) (hz1 : W1.heap.size = w.heap.size + 3) (hz4 : B11 < w.heap.size + 3) (hz5 : w.heap.size + 1 < B11)
    (K : Act → World → Prop) (Q : Exit → Act → World → Prop)
    (hgo : ∀ (p : Pos) (D : Nat) (W : World), p ∈ posAll 0 0 l → p.1 = m → PBox W (w.heap.size + 1) p → W.heap[D]? = some (.deferred (some [])) → w.heap.size ≤ D → Below w.heap.size w W →
      K { tmps := #[.int .i64 b, .slice (some ⟨g, 0, none⟩) l.length c, .int .i64 m, undef, undef, .pointer (some ⟨w.heap.size, 0, none⟩), .slice none 0 0, .int .i64 0, .pointer (some ⟨w.heap.size + 1, 0, none⟩), undef, undef, undef, undef, .slice (some ⟨g, 0, none⟩) l.length c, .func (.func 65) #[] #[.pointer (some ⟨B11, 0, none⟩)], undef, undef, undef, undef, undef, undef, undef, undef, undef, undef, undef, undef, undef, undef, undef, undef, undef, undef, undef, undef, undef, undef, undef, undef, undef, undef, undef, undef, undef, undef, undef, undef, undef, undef, undef, undef, undef, undef, undef, undef, undef, undef, undef, undef, undef, undef, undef, undef, undef, undef, undef, undef, undef, undef, undef, undef, undef, undef, undef, undef, undef, undef, undef, undef, undef, undef, undef, undef, undef, undef, undef, undef, undef, undef, undef, undef, undef, undef, undef, undef, undef, undef, undef, undef, undef, undef, undef, undef, undef, undef, undef, undef, undef, undef, undef, undef, undef, undef, undef, undef, undef, undef, undef, undef, undef, undef], defers := { target := .collected D, args := #[] } :: [] } W) :
    loop56.wp Try.prog (Exit.inBlock 0 (Exit.then K Q)) { tmps := #[.int .i64 b, .slice (some ⟨g, 0, none⟩) l.length c, .int .i64 m, undef, undef, .pointer (some ⟨w.heap.size, 0, none⟩), .slice none 0 0, .int .i64 0, .pointer (some ⟨w.heap.size + 1, 0, none⟩), undef, undef, undef, undef, .slice (some ⟨g, 0, none⟩) l.length c, .func (.func 65) #[] #[.pointer (some ⟨B11, 0, none⟩)], undef, undef, undef, undef, undef, undef, undef, undef, undef, undef, undef, undef, undef, undef, undef, undef, undef, undef, undef, undef, undef, undef, undef, undef, undef, undef, undef, undef, undef, undef, undef, undef, undef, undef, undef, undef, undef, undef, undef, undef, undef, undef, undef, undef, undef, undef, undef, undef, undef, undef, undef, undef, undef, undef, undef, undef, undef, undef, undef, undef, undef, undef, undef, undef, undef, undef, undef, undef, undef, undef, undef, undef, undef, undef, undef, undef, undef, undef, undef, undef, undef, undef, undef, undef, undef, undef, undef, undef, undef, undef, undef, undef, undef, undef, undef, undef, undef, undef, undef, undef, undef, undef, undef, undef, undef, undef], defers := [] } W1 := by
  have HGO := Aside0.mk hgo
  clear hgo
  simp only [loop56, seqAt, Try.f56, Option.getD]
  have mixed : Try.prog.follows .mixedOrders = true := by kernel_rfl
  have hst := keys_stops Fence.wide 8 trivial rfl (by decide) B11 (some ⟨g, 0, none⟩) c l w W1 HR.out HS.out hB1 (by omega) f11.cell
  refine (wpIn_wide (n := 9)).1 ?_
  refine wpIn_rangeFunc_ownH (F := Fence.wide) (n := 9) rfl (by decide) (gf := 65) (lb := #[.pointer (some ⟨B11, 0, none⟩)]) rfl trivial (enters_of Try.func65 (by kernel_rfl) rfl)
    hst belowK_t (belowK_b (by omega)) (Below.refl _ _) (fun _ => rfl)
    (fun pre W => (Boxed W w.heap.size 3 (.int .i64 m) ∧ PBox W (w.heap.size + 1) (0, 0, 0, 0)) ∧ Aside0 (∀ q ∈ pre, q.1 ≠ m) ∧ Below w.heap.size w W)
    (fun c pre W => c = .exit 0 ∧ StopR (w.heap.size + 1) m pre W ∧ Below w.heap.size w W)
    (OwnFrom.and (OwnFrom.and (Own.from (boxed_own _ _ (fun _ => _)) _) (Own.from (fun s X Y row hs hg hr => pbox_own _ _ () X Y row hs hg hr) _)) (OwnFrom.and (fun _ _ _ _ hs _ _ => hs) (ownFrom_below (Nat.le_refl _) (by omega))))
    (fun c => OwnFrom.and (fun _ _ _ _ hs _ _ => hs) (OwnFrom.and (fun s X Y row hs hg hr => by
      obtain ⟨p, pre0, h1, h3⟩ := hs
      exact ⟨p, pre0, pbox_own _ p () X Y row h1 hg (fun r e => (hr r e).2), h3⟩) (ownFrom_below (Nat.le_refl _) (by omega))))
    ⟨⟨f6, f8⟩, ⟨by simp⟩, hB1⟩
    (fun x a' W => ∃ Bx, w.heap.size + 1 < Bx ∧ PBox W Bx x ∧ a' = { tmps := #[.int .i64 b, .slice (some ⟨g, 0, none⟩) l.length c, .int .i64 m, undef, undef, .pointer (some ⟨w.heap.size, 0, none⟩), .slice none 0 0, .int .i64 0, .pointer (some ⟨w.heap.size + 1, 0, none⟩), .pointer (some ⟨Bx, 0, none⟩), undef, undef, undef, .slice (some ⟨g, 0, none⟩) l.length c, .func (.func 65) #[] #[.pointer (some ⟨B11, 0, none⟩)], encP x, undef, undef, undef, undef, undef, undef, undef, undef, undef, undef, undef, undef, undef, undef, undef, undef, undef, undef, undef, undef, undef, undef, undef, undef, undef, undef, undef, undef, undef, undef, undef, undef, undef, undef, undef, undef, undef, undef, undef, undef, undef, undef, undef, undef, undef, undef, undef, undef, undef, undef, undef, undef, undef, undef, undef, undef, undef, undef, undef, undef, undef, undef, undef, undef, undef, undef, undef, undef, undef, undef, undef, undef, undef, undef, undef, undef, undef, undef, undef, undef, undef, undef, undef, undef, undef, undef, undef, undef, undef, undef, undef, undef, undef, undef, undef, undef, undef, undef, undef, undef, undef, undef, undef, undef, undef], defers := [] })
    (fun x a' _ X Y row hs hg hr => by
      obtain ⟨Bx, h1, h2, h3⟩ := hs
      exact ⟨Bx, h1, pbox_own Bx x () X Y row h2 hg (fun r e => (hr r e).2), h3⟩)
    ?assign ?body ?done ?stop
  case assign =>
    rintro lp pre x W K ⟨⟨c5, c6⟩, hx, hB⟩ hK
    have hsW := hB.size
    have h6 : w.heap.size + 1 < W.heap.size := (Array.getElem?_eq_some_iff.1 c6).1
    gi_wp2
    exact hK _ _ ((KeepsOthers.alloc _ _).from _) ((Below.refl _ W).alloc hB.size _) ⟨⟨c5.alloc _, (Below.heap_alloc W _ _ h6).trans c6⟩, hx, hB.alloc hB.size _⟩ ⟨W.heap.size, h6, World.alloc_heap_new W _, rfl⟩
  case body =>
    rintro lp pre x a' W hl _ ⟨⟨c5, c6⟩, hx, hB⟩ ⟨Bx, hBx, bX, rfl⟩ hlt
    have d5 := c5.cell
    obtain ⟨q0, q1, q2, q3⟩ := bX.cell
    obtain ⟨s0, s1, s2, s3⟩ := c6.cell
    have t0 := c6.frozen 0
    have t1 := c6.frozen 1
    have t2 := c6.frozen 2
    have t3 := c6.frozen 3
    by_cases hkx : x.1 = m
    · have hd : (x.1 == m) = true := by simpa using hkx
      have HKX := Aside0.mk hkx
      clear hkx
      gi_wp2
      exact ⟨((((KeepsOthers.setCell _ _ _).trans (KeepsOthers.setCell _ _ _)).trans (KeepsOthers.setCell _ _ _)).trans (KeepsOthers.setCell _ _ _)).from _, rfl, ⟨x, pre, c6.set4 x, rfl, HKX.out⟩, (((hB.setCell (p := ⟨w.heap.size + 1, 0, none⟩) (by simp) _).setCell (p := ⟨w.heap.size + 1, 1, none⟩) (by simp) _).setCell (p := ⟨w.heap.size + 1, 2, none⟩) (by simp) _).setCell (p := ⟨w.heap.size + 1, 3, none⟩) (by simp) _⟩
    · have hd : (x.1 == m) = false := by simpa using hkx
      have HKX := Aside0.mk hkx
      clear hkx
      gi_wp2
      have hall : ∀ q ∈ pre ++ [x], q.1 ≠ m := fun q hq => by
        rcases List.mem_append.1 hq with hq | hq
        · exact hx.out q hq
        · rw [List.mem_singleton.1 hq]
          exact HKX.out
      exact ⟨KeepsFrom.refl _ _, Below.refl _ _, ⟨⟨c5, c6⟩, ⟨fun a a1 a2 a3 hq => hall (a, a1, a2, a3) hq⟩, hB⟩⟩
  case done =>
    rintro D ys W hD rfl ⟨⟨c5, c6⟩, hx, hB⟩ hK
    obtain ⟨p, hp, he⟩ := posAll_all l 0 0 m hm.1 (by omega)
    exact absurd he (hx.out p hp)
  case stop =>
    rintro D c pre W hD hpre ⟨rfl, ⟨p, pre0, c8, h3⟩, hB⟩ hK
    obtain ⟨h4, h5⟩ := h3
    subst h4
    refine wpIn_wide.2 ?_
    go_wp2
    exact HGO.out p D W (hpre.subset (List.mem_append.2 (.inr (List.mem_singleton.2 rfl)))) h5 c8 hK (by omega) hB
end Go.Proofs.Ytjpobhdgfdeenaa.A

/- A row taken out of rows of rows of the call's own. -/
set_option linter.unusedVariables false
set_option linter.unusedSimpArgs false
namespace Go.Proofs.Ytjpobhdgfdeenaa.A
open Go.RowKit Go.Proofs.YtjpobhdgfdeenaaW.PrintWords Go.Maps

theorem ints_erase (r : List Int) (q : Nat) : ints (r.eraseIdx q) = (ints r).eraseIdx q := by
  simp only [ints, List.eraseIdx_eq_take_drop_succ, List.map_append, List.map_take, List.map_drop]
theorem F2.eraseIdx {α β : Type} {R : α → β → Prop} {l : List α} {m : List β} (h : F2 R l m) (i : Nat) : F2 R (l.eraseIdx i) (m.eraseIdx i) := by
  rw [List.eraseIdx_eq_take_drop_succ, List.eraseIdx_eq_take_drop_succ]
  exact (h.take i).append (h.drop (i + 1))
theorem Own2.eraseRow {w w' : World} {base : Nat} {v v' : Value} {vs : List Value} {l : List (List Int)} (h : Own2 w base v vs l) (i : Nat) (hg : w.grownBy w' v.ownBlock) (ho : OwnS w' base 22 v' (vs.eraseIdx i)) : Own2 w' base v' (vs.eraseIdx i) (l.eraseIdx i) := by
  have hrows : F2 (fun u x => OwnS w' base 3 u (ints x)) vs l := F2_iff.2 ⟨h.rows.len, fun a x y hx hy => by
    have h1 := (F2_iff.1 h.rows).2 a x y hx hy
    exact h1.kept hg (own_ne h1 h.outer (by decide))⟩
  exact ⟨ho, hrows.eraseIdx i, h.apart.sublist (List.eraseIdx_sublist vs i)⟩
theorem Own2.toA {w : World} {base : Nat} {v : Value} {vs : List Value} {l : List (List Int)} (h : Own2 w base v vs l) : OwnA w base v l := by
  by_cases hne : l = []
  · subst hne
    obtain ⟨g, c, e, hl, _⟩ := h.reads
    exact .inl ⟨rfl, _, c, e⟩
  · exact .inr ⟨hne, vs, h⟩
theorem OwnA.ended {w : World} {base D : Nat} {v : Value} {l : List (List Int)} {o o' : Obj} (h : OwnA w base v l) (hD : w.heap[D]? = some o) (ho : o.isCells = false) : OwnA (w.putObj D o') base v l := by
  rcases h with h | ⟨hne, vs, h⟩
  · exact .inl h
  · exact .inr ⟨hne, vs, h.ended hD ho⟩
/-- Two neighbours made one. -/
def mergeL (b : Int) (l : List (List Int)) (f : Nat) : Option (List (List Int)) :=
  if f + 1 < l.length ∧ (((l.getD f []).length + (l.getD (f + 1) []).length : Nat) : Int) ≤ b then some ((l.set f (l.getD f [] ++ l.getD (f + 1) [])).eraseIdx (f + 1)) else none
/-- Rows of which row j is now r: an empty one out, a small one joined with a neighbour. -/
def remL (b : Int) (l : List (List Int)) (j : Nat) (r : List Int) : List (List Int) :=
  if r = [] then l.eraseIdx j else if (b + 1) / 2 ≤ (r.length : Int) then l.set j r else
    match mergeL b (l.set j r) j with
    | some x => x
    | none => if j = 0 then l.set j r else match mergeL b (l.set j r) (j - 1) with
      | some x => x
      | none => l.set j r
/-- The key at an index taken out. -/
def remF (b : Int) (l : List (List Int)) (m : Int) : List (List Int) × Int :=
  (remL b l (spotF l m).1.toNat ((l.getD (spotF l m).1.toNat []).eraseIdx (m - (spotF l m).2).toNat), (l.getD (spotF l m).1.toNat []).getD (m - (spotF l m).2).toNat 0)
theorem remF_at {b m : Int} {l : List (List Int)} {j q : Nat} {rj : List Int} (h : At l m j q) (hj : l[j]? = some rj) : remF b l m = (remL b l j (rj.eraseIdx q), rj.getD q 0) := by
  have h1 := spotF_at h
  obtain ⟨row, h0, h2, _⟩ := h
  unfold remF
  rw [h1]
  have e1 : ((j : Int), (((l.take j).flatten.length : Nat) : Int)).1.toNat = j := by simp
  have e2 : (m - ((j : Int), (((l.take j).flatten.length : Nat) : Int)).2).toNat = q := by simp only [h2]; omega
  rw [e1, e2]
  have e3 : l.getD j [] = rj := by simp [List.getD_eq_getElem?_getD, hj]
  rw [e3]
end Go.Proofs.Ytjpobhdgfdeenaa.A
