/- owned of package array. -/
import Derived.Test.YtjpobhdgfdeenaaProg
import Derived.Below
import Derived.Deep.Draws
import Derived.Deep.AppendLies
import Derived.Maps.AppendAt
import Derived.Maps.OwnSet
import Derived.OwnWalk
import Derived.Laws.BytesArg
import Derived.Laws.MakeOwn
import Derived.Laws.OwnMore
import Derived.Deep.OwnRows
import Derived.Tactics
import Derived.Laws.Slices
import Derived.WalkKit
import Derived.KernelRfl
import Derived.RowKit3
import Derived.Deep.LoopGhost
import Derived.Deep.QuietTactic
import Derived.BigQuiet
import Derived.WideLaws
import Derived.Deep.DeepCutAuto
import Derived.Deep.CutBlock
import Derived.Deep.RegionHeld3
import Derived.Laws.Rows
import Derived.ArgAppend
import Derived.Laws.IdiomCopy
import Derived.OrdersHeld
import Derived.Laws.BitsLemmas
import Derived.Outline
import Derived.WalkSpells
import Derived.Lib.Hide
import Derived.RowKit
import Derived.Deep.DeepMust
import Derived.Test.YtjpobhdgfdeenaaS11
import Derived.Test.YtjpobhdgfdeenaaA17
set_option linter.unusedVariables false
set_option linter.unusedSimpArgs false
namespace Go.Proofs.Ytjpobhdgfdeenaa.A
open Go.RowKit Go.Proofs.YtjpobhdgfdeenaaW.PrintWords Go.Maps

theorem owns_below {W W' : World} {base e size : Nat} {v : Value} {n : Nat} {xs : List Value} (h : W.ownsRow base e size v n xs) (hb : Below W.heap.size W W') : W'.ownsRow base e size v n xs := by
  refine ⟨h.1, ?_⟩
  rcases h.2 with h0 | ⟨g, cap, cur, hv, hg, hh, r⟩
  · exact .inl h0
  · exact .inr ⟨g, cap, cur, hv, hg, (hb.block g (Array.getElem?_eq_some_iff.1 hh).1).trans hh, r⟩
theorem owns_ne {W : World} {base base' : Nat} {e e' : TypeId} {v u : Value} {n : Nat} {xs ys : List Value} {size : Nat} (h : W.ownsRow base e size v n xs) (hu : OwnS W base' e' u ys) (hne : e ≠ e') : u.ownBlock ≠ v.ownBlock := by
  obtain ⟨g, c, rfl, e1, _, _, cells, hc⟩ := own_addr hu
  rw [e1]
  rcases h.2 with ⟨hv, _⟩ | ⟨g', cap, cur, hv, hg, hh, r⟩
  · rw [hv]; simp [Value.ownBlock]
  · rw [hv]
    intro he
    have he : g = g' := by injection he
    subst he
    rw [hc] at hh
    injection hh with hh
    injection hh with _ hh
    exact hne hh.symm
theorem OwnS.below {w w' : World} {base : Nat} {e : TypeId} {v : Value} {xs : List Value} (h : OwnS w base e v xs) (hb : Below w.heap.size w w') : OwnS w' base e v xs := by
  obtain ⟨g, c, cur, rfl, hbg, hB, r⟩ := h
  exact ⟨g, c, cur, rfl, hbg, (hb.block g (blk_lt hB)).trans hB, r⟩
theorem owns_S {W : World} {base e : Nat} {v : Value} {xs : List Value} (h : W.ownsRow base e 1 v xs.length xs) (hne : xs ≠ []) (h1 : ∀ x ∈ xs, x.oneCell' = true) : OwnS W base e v xs := by
  have hl : 0 < xs.length := List.length_pos_iff.2 hne
  rcases h.2 with ⟨_, h0⟩ | ⟨g, cap, cur, hv, hg, hh, h2, h3, h4, h5⟩
  · omega
  · refine ⟨g, cap, cur.toList, hv, hg, by simpa using hh, h2, ?_, ?_, ?_, by omega, h1⟩
    · have h6 : cur.size = cap * 1 := h4
      simp
      omega
    · have h6 : cur.size = cap * 1 := h4
      have : maxLen = 9223372036854775807 := rfl
      simp
      omega
    · rw [Nat.mul_one] at h5
      exact h5
/-- Rows of the call's own behind an outer row that may still be none. -/
def OwnL (w : World) (base : Nat) (v : Value) (l : List (List Int)) : Prop := ∃ vs, w.ownsRow base 22 1 v l.length vs ∧ F2 (fun u x => OwnS w base 3 u (ints x)) vs l ∧ vs.Pairwise (fun a b => a.ownBlock ≠ b.ownBlock)
theorem OwnL_a {w : World} {base : Nat} {v : Value} {l : List (List Int)} (h : OwnL w base v l) : OwnA w base v l := by
  obtain ⟨vs, h1, h2, h3⟩ := h
  by_cases hne : l = []
  · subst hne
    refine .inl ⟨rfl, ?_⟩
    rcases h1.2 with ⟨hv, _⟩ | ⟨g, cap, cur, hv, _⟩
    · exact ⟨none, 0, hv⟩
    · exact ⟨_, cap, hv⟩
  · have hl := h2.len
    refine .inr ⟨hne, vs, ⟨owns_S (by rw [hl]; exact h1) (by rintro rfl; exact hne (List.eq_nil_of_length_eq_zero (by simpa using hl.symm))) (fun x hx => ?_), h2, h3⟩⟩
    obtain ⟨i, hi, rfl⟩ := List.getElem_of_mem hx
    obtain ⟨_, _, hv, _⟩ := own_addr ((F2_iff.1 h2).2 i _ _ (List.getElem?_eq_getElem hi) (List.getElem?_eq_getElem (show i < l.length by omega)))
    rw [hv]
    rfl
theorem OwnL_push {W w4 : World} {base : Nat} {v v4 u : Value} {l : List (List Int)} {row : List Int} {vs : List Value} (hv : W.ownsRow base 22 1 v l.length vs) (h2 : F2 (fun u x => OwnS W base 3 u (ints x)) vs l) (h3 : vs.Pairwise (fun a b => a.ownBlock ≠ b.ownBlock))
    (hu : OwnS W base 3 u (ints row)) (hnew : ∀ x ∈ vs, x.ownBlock ≠ u.ownBlock) (ho : w4.ownsRow base 22 1 v4 (l.length + 1) (vs ++ [u])) (hg : W.grownBy w4 v.ownBlock) : OwnL w4 base v4 (l ++ [row]) := by
  refine ⟨vs ++ [u], by rw [List.length_append]; exact ho, (F2_iff.2 ⟨h2.len, fun i a b ha hb => ?_⟩ : F2 _ vs l).append ⟨?_, trivial⟩, ?_⟩
  · have h4 := (F2_iff.1 h2).2 i a b ha hb
    exact h4.kept hg (owns_ne hv h4 (by decide))
  · exact hu.kept hg (owns_ne hv hu (by decide))
  · rw [List.pairwise_append]
    exact ⟨h3, by simp, fun a ha b hb => by rw [List.mem_singleton.1 hb]; exact hnew a ha⟩
set_option maxHeartbeats 1000000 in
theorem owned_calls (A : Option Addr) (c : Nat) (l : List (List Int)) (w : World) (hr : Kd.C (Kd.slice 3 (Kd.int .i64)) w A l.length l) (hs : l.length ≤ 1000000) (hs2 : ∀ x ∈ l, x ≠ [] ∧ x.length ≤ 1000000) :
    Calls Try.prog 57 #[.slice A l.length c] w fun e w' => ∃ v, e = .returned v ∧ OwnA w' w.heap.size v l ∧ Below w.heap.size w w' := by
  have HR := Aside0.mk hr
  have hm := (C_len hr).2
  have HS2 := Aside0.mk hs2
  clear hr hs2
  go_enter Try.func57, Try.ntmps57
  go_wp2
  go_loopg [3, 8] l.length (fun g v3 v8 wr => ∃ (i : Nat), g = l.length - i ∧ i ≤ l.length ∧ v8 = .int .i64 i ∧ Aside0 (OwnL wr w.heap.size v3 (l.take i)) ∧ Below w.heap.size w wr)
  case atStart => exact ⟨0, rfl, Nat.zero_le _, rfl, ⟨⟨[], World.ownsRow_nil _ _ _ _, trivial, by simp⟩⟩, Below.refl _ _⟩
  case round =>
    obtain ⟨i, hg, hi, rfl, HO, hbel⟩ := hrel
    have HG := Aside0.mk hg
    clear hg
    by_cases hlt : i < l.length
    · obtain ⟨ad, A0, c0, row, hA, hdrop, hcell, hrl, hrow⟩ := C_row HR.out i hlt
      subst hA
      replace hcell := pw_cell_below hbel hcell
      have HD := Aside0.mk hdrop
      have hri : row ∈ l := List.mem_of_mem_drop (i := i) (by rw [hdrop]; simp)
      obtain ⟨hr0, hr1⟩ := HS2.out row hri
      have hcl := Aside0.mk (Clone_calls A0 c0 row wr (Kd.C_below hrow hbel) hr0 hr1)
      have HR0 := Aside0.mk hr0
      obtain ⟨vs, hv, h2, h3⟩ := HO.out
      have HV := Aside0.mk (And.intro hv (And.intro h2 h3))
      have htl : (l.take i).length = i := by rw [List.length_take]; omega
      have HTL := Aside0.mk htl
      clear hdrop hrow hr0 hri hv h2 h3 htl
      go_wp2_with (first | (go_at_call 52; go_must (refine hcl.out.mono ?_; rintro e w1 ⟨v1, rfl, ho1, hb1⟩; have hS1 := OwnS_of_OI ho1 HR0.out; have HS1 := Aside0.mk hS1; obtain ⟨g1, c1, e1, _, _, _, _, _⟩ := own_addr hS1; subst e1; clear ho1 hS1)) | ((with_reducible refine at_b (b := .append) (xs := #[.tmp 12, .tmp 15]) rfl ?_); go_must (refine print_append_cells (w0 := w) (W := w1) w.heap.size rfl (.tmp 12) (.tmp 15) 24 22 (.slice none 0 0) 1 24 rfl Try.underlying24 infoA22 rfl (by decide) (by omega) u3 i vs [.slice (some ⟨g1, 0, none⟩) (ints row).length c1] rfl rfl rfl (by simp [Value.oneCell']) ?bO (hbel.trans (hb1.mono hbel.size)) ?bB ?bL ?_; (case bO => have h := owns_below HV.out.1 hb1; rw [HTL.out] at h; exact h); (case bB => have := hbel.size; have := hb1.size; omega); (case bL => omega); intro v4 w4 ho4 hb4 hg4 hat4; have HO4 := Aside0.mk (And.intro ho4 hg4); clear ho4 hg4 hat4)))
      go_roundg (l.length - (i + 1))
      case measure => have := HG.out; omega
      case rel =>
        refine ⟨i + 1, rfl, by omega, by go_num, ⟨?_⟩, hb4⟩
        rw [take_drop_snoc HD.out]
        have h := HV.out
        have hlt2 : ∀ x ∈ vs, ∀ k, x.ownBlock = some k → k < wr.heap.size := by
          intro x hx k hk
          obtain ⟨j, hj, rfl⟩ := List.getElem_of_mem hx
          have hl := h.2.1.len
          obtain ⟨g5, c5, _, e5, _, h5, _⟩ := own_addr ((F2_iff.1 h.2.1).2 j _ _ (List.getElem?_eq_getElem hj) (List.getElem?_eq_getElem (by omega)))
          rw [e5] at hk
          injection hk with hk
          omega
        obtain ⟨g6, c6, e6, e7, h6, _⟩ := own_addr HS1.out
        refine OwnL_push (W := w1) (u := .slice (some ⟨g1, 0, none⟩) (ints row).length c1) (vs := vs) (owns_below h.1 hb1) (h.2.1.imp fun u x _ hr => hr.below hb1) h.2.2 (HS1.out.low hbel.size) (fun x hx he => ?_) (by rw [HTL.out]; exact HO4.out.1) HO4.out.2
        rw [e7] at he
        have := hlt2 x hx g6 he
        omega
    · go_wp2
      go_ret
      refine ⟨_, rfl, ?_, hbel⟩
      have h := HO.out
      rw [List.take_of_length_le (by omega)] at h
      exact OwnL_a h
end Go.Proofs.Ytjpobhdgfdeenaa.A
