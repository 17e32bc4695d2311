/- Contracts of functions of package array: what they return, in whatever memory the arguments lie. -/
import Derived.Test.YtjpobhdgfdeenaaProg
import Derived.Below
import Derived.Deep.Draws
import Derived.Deep.AppendLies
import Derived.Maps.AppendAt
import Derived.Maps.OwnSet
import Derived.OwnWalk
import Derived.Laws.BytesArg
import Derived.Laws.MakeOwn
import Derived.Laws.OwnMore
import Derived.Deep.OwnRows
import Derived.Tactics
import Derived.Laws.Slices
import Derived.WalkKit
import Derived.KernelRfl
import Derived.RowKit3
import Derived.Deep.LoopGhost
import Derived.Deep.QuietTactic
import Derived.BigQuiet
import Derived.WideLaws
import Derived.Deep.DeepCutAuto
import Derived.Deep.CutBlock
import Derived.Deep.RegionHeld3
import Derived.Laws.Rows
import Derived.ArgAppend
import Derived.Laws.IdiomCopy
import Derived.OrdersHeld
import Derived.Laws.BitsLemmas
import Derived.Outline
import Derived.WalkSpells
import Derived.Lib.Hide
import Derived.RowKit
import Derived.Deep.DeepMust
import Derived.StillTailTactics
import Derived.Deep.DrawnRows
import Derived.BigQuiet
import Derived.Test.YtjpobhdgfdeenaaM7
import Derived.Test.YtjpobhdgfdeenaaM11
import Derived.Test.YtjpobhdgfdeenaaA39
set_option linter.unusedVariables false
set_option linter.unusedSimpArgs false
namespace Go.Proofs.Ytjpobhdgfdeenaa.A
open Go.RowKit Go.Proofs.YtjpobhdgfdeenaaW.PrintWords Go.Maps

/-- Rows of the call's own, told at once: each row may be appended to. -/
abbrev OwnV (W : World) (bl : Nat) (vb : Value) (vsb : List Value) (pre : List (List Int)) : Prop := W.ownsRow bl 22 1 vb pre.length vsb ∧ F2 (fun u x => OI W bl u x ∧ x ≠ []) vsb pre ∧ vsb.Pairwise (fun a b => a.ownBlock ≠ b.ownBlock)
def OwnM (w : World) (base : Nat) (v : Value) (l : List (List Int)) : Prop := ∃ vs, OwnV w base v vs l
theorem OwnV.low {W : World} {bl bl' : Nat} {vb : Value} {vsb : List Value} {pre : List (List Int)} (h : OwnV W bl vb vsb pre) (hb : bl' ≤ bl) : OwnV W bl' vb vsb pre := ⟨own_weaken h.1 hb, h.2.1.imp fun u x _ hx => ⟨Kd.R_lower hx.1 hb, hx.2⟩, h.2.2⟩
theorem OwnV.S {W : World} {bl : Nat} {vb : Value} {vsb : List Value} {pre : List (List Int)} (h : OwnV W bl vb vsb pre) : F2 (fun u x => OwnS W bl 3 u (ints x)) vsb pre := h.2.1.imp fun u x _ hx => OwnS_of_OI hx.1 hx.2
theorem OwnV.below {W w1 : World} {bl : Nat} {vb : Value} {vsb : List Value} {pre : List (List Int)} (h : OwnV W bl vb vsb pre) (hb : Below W.heap.size W w1) : OwnV w1 bl vb vsb pre := ⟨owns_below h.1 hb, h.2.1.imp fun u x _ hx => ⟨OI_below hx.1 hb, hx.2⟩, h.2.2⟩
theorem OwnV.push {W w4 : World} {base : Nat} {v v4 u : Value} {l : List (List Int)} {row : List Int} {vs : List Value} (h : OwnV W base v vs l)
    (hu : OI W base u row) (hne : row ≠ []) (hnew : ∀ x ∈ vs, x.ownBlock ≠ u.ownBlock) (ho : w4.ownsRow base 22 1 v4 (l.length + 1) (vs ++ [u])) (hg : W.grownBy w4 v.ownBlock) : OwnV w4 base v4 (vs ++ [u]) (l ++ [row]) := by
  obtain ⟨hv, h2, h3⟩ := h
  refine ⟨by rw [List.length_append]; exact ho, (F2_iff.2 ⟨h2.len, fun i a b ha hb => ?_⟩ : F2 _ vs l).append ⟨?_, trivial⟩, ?_⟩
  · have h4 := (F2_iff.1 h2).2 i a b ha hb
    exact ⟨OI_kept h4.1 hg (owns_ne hv (OwnS_of_OI h4.1 h4.2) (by decide)), h4.2⟩
  · exact ⟨OI_kept hu hg (owns_ne hv (OwnS_of_OI hu hne) (by decide)), hne⟩
  · rw [List.pairwise_append]
    exact ⟨h3, by simp, fun a ha b hb => by rw [List.mem_singleton.1 hb]; exact hnew a ha⟩
set_option maxRecDepth 100000 in
set_option maxHeartbeats 2000000 in
theorem copied_own (A : Option Addr) (c : Nat) (l : List (List Int)) (w : World) (hr : Kd.C (Kd.slice 3 (Kd.int .i64)) w A l.length l) (hs : l.length ≤ 1000000) (hs2 : ∀ x ∈ l, x ≠ [] ∧ x.length ≤ 1000000) :
    Calls Try.prog 63 #[.slice A l.length c] w fun e w' => ∃ v, e = .returned v ∧ OwnM w' w.heap.size v l ∧ Below w.heap.size w w' := by
  have HR := Aside0.mk hr
  have hm := (C_len hr).2
  have HS2 := Aside0.mk hs2
  clear hr hs2
  go_enter Try.func63, Try.ntmps63
  go_wp2
  go_loopg [3, 4] l.length (fun g v3 v4 wr => ∃ (i : Nat), g = l.length - i ∧ i ≤ l.length ∧ v4 = .int .i64 i ∧ Aside0 (OwnM wr w.heap.size v3 (l.take i)) ∧ Below w.heap.size w wr)
  case atStart => exact ⟨0, rfl, Nat.zero_le _, rfl, ⟨⟨[], World.ownsRow_nil _ _ _ _, trivial, by simp⟩⟩, Below.refl _ _⟩
  case round =>
    obtain ⟨i, hg, hi, rfl, HO, hbel⟩ := hrel
    have HG := Aside0.mk hg
    clear hg
    by_cases hlt : i < l.length
    · obtain ⟨ad, A0, c0, row, hA, hdrop, hcell, hrl, hrow⟩ := C_row HR.out i hlt
      subst hA
      replace hcell := pw_cell_below hbel hcell
      have HD := Aside0.mk hdrop
      have HRow := Aside0.mk (Kd.C_below hrow hbel)
      have hrm := (C_len hrow).2
      have hsz := hbel.size
      have hri : row ∈ l := List.mem_of_mem_drop (i := i) (by rw [hdrop]; simp)
      obtain ⟨hr0, hr1⟩ := HS2.out row hri
      have HL : Aside0 (row.length ≤ 1000000) := ⟨hr1⟩
      have HR0 := Aside0.mk hr0
      obtain ⟨vs, hv, h2, h3⟩ := HO.out
      have HV := Aside0.mk (And.intro hv (And.intro h2 h3))
      have htl : (l.take i).length = i := by rw [List.length_take]; omega
      have HTL := Aside0.mk htl
      clear hdrop hrow hr0 hri hv h2 h3 htl
      have hca : ∀ o, (wr.alloc o).cell? (ad.add i) = some (.slice A0 row.length c0) := fun o => pw_cell_below (below_alloc (Below.refl _ _) o) hcell
      go_wp2_with (first | ((with_reducible refine at_b (b := .append) (xs := #[.tmp 12, .tmp 16]) rfl ?_); at_builtin; refine Kd.R_append_rows (Kd.int .i64) (w0 := wr) wr.heap.size rfl (.tmp 12) (.tmp 16) 22 3 (.int .i64 0) 8 rfl Try.underlying22 infoA3 rfl (by decide) (by omega) _ [] row _ _ _ Tr (fun _ => False) rfl rfl (OI_empty (Nat.le_refl _)) (Kd.C_below HRow.out (below_alloc (Below.refl _ _) _)) (fun _ _ h => h) (fun _ h => h.elim) (fun _ _ => trivial) (below_alloc (Below.refl _ _) _) (by simp) ?aL ?_; (case aL => have := HL.out; simp; omega); intro v1 w1 ho hb1 hg1 hat1; rw [List.nil_append] at ho; have HS1 := Aside0.mk (And.intro (OwnS_of_OI ho HR0.out) ho); obtain ⟨g1, c1, e1, _⟩ := own_addr HS1.out.1; rw [ints_len] at e1; subst e1; clear ho hg1 hat1) | ((with_reducible refine at_b (b := .append) (xs := #[.tmp 11, .tmp 18]) rfl ?_); go_must (refine print_append_cells (w0 := w) (W := w1) w.heap.size rfl (.tmp 11) (.tmp 18) 24 22 (.slice none 0 0) 1 24 rfl Try.underlying24 infoA22 rfl (by decide) (by omega) u3 i vs [.slice (some ⟨g1, 0, none⟩) row.length c1] rfl rfl rfl (by simp [Value.oneCell']) ?bO (hbel.trans (hb1.mono hbel.size)) ?bB ?bL ?_; (case bO => have h := owns_below HV.out.1 hb1; rw [HTL.out] at h; exact h); (case bB => have := hb1.size; omega); (case bL => omega); intro v4 w4 ho4 hb4 hg4 hat4; have HO4 := Aside0.mk (And.intro ho4 hg4); clear ho4 hg4 hat4)))
      go_roundg (l.length - (i + 1))
      case measure => have := HG.out; omega
      case rel =>
        refine ⟨i + 1, rfl, by omega, by go_num, ⟨?_⟩, hb4⟩
        rw [take_drop_snoc HD.out]
        have h := HV.out
        have hlt2 : ∀ x ∈ vs, ∀ k, x.ownBlock = some k → k < wr.heap.size := by
          intro x hx k hk
          obtain ⟨j, hj, rfl⟩ := List.getElem_of_mem hx
          have hl := h.2.1.len
          obtain ⟨g5, c5, _, e5, _, h5, _⟩ := own_addr ((F2_iff.1 (OwnV.S h)).2 j _ _ (List.getElem?_eq_getElem hj) (List.getElem?_eq_getElem (by omega)))
          rw [e5] at hk
          injection hk with hk
          omega
        obtain ⟨g6, c6, e6, e7, h6, _⟩ := own_addr HS1.out.1
        refine ⟨_, OwnV.push (W := w1) (u := .slice (some ⟨g1, 0, none⟩) row.length c1) (vs := vs) (OwnV.below h hb1) (Kd.R_lower HS1.out.2 hbel.size) HR0.out (fun x hx he => ?_) (by rw [HTL.out]; exact HO4.out.1) HO4.out.2⟩
        rw [e7] at he
        have := hlt2 x hx g6 he
        omega
    · go_wp2
      go_ret
      refine ⟨_, rfl, ?_, hbel⟩
      have h := HO.out
      rw [List.take_of_length_le (by omega)] at h
      exact h
theorem drop_take_one {α : Type} {l : List α} {j : Nat} {u : α} (h : l[j]? = some u) : (l.drop (j * 1)).take 1 = [u] := by
  have hj : j < l.length := (List.getElem?_eq_some_iff.1 h).1
  have h6 : l[j] = u := (List.getElem?_eq_some_iff.1 h).2
  rw [Nat.mul_one, List.drop_eq_getElem_cons hj, h6]
  rfl
/-- Such rows, as the laws of appending take them. -/
theorem own_orOk {w : World} {base : Nat} {v : Value} {vs : List Value} {l : List (List Int)} {ok : Nat → Prop} (h1 : w.ownsRow base 22 1 v l.length vs) (h2 : F2 (fun u x => OwnS w base 3 u (ints x)) vs l) (hv : ∀ k, v.ownBlock = some k → ok k) (hu : ∀ u ∈ vs, ∀ k, u.ownBlock = some k → ok k) : Kd.R kd3 22 w base ok v l := by
  have hl := h2.len
  refine ⟨hv, vs, h1, by rw [hl]; exact (Nat.mul_one _).symm, fun j p hj => ?_⟩
  have hjl : j < l.length := (List.getElem?_eq_some_iff.1 hj).1
  have hvj : vs[j]? = some vs[j] := List.getElem?_eq_getElem (by omega)
  have hS := (F2_iff.1 h2).2 j _ _ hvj hj
  obtain ⟨g, c, e1, hc, hC⟩ := hS.ints_read
  obtain ⟨g2, c2, e2, e3, e4, e5, cells, e6⟩ := own_addr hS
  have hg : g2 = g := by
    rw [e1] at e2
    injection e2 with e2 _ _
    injection e2 with e2
    injection e2 with e2
    exact e2.symm
  subst hg
  have hd := drop_take_one hvj
  show kd3.M w base _ p ((vs.drop (j * 1)).take 1)
  rw [hd, e1]
  refine ⟨_, c, rfl, hc, hC, fun a ha => ?_⟩
  injection ha with ha
  subst ha
  exact ⟨⟨hu _ (List.mem_of_getElem? hvj) _ e3, fun e => owns_ne h1 hS (by decide) (by rw [e3]; exact e)⟩, e4, e5, cells, e6⟩
end Go.Proofs.Ytjpobhdgfdeenaa.A
