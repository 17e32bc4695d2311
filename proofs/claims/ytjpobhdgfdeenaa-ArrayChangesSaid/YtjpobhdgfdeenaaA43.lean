/- Rows of rows: a row in the midst joined with another; what is read of the rows behind the first. -/
import Derived.StillTailTactics
import Derived.Deep.DrawnRows
import Derived.BigQuiet
import Derived.Test.YtjpobhdgfdeenaaA42
import Derived.Test.YtjpobhdgfdeenaaP6
set_option linter.unusedVariables false
set_option linter.unusedSimpArgs false
namespace Go.Proofs.Ytjpobhdgfdeenaa.A
open Go.RowKit Go.Proofs.YtjpobhdgfdeenaaW.PrintWords Go.Maps

theorem own_setCell_at {W : World} {base e g n c j : Nat} {xs : List Value} (h : W.ownsRow base e 1 (.slice (some ⟨g, 0, none⟩) n c) n xs) (hj : j < n) (u : Value) : (W.setCell ⟨g, j, none⟩ u).ownsRow base e 1 (.slice (some ⟨g, 0, none⟩) n c) n (xs.set j u) := by
  rcases h.2 with ⟨hv, _⟩ | ⟨g', cap, cur, hv, h1, h2, h3, h4, h5, h6⟩
  · cases hv
  · injection hv with hv1 _ hv2
    injection hv1 with hv1
    injection hv1 with hv1
    subst hv1 hv2
    refine ⟨by rw [List.length_set]; exact h.1, .inr ⟨g, c, (cur.toList.set j u).toArray, rfl, h1, ?_, h3, h4, ?_, ?_⟩⟩
    · have hB : Blk W g e cur.toList := by simpa [Blk] using h2
      exact blk_setCell hB u
    · simpa using h5
    · show ((cur.toList.set j u).take (n * 1)) = _
      rw [List.take_set, h6]
theorem grownBy_setCell'' (W : World) (a : Addr) (v : Value) : W.grownBy (W.setCell a v) (some a.block) := setCell_grown W a v
theorem rr_drop {α : Type} {R : α → List Value → Prop} {w : World} {ad : Addr} {n c : Nat} {ys : List α} {y : α} (h : ReadsRow R 1 w (some ad) n (y :: ys)) (hc : n ≤ c) : ReadsRow R 1 w (if c = 1 then some ad else some (ad.add 1)) (n - 1) ys := by
  have hn : ys.length + 1 = n := h.1
  refine ⟨by omega, by have := h.2.1; omega, fun hp => ?_⟩
  rw [if_neg (by omega)]
  obtain ⟨ad', e, hcells⟩ := h.2.2 (by omega)
  injection e with e
  subst e
  refine ⟨_, rfl, fun j p hj => ?_⟩
  obtain ⟨cs, h1, h2, h3⟩ := hcells (j + 1) p (by simpa using hj)
  refine ⟨cs, h1, h2, fun i u hu => ?_⟩
  have := h3 i u hu
  rw [Addr.add_add]
  rwa [show 1 + (j * 1 + i) = (j + 1) * 1 + i by omega]
theorem R_reads' {w : World} {base : Nat} {ok : Nat → Prop} {v : Value} {l : List (List Int)} (h : Kd.R kd3 22 w base ok v l) : ∃ A c, v = .slice A l.length c ∧ l.length ≤ c ∧ ReadsRow (kd3.M w base (fun k => ok k ∧ some k ≠ v.ownBlock)) 1 w A l.length l := OwnRow.reads h.2
theorem R_C {w : World} {base : Nat} {ok : Nat → Prop} {v : Value} {l : List (List Int)} (h : Kd.R kd3 22 w base ok v l) : OR w base v l := Kd.R_mono h (fun _ _ => trivial)
theorem prev_row {W : World} {bl : Nat} {vb : Value} {vsb : List Value} {t : List (List Int)} {s : List Int} (h : OwnV W bl vb vsb (t ++ [s])) : ∃ gb cb gu cu, vb = .slice (some ⟨gb, 0, none⟩) (t.length + 1) cb ∧ t.length + 1 ≤ cb ∧ bl ≤ gb ∧ gb < W.heap.size ∧ vsb[t.length]? = some (.slice (some ⟨gu, 0, none⟩) s.length cu) ∧ s.length ≤ cu ∧ bl ≤ gu ∧ gu ≠ gb ∧
    W.cell? ⟨gb, t.length, none⟩ = some (.slice (some ⟨gu, 0, none⟩) s.length cu) ∧ W.frozen? ⟨gb, t.length, none⟩ = false ∧ OI W bl (.slice (some ⟨gu, 0, none⟩) s.length cu) s := by
  have h2' := h.2.1
  have h2 := OwnV.S h
  obtain ⟨h1, _, h3⟩ := h
  have hl := h2.len
  have hlen : (t ++ [s]).length = t.length + 1 := by simp
  rw [hlen] at h1 hl
  have hvj : vsb[t.length]? = some vsb[t.length] := List.getElem?_eq_getElem (by omega)
  have hS := (F2_iff.1 h2).2 t.length _ s hvj (by simp)
  obtain ⟨gu, cu, eu, hcu, hgu, _, _, _⟩ := own_addr hS
  rw [ints_len] at eu
  have hcu2 := hS.ints_read
  obtain ⟨g9, c9, e9, hc9, _⟩ := hcu2
  rw [eu] at e9
  injection e9 with e9 _ e10
  subst e10
  rcases h1.2 with ⟨_, h0⟩ | ⟨gb, cb, cur, hv, k1, k2, k3, k4, k5, k6⟩
  · omega
  · have hB : Blk W gb 22 cur.toList := by simpa [Blk] using k2
    have hcell : W.cell? ⟨gb, t.length, none⟩ = some vsb[t.length] := by
      rw [blk_cell hB]
      rw [Nat.mul_one] at k6
      have h9 : (cur.toList.take (t.length + 1))[t.length]? = some vsb[t.length] := by rw [k6]; exact hvj
      rwa [List.getElem?_take_of_lt (by omega)] at h9
    refine ⟨gb, cb, gu, cu, hv, k3, k1, (Array.getElem?_eq_some_iff.1 k2).1, by rw [hvj, eu], hc9, hgu, fun e => ?_, by rw [hcell, eu], ?_, by rw [← eu]; exact ((F2_iff.1 h2').2 t.length _ s hvj (by simp)).1⟩
    · exact owns_ne h1 hS (by decide) (by rw [hcu, hv, e]; rfl)
    · simp [World.frozen?, k2]
theorem merge_prev {W w5 : World} {bl : Nat} {vb v5 : Value} {vsb : List Value} {t : List (List Int)} {s r : List Int} {gb cb gu cu : Nat} (h : OwnV W bl vb vsb (t ++ [s])) (hv : vb = .slice (some ⟨gb, 0, none⟩) (t.length + 1) cb) (hu : vsb[t.length]? = some (.slice (some ⟨gu, 0, none⟩) s.length cu)) (hg : W.grownBy w5 (some gu)) (hne : gu ≠ gb) (ho : OwnS w5 bl 3 v5 (ints (s ++ r))) :
    OR (w5.setCell ⟨gb, t.length, none⟩ v5) bl vb (t ++ [s ++ r]) := by
  have h2 := OwnV.S h
  obtain ⟨h1, _, h3⟩ := h
  have hl := h2.len
  have hlen : (t ++ [s]).length = t.length + 1 := by simp
  have hlen2 : (t ++ [s ++ r]).length = t.length + 1 := by simp
  rw [hlen] at h1 hl
  subst hv
  have h5 : w5.ownsRow bl 22 1 (.slice (some ⟨gb, 0, none⟩) (t.length + 1) cb) (t.length + 1) vsb := h1.kept hg (.inr (by intro e; injection e with e; exact hne e.symm))
  have h6 := own_setCell_at h5 (show t.length < t.length + 1 by omega) v5
  refine own_orOk (vs := vsb.set t.length v5) (by rw [hlen2]; exact h6) (F2_iff.2 ⟨by rw [List.length_set, hlen2]; exact hl, fun i a x ha hx => ?_⟩) (fun _ _ => trivial) (fun _ _ _ _ => trivial)
  by_cases hi : i = t.length
  · subst hi
    rw [List.getElem?_set_self (by omega)] at ha
    injection ha with ha
    subst ha
    have e : x = s ++ r := by simpa using hx.symm
    subst e
    exact ho.kept (grownBy_setCell'' w5 ⟨gb, t.length, none⟩ v5) (owns_ne h5 ho (by decide))
  · rw [List.getElem?_set_ne (Ne.symm hi)] at ha
    have hit : i < t.length := by
      have := (List.getElem?_eq_some_iff.1 ha).1
      omega
    have hx2 : (t ++ [s])[i]? = some x := by rw [List.getElem?_append_left hit] at hx ⊢; exact hx
    have hS := (F2_iff.1 h2).2 i a x ha hx2
    have hne2 : a.ownBlock ≠ some gu := by
      have := List.pairwise_iff_getElem.1 h3 i t.length (by omega) (by omega) hit
      rw [(List.getElem?_eq_some_iff.1 ha).2, (List.getElem?_eq_some_iff.1 hu).2] at this
      exact this
    have hS5 := hS.kept hg hne2
    exact hS5.kept (grownBy_setCell'' w5 ⟨gb, t.length, none⟩ v5) (owns_ne h5 hS5 (by decide))
end Go.Proofs.Ytjpobhdgfdeenaa.A
