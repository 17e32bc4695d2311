/- slices.Clone and slices.Equal at rows of whole numbers. -/
import Derived.Test.YtjpobhdgfdeenaaProg
import Derived.Below
import Derived.Deep.Draws
import Derived.Deep.AppendLies
import Derived.Maps.AppendAt
import Derived.Maps.OwnSet
import Derived.OwnWalk
import Derived.Laws.BytesArg
import Derived.Laws.MakeOwn
import Derived.Laws.OwnMore
import Derived.Deep.OwnRows
import Derived.Tactics
import Derived.Laws.Slices
import Derived.WalkKit
import Derived.KernelRfl
import Derived.RowKit3
import Derived.Deep.LoopGhost
import Derived.Deep.QuietTactic
import Derived.BigQuiet
import Derived.WideLaws
import Derived.Deep.DeepCutAuto
import Derived.Deep.CutBlock
import Derived.Deep.RegionHeld3
import Derived.Laws.Rows
import Derived.ArgAppend
import Derived.Laws.IdiomCopy
import Derived.OrdersHeld
import Derived.Laws.BitsLemmas
import Derived.Outline
import Derived.WalkSpells
import Derived.Lib.Hide
import Derived.RowKit
import Derived.Deep.DeepMust
import Derived.Test.YtjpobhdgfdeenaaS7
set_option linter.unusedVariables false
set_option linter.unusedSimpArgs false
namespace Go.Proofs.Ytjpobhdgfdeenaa.A
open Go.RowKit Go.Proofs.YtjpobhdgfdeenaaW.PrintWords Go.Maps

theorem Clone_calls (A : Option Addr) (c : Nat) (xs : List Int) (w : World) (hx : Kd.C (Kd.int .i64) w A xs.length xs) (hne : xs ≠ []) (hs : xs.length ≤ 1000000) :
    Calls Try.prog 52 #[.slice A xs.length c] w fun e w' => ∃ v, e = .returned v ∧ OI w' w.heap.size v xs ∧ Below w.heap.size w w' := by
  have HX := Aside0.mk hx
  obtain ⟨ad, x, rfl, _, _⟩ := C_int hx 0 (List.length_pos_iff.2 hne)
  clear hx
  have hnil := fun (W : World) => Lib.run_eql_slice_nil (P := Try.prog) W 22 3 (some ad) xs.length c 0 0 Try.underlying22
  go_enter Try.func52, Try.ntmps52
  go_wp2_with (first | ((with_reducible refine at_b (b := .append) (xs := #[.tmp 5, .tmp 6]) rfl ?_); go_must (refine Kd.R_append_rows (Kd.int .i64) (w0 := w) w.heap.size rfl (.tmp 5) (.tmp 6) 22 3 (.int .i64 0) 8 rfl Try.underlying22 infoA3 rfl (by decide) (by omega) _ [] xs _ _ _ Tr (fun _ => False) rfl rfl (OI_empty (Nat.le_refl _)) (Kd.C_below HX.out (below_alloc (Below.refl _ _) _)) (fun _ _ h => h) (fun _ h => h.elim) (fun _ _ => trivial) (below_alloc (Below.refl _ _) _) (by simp) (by simp; omega) ?_; intro v1 w1 ho hb1 hg1 hat1; have HI := Aside0.mk ho; clear ho hg1 hat1)))
  go_ret
  exact ⟨v1, rfl, HI.out, hb1⟩
theorem OwnS_of_OI {w : World} {base : Nat} {v : Value} {xs : List Int} (h : OI w base v xs) (hne : xs ≠ []) : OwnS w base 3 v (ints xs) := by
  obtain ⟨_, inner, ho, hr⟩ := h
  have hl : 0 < xs.length := List.length_pos_iff.2 hne
  have hin : inner = ints xs := by
    have h1 : inner.length = xs.length := hr.1.trans (Nat.mul_one _)
    apply List.ext_getElem?
    intro j
    by_cases hj : j < xs.length
    · have hc := hr.2 j _ (List.getElem?_eq_getElem hj)
      have hc' : List.take 1 (List.drop (j * 1) inner) = [.int .i64 (xs[j]'hj)] := hc
      rw [Nat.mul_one] at hc'
      have e1 : inner[j]? = (List.take 1 (List.drop j inner))[0]? := by simp
      rw [e1, hc']
      simp [ints, hj]
    · rw [List.getElem?_eq_none (by omega), List.getElem?_eq_none (by rw [ints_len]; omega)]
  rcases ho.2 with ⟨_, h0⟩ | ⟨g, cap, cur, hv, hg, hh, h1, h2, h3, h4⟩
  · omega
  · refine ⟨g, cap, cur.toList, by rw [ints_len]; exact hv, hg, by simpa using hh, by rw [ints_len]; exact h1, by simp [h3]; show cap ≤ cap * 1; omega, ?_, ?_, by omega, fun x hx => ?_⟩
    · have h5 : cur.size = cap * 1 := h3
      unfold maxLen at h2
      simp
      omega
    · rw [ints_len, ← hin, ← h4]
      show _ = List.take (xs.length * 1) _
      rw [Nat.mul_one]
    · obtain ⟨y, _, rfl⟩ := List.mem_map.1 hx
      rfl
end Go.Proofs.Ytjpobhdgfdeenaa.A
