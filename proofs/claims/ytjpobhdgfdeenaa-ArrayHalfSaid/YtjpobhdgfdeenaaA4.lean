/- Contracts of the reference's small functions over rows of keys. -/
import Derived.Test.YtjpobhdgfdeenaaProg
import Derived.Below
import Derived.Deep.Draws
import Derived.Deep.AppendLies
import Derived.Maps.AppendAt
import Derived.Maps.OwnSet
import Derived.OwnWalk
import Derived.Laws.BytesArg
import Derived.Laws.MakeOwn
import Derived.Laws.OwnMore
import Derived.Deep.OwnRows
import Derived.Tactics
import Derived.Laws.Slices
import Derived.WalkKit
import Derived.KernelRfl
import Derived.RowKit3
import Derived.Deep.LoopGhost
import Derived.Deep.QuietTactic
import Derived.BigQuiet
import Derived.WideLaws
import Derived.Deep.DeepCutAuto
import Derived.Deep.CutBlock
import Derived.Deep.RegionHeld3
import Derived.Laws.Rows
import Derived.ArgAppend
import Derived.Laws.IdiomCopy
import Derived.OrdersHeld
import Derived.Laws.BitsLemmas
import Derived.Outline
import Derived.WalkSpells
import Derived.Lib.Hide
import Derived.RowKit
import Derived.Test.YtjpobhdgfdeenaaS2
namespace Go.Proofs.Ytjpobhdgfdeenaa.A
open Go.RowKit Go.Proofs.YtjpobhdgfdeenaaW.PrintWords Go.Maps

def idxFrom (x : Int) : Nat → List Int → Int
  | _, [] => -1
  | i, y :: ys => if y = x then (i : Int) else idxFrom x (i + 1) ys
def idxF (l : List Int) (x : Int) : Int := idxFrom x 0 l
theorem idxFrom_mem (x : Int) : ∀ (l : List Int) (i : Nat), (0 ≤ idxFrom x i l) ↔ x ∈ l
  | [], i => by simp [idxFrom]
  | y :: ys, i => by
    rw [idxFrom]
    by_cases e : y = x
    · rw [if_pos e]; simp [e]
    · rw [if_neg e, idxFrom_mem x ys (i + 1)]
      simp [Ne.symm e]

set_option maxHeartbeats 1000000 in
theorem Index_calls (A : Option Addr) (c : Nat) (xs : List Int) (x : Int) (w : World) (hx : Kd.C (Kd.int .i64) w A xs.length xs) :
    Calls Try.prog 44 #[.slice A xs.length c, .int .i64 x] w fun e w' => e = .returned (.int .i64 (idxF xs x)) ∧ ∃ m, w' = w.drewN m := by
  have HX := Aside0.mk hx
  have hmx := (C_len hx).2
  clear hx
  have HS : Aside0 (idxF xs x = idxFrom x 0 (xs.drop 0)) := ⟨rfl⟩
  go_enter Try.func44, Try.ntmps44
  go_wp2
  go_loopg [5] xs.length (fun g v5 wr => ∃ (i : Nat), g = xs.length - i ∧ i ≤ xs.length ∧ v5 = .int .i64 i ∧ Aside0 (idxF xs x = idxFrom x i (xs.drop i)) ∧ Drawn0 w wr)
  case atStart => exact ⟨0, rfl, Nat.zero_le _, rfl, HS, Drawn0.refl _⟩
  case round =>
    obtain ⟨i, hg, hi, rfl, HT, hdr⟩ := hrel
    have hbel := hdr.below
    have HG := Aside0.mk hg
    clear hg HS
    by_cases hlt : i < xs.length
    · obtain ⟨ad, y, hA, hdx, hcx⟩ := C_int HX.out i hlt
      subst hA
      replace hcx := pw_cell_below hbel hcx
      have HD := Aside0.mk hdx
      clear hdx
      by_cases hxy : y = x
      · have hne : (y == x) = true := by simpa using hxy
        have HE := Aside0.mk hxy
        clear hxy
        go_wp2
        go_ret
        exact ⟨ret_i (by rw [HT.out, HD.out, idxFrom, if_pos HE.out]), hdr.out⟩
      · have hne : (y == x) = false := by simpa using hxy
        have HE := Aside0.mk hxy
        clear hxy
        go_wp2
        go_roundg (xs.length - (i + 1))
        case measure => have := HG.out; omega
        case rel => exact ⟨i + 1, rfl, by omega, by go_num, ⟨by rw [HT.out, HD.out, idxFrom, if_neg HE.out]⟩, hdr⟩
    · go_wp2
      go_ret
      exact ⟨ret_i (by rw [HT.out, List.drop_eq_nil_of_le (by omega), idxFrom]), hdr.out⟩
theorem Has_calls (A : Option Addr) (c : Nat) (xs : List Int) (x : Int) (w : World) (hx : Kd.C (Kd.int .i64) w A xs.length xs) :
    Calls Try.prog 47 #[.slice A xs.length c, .int .i64 x] w fun e w' => e = .returned (.bool (decide (x ∈ xs))) ∧ ∃ m, w' = w.drewN m := by
  have HX := Aside0.mk hx
  clear hx
  go_enter Try.func47, Try.ntmps47
  go_wp2_with (go_at_call 44; refine (Index_calls _ _ _ _ _ HX.out).mono ?_; rintro e w' ⟨rfl, ⟨m, rfl⟩⟩)
  go_ret
  exact ⟨ret_bool (by simp [idxF, idxFrom_mem]), ⟨_, rfl⟩⟩

theorem half_calls (n : Int) (w : World) (h : 0 ≤ n ∧ n ≤ 1000) : Calls Try.prog 61 #[.int .i64 n] w fun e w' => e = .returned (.int .i64 (n / 2)) ∧ w = w' := by
  obtain ⟨h1, h2⟩ := h
  go_enter Try.func61, Try.ntmps61
  go_wp2
  go_ret
  exact ⟨rfl, rfl⟩
theorem Valid_calls (b : Int) (A : Option Addr) (c : Nat) (l : List (List Int)) (w : World) (hr : Kd.C (Kd.slice 3 (Kd.int .i64)) w A l.length l) :
    Calls Try.prog 15 #[.int .i64 b, .slice A l.length c] w fun e w' => e = .returned (.bool ((wrongF b l).2.2 == 0)) ∧ Below w.heap.size w w' := by
  have HR := Aside0.mk hr
  clear hr
  generalize hF : wrongF b l = F
  have HF := Aside0.mk hF
  clear hF
  go_enter Try.func15, Try.ntmps15
  go_wp2_with (go_at_call 17; refine (wrong_calls _ _ _ _ _ HR.out).mono ?_; rw [HF.out]; rintro e w' ⟨rfl, hb⟩)
  go_ret
  exact ⟨rfl, hb⟩
end Go.Proofs.Ytjpobhdgfdeenaa.A
