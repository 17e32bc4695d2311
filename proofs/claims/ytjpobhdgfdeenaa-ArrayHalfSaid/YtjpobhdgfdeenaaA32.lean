/- Contracts of functions of package array: what they return, in whatever memory the arguments lie. -/
import Derived.Test.YtjpobhdgfdeenaaProg
import Derived.Below
import Derived.Deep.Draws
import Derived.Deep.AppendLies
import Derived.Maps.AppendAt
import Derived.Maps.OwnSet
import Derived.OwnWalk
import Derived.Laws.BytesArg
import Derived.Laws.MakeOwn
import Derived.Laws.OwnMore
import Derived.Deep.OwnRows
import Derived.Tactics
import Derived.Laws.Slices
import Derived.WalkKit
import Derived.KernelRfl
import Derived.RowKit3
import Derived.Deep.LoopGhost
import Derived.Deep.QuietTactic
import Derived.BigQuiet
import Derived.WideLaws
import Derived.Deep.DeepCutAuto
import Derived.Deep.CutBlock
import Derived.Deep.RegionHeld3
import Derived.Laws.Rows
import Derived.ArgAppend
import Derived.Laws.IdiomCopy
import Derived.OrdersHeld
import Derived.Laws.BitsLemmas
import Derived.Outline
import Derived.WalkSpells
import Derived.Lib.Hide
import Derived.RowKit
import Derived.Deep.DeepMust
import Derived.Test.YtjpobhdgfdeenaaA31
namespace Go.Proofs.Ytjpobhdgfdeenaa.A
open Go.RowKit Go.Proofs.YtjpobhdgfdeenaaW.PrintWords Go.Maps

set_option maxHeartbeats 1000000 in
theorem sIndex_calls (A : Option Addr) (c : Nat) (xs : List Int) (x : Int) (w : World) (hx : Kd.C (Kd.int .i64) w A xs.length xs) :
    Calls Try.prog 70 #[.slice A xs.length c, .int .i64 x] w fun e w' => e = .returned (.int .i64 (idxF xs x)) ∧ w = w' := by
  have HX := Aside0.mk hx
  have hmx := (C_len hx).2
  clear hx
  have HS : Aside0 (idxF xs x = idxFrom x 0 (xs.drop 0)) := ⟨rfl⟩
  go_enter Try.func70, Try.ntmps70
  go_wp2
  go_loopg [8] xs.length (fun g v8 wr => ∃ (i : Nat), g = xs.length - i ∧ i ≤ xs.length ∧ v8 = .int .i64 i ∧ Aside0 (idxF xs x = idxFrom x i (xs.drop i)) ∧ w = wr)
  case atStart => exact ⟨0, rfl, Nat.zero_le _, rfl, HS, rfl⟩
  case round =>
    obtain ⟨i, hg, hi, rfl, HT, rfl⟩ := hrel
    have HG := Aside0.mk hg
    clear hg HS
    by_cases hlt : i < xs.length
    · obtain ⟨ad, y, hA, hdx, hcx⟩ := C_int HX.out i hlt
      subst hA
      have HD := Aside0.mk hdx
      clear hdx
      by_cases hxy : y = x
      · have hne : (x == y) = true := by simpa using hxy.symm
        have HE := Aside0.mk hxy
        clear hxy
        go_wp2
        go_ret
        exact ⟨ret_i (by rw [HT.out, HD.out, idxFrom, if_pos HE.out]), rfl⟩
      · have hne : (x == y) = false := by simpa using Ne.symm hxy
        have HE := Aside0.mk hxy
        clear hxy
        go_wp2
        go_roundg (xs.length - (i + 1))
        case measure => have := HG.out; omega
        case rel => exact ⟨i + 1, rfl, by omega, by go_num, ⟨by rw [HT.out, HD.out, idxFrom, if_neg HE.out]⟩, rfl⟩
    · go_wp2
      go_ret
      exact ⟨ret_i (by rw [HT.out, List.drop_eq_nil_of_le (by omega), idxFrom]), rfl⟩
theorem Contains_calls (A : Option Addr) (c : Nat) (xs : List Int) (x : Int) (w : World) (hx : Kd.C (Kd.int .i64) w A xs.length xs) :
    Calls Try.prog 58 #[.slice A xs.length c, .int .i64 x] w fun e w' => e = .returned (.bool (decide (x ∈ xs))) ∧ w = w' := by
  have HX := Aside0.mk hx
  clear hx
  go_enter Try.func58, Try.ntmps58
  go_wp2_with (go_at_call 70; refine (sIndex_calls _ _ _ _ _ HX.out).mono ?_; rintro e w' ⟨rfl, rfl⟩)
  go_ret
  exact ⟨ret_bool (by simp [idxF, idxFrom_mem]), rfl⟩
end Go.Proofs.Ytjpobhdgfdeenaa.A
