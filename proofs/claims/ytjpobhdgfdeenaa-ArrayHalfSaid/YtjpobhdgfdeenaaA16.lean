/- Keys, Count of package array; Valid, Keys of the reference. -/
import Derived.Test.YtjpobhdgfdeenaaProg
import Derived.Below
import Derived.Deep.Draws
import Derived.Deep.AppendLies
import Derived.Maps.AppendAt
import Derived.Maps.OwnSet
import Derived.OwnWalk
import Derived.Laws.BytesArg
import Derived.Laws.MakeOwn
import Derived.Laws.OwnMore
import Derived.Deep.OwnRows
import Derived.Tactics
import Derived.Laws.Slices
import Derived.WalkKit
import Derived.KernelRfl
import Derived.RowKit3
import Derived.Deep.LoopGhost
import Derived.Deep.QuietTactic
import Derived.BigQuiet
import Derived.WideLaws
import Derived.Deep.DeepCutAuto
import Derived.Deep.CutBlock
import Derived.Deep.RegionHeld3
import Derived.Laws.Rows
import Derived.ArgAppend
import Derived.Laws.IdiomCopy
import Derived.OrdersHeld
import Derived.Laws.BitsLemmas
import Derived.Outline
import Derived.WalkSpells
import Derived.Lib.Hide
import Derived.RowKit
import Derived.Deep.DeepMust
import Derived.Test.YtjpobhdgfdeenaaA15
import Derived.Test.YtjpobhdgfdeenaaA9
set_option linter.unusedVariables false
set_option linter.unusedSimpArgs false
namespace Go.Proofs.Ytjpobhdgfdeenaa.A
open Go.RowKit Go.Proofs.YtjpobhdgfdeenaaW.PrintWords Go.Maps

theorem rValid_calls (b : Int) (A : Option Addr) (c : Nat) (l : List (List Int)) (w : World) (hr : Kd.C (Kd.slice 3 (Kd.int .i64)) w A l.length l) :
    Calls Try.prog 19 #[.int .i64 b, .slice A l.length c] w fun e w' => e = .returned (.bool (validB b l)) ∧ Below w.heap.size w w' := by
  have HR := Aside0.mk hr
  clear hr
  unfold validB
  generalize hF : wrongF b l = F
  have HF := Aside0.mk hF
  clear hF
  go_enter Try.func19, Try.ntmps19
  go_wp2_with (go_at_call 18; refine (rWrong_calls _ _ _ _ _ HR.out).mono ?_; rw [HF.out]; rintro e w' ⟨rfl, hb⟩)
  go_ret
  exact ⟨rfl, hb⟩
theorem rvalid_is {b : Int} {l : List (List Int)} {r : Bool} (h : validB b l = r) (A : Option Addr) (c : Nat) (w : World) (hr : Kd.C (Kd.slice 3 (Kd.int .i64)) w A l.length l) :
    Calls Try.prog 19 #[.int .i64 b, .slice A l.length c] w fun e w' => e = .returned (.bool r) ∧ Below w.heap.size w w' := by
  subst h
  exact rValid_calls b A c l w hr
def keysF (b : Int) (l : List (List Int)) : List Int := if validB b l then l.flatten else []
def okE (r : Bool) : Int := if r then 0 else 1
theorem valid_few {b : Int} {l : List (List Int)} (h : validB b l = true) : l.flatten.length ≤ 500 := ((validB_iff b l).1 h).few

theorem Keys_calls (b : Int) (A : Option Addr) (c : Nat) (l : List (List Int)) (w : World) (hr : Kd.C (Kd.slice 3 (Kd.int .i64)) w A l.length l) :
    Calls Try.prog 13 #[.int .i64 b, .slice A l.length c] w fun e w' => ∃ v, e = .returned (.tuple #[v, .int .i64 (okE (validB b l))]) ∧ OI w' w.heap.size v (keysF b l) ∧ Below w.heap.size w w' := by
  have HR := Aside0.mk hr
  clear hr
  unfold keysF
  cases hv : validB b l with
  | false =>
    have HV := Aside0.mk hv
    clear hv
    go_enter Try.func13, Try.ntmps13
    go_wp2_with (go_at_call 15; refine (valid_is HV.out _ _ _ HR.out).mono ?_; rintro e w1 ⟨rfl, hb⟩)
    go_ret2
    exact ⟨_, rfl, Kd.R_nil _ _ _ _ _, hb⟩
  | true =>
    have HV := Aside0.mk hv
    clear hv
    go_enter Try.func13, Try.ntmps13
    go_wp2_with (first | (go_at_call 15; go_must (refine (valid_is HV.out _ _ _ HR.out).mono ?_; rintro e w1 ⟨rfl, hb⟩)) | (go_at_call 46; go_must (refine (listed_calls _ _ _ _ (Kd.C_below HR.out hb) (by have := valid_few HV.out; omega)).mono ?_; rintro e w2 ⟨v0, rfl, ho0, hb0⟩; have HO0 := Aside0.mk ho0; clear ho0)))
    go_ret2
    have hs := hb.size
    exact ⟨_, rfl, Kd.R_lower HO0.out hs, hb.trans (hb0.mono hs)⟩

theorem rKeys_calls (b : Int) (A : Option Addr) (c : Nat) (l : List (List Int)) (w : World) (hr : Kd.C (Kd.slice 3 (Kd.int .i64)) w A l.length l) :
    Calls Try.prog 20 #[.int .i64 b, .slice A l.length c] w fun e w' => ∃ v, e = .returned (.tuple #[v, .int .i64 (okE (validB b l))]) ∧ OI w' w.heap.size v (keysF b l) ∧ Below w.heap.size w w' := by
  have HR := Aside0.mk hr
  clear hr
  unfold keysF
  cases hv : validB b l with
  | false =>
    have HV := Aside0.mk hv
    clear hv
    go_enter Try.func20, Try.ntmps20
    go_wp2_with (go_at_call 19; refine (rvalid_is HV.out _ _ _ HR.out).mono ?_; rintro e w1 ⟨rfl, hb⟩)
    go_ret2
    exact ⟨_, rfl, Kd.R_nil _ _ _ _ _, hb⟩
  | true =>
    have HV := Aside0.mk hv
    clear hv
    go_enter Try.func20, Try.ntmps20
    go_wp2_with (first | (go_at_call 19; go_must (refine (rvalid_is HV.out _ _ _ HR.out).mono ?_; rintro e w1 ⟨rfl, hb⟩)) | (go_at_call 48; go_must (refine (flat_calls _ _ _ _ (Kd.C_below HR.out hb) (by have := valid_few HV.out; omega)).mono ?_; rintro e w2 ⟨v0, rfl, ho0, hb0⟩; have HO0 := Aside0.mk ho0; clear ho0)))
    go_ret2
    have hs := hb.size
    exact ⟨_, rfl, Kd.R_lower HO0.out hs, hb.trans (hb0.mono hs)⟩

theorem Count_calls (b : Int) (A : Option Addr) (c : Nat) (l : List (List Int)) (w : World) (hr : Kd.C (Kd.slice 3 (Kd.int .i64)) w A l.length l) :
    Calls Try.prog 21 #[.int .i64 b, .slice A l.length c] w fun e w' => e = .returned (.tuple #[.int .i64 (keysF b l).length, .int .i64 (okE (validB b l))]) ∧ Below w.heap.size w w' := by
  have HR := Aside0.mk hr
  clear hr
  unfold keysF
  cases hv : validB b l with
  | false =>
    have HV := Aside0.mk hv
    clear hv
    go_enter Try.func21, Try.ntmps21
    go_wp2_with (go_at_call 15; refine (valid_is HV.out _ _ _ HR.out).mono ?_; rintro e w1 ⟨rfl, hb⟩)
    go_ret2
    exact ⟨rfl, hb⟩
  | true =>
    have HV := Aside0.mk hv
    clear hv
    go_enter Try.func21, Try.ntmps21
    go_wp2_with (first | (go_at_call 15; go_must (refine (valid_is HV.out _ _ _ HR.out).mono ?_; rintro e w1 ⟨rfl, hb⟩)) | (go_at_call 46; go_must (refine (listed_calls _ _ _ _ (Kd.C_below HR.out hb) (by have := valid_few HV.out; omega)).mono ?_; rintro e w2 ⟨v0, rfl, ho0, hb0⟩; obtain ⟨A1, c1, e1, _⟩ := OI_reads ho0; subst e1; clear ho0)))
    go_ret2
    have hs := hb.size
    exact ⟨rfl, hb.trans (hb0.mono hs)⟩
end Go.Proofs.Ytjpobhdgfdeenaa.A
