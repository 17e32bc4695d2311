/- CompareRows of package item. -/
import Derived.Test.YtibgjfeifpanhaaDoorProg
import Derived.Below
import Derived.Deep.Draws
import Derived.Deep.AppendLies
import Derived.Maps.AppendAt
import Derived.Maps.OwnSet
import Derived.OwnWalk
import Derived.Laws.BytesArg
import Derived.Laws.MakeOwn
import Derived.Laws.OwnMore
import Derived.Deep.OwnRows
import Derived.Tactics
import Derived.Laws.Slices
import Derived.WalkKit
import Derived.KernelRfl
import Derived.RowKit3
import Derived.Deep.LoopGhost
import Derived.Deep.QuietTactic
import Derived.BigQuiet
import Derived.WideLaws
import Derived.Deep.DeepCutAuto
import Derived.Deep.CutBlock
import Derived.Deep.RegionHeld3
import Derived.Laws.Rows
import Derived.ArgAppend
import Derived.Laws.IdiomCopy
import Derived.OrdersHeld
import Derived.Laws.BitsLemmas
import Derived.Outline
import Derived.WalkSpells
import Derived.Lib.Hide
import Derived.RowKit
import Derived.Deep.DeepMust
import Derived.Laws.EntriesVeiled
import Derived.Test.YtibgjfeifpanhaaDoorP3
set_option linter.unusedVariables false
set_option linter.unusedSimpArgs false
namespace Go.Proofs.YtibgjfeifpanhaaDoor.B
open Go.RowKit Go.Proofs.YtibgjfeifpanhaaDoorW.PrintWords Go.Maps PItemValid

theorem Compare_is {x y : S29} {r : Int} (h : cmpV x y = r) (w : World) : Calls Tryd.prog 24 #[vV x, vV y] w fun e w' => e = .returned (.int .i64 r) ∧ Below w.heap.size w w' := by
  subst h
  exact item_Compare.calls 4 x.f0 x.f1 x.f2 y.f0 y.f1 y.f2 _ w (item_Compare_is 0 x y)
theorem cmpR_cons (x y : S29) (r s : List S29) : cmpR (x :: r) (y :: s) = if cmpV x y = 0 then cmpR r s else cmpV x y := rfl
theorem cmpR_nil (l : List S29) : cmpR [] l = if l.length = 0 then 0 else -1 := by cases l <;> rfl
theorem cmpR_more (x : S29) (r : List S29) : cmpR (x :: r) [] = 1 := rfl
set_option maxHeartbeats 2000000 in
theorem CompareFunc_calls (A : Option Addr) (c : Nat) (a : List S29) (A' : Option Addr) (c' : Nat) (b : List S29) (w : World) (hx : Kd.C k29 w A a.length a) (hy : Kd.C k29 w A' b.length b) :
    Calls Tryd.prog 69 #[.slice A a.length c, .slice A' b.length c', .func (.func 24) #[] #[]] w fun e w' => e = .returned (.int .i64 (cmpR a b)) ∧ Below w.heap.size w w' := by
  have HX := Aside0.mk hx
  have HY := Aside0.mk hy
  have hmx := (C_len hx).2
  have hmy := (C_len hy).2
  clear hx hy
  have HS : Aside0 (cmpR a b = cmpR (a.drop 0) (b.drop 0)) := ⟨rfl⟩
  go_enter Tryd.func69, Tryd.ntmps69
  go_wp2
  go_loopg [13] a.length (fun g v13 wr => ∃ (i : Nat), g = a.length - i ∧ i ≤ a.length ∧ i ≤ b.length ∧ v13 = .int .i64 i ∧ Aside0 (cmpR a b = cmpR (a.drop i) (b.drop i)) ∧ Below w.heap.size w wr)
  case atStart => exact ⟨0, rfl, Nat.zero_le _, Nat.zero_le _, rfl, HS, Below.refl _ _⟩
  case round =>
    obtain ⟨i, hg, hi, hib, rfl, HT, hbel⟩ := hrel
    have HG := Aside0.mk hg
    clear hg HS
    by_cases hlt : i < a.length
    · obtain ⟨ad, x, hA, hdx, c0, c1, c2⟩ := C_val HX.out i hlt
      subst hA
      replace c0 := pw_cell_below hbel c0
      replace c1 := pw_cell_below hbel c1
      replace c2 := pw_cell_below hbel c2
      have HD := Aside0.mk hdx
      clear hdx
      by_cases hlb : i < b.length
      · obtain ⟨ad', y, hA', hdy, d0, d1, d2⟩ := C_val HY.out i hlb
        subst hA'
        have hbelA := below_alloc hbel (.cells #[.int .i64 x.f0, .int .i64 x.f1, .string x.f2] 29)
        replace d0 := pw_cell_below hbelA d0
        replace d1 := pw_cell_below hbelA d1
        replace d2 := pw_cell_below hbelA d2
        have HE := Aside0.mk hdy
        clear hdy
        have hb3 := below_alloc hbelA (.cells #[.int .i64 y.f0, .int .i64 y.f1, .string y.f2] 29)
        by_cases e : cmpV x y = 0
        · have HC := fun W => Aside0.mk (Compare_is e W)
          unfold vV at HC
          have HN := Aside0.mk e
          clear e
          go_wp2_with (go_at_call 24; go_must (refine (HC _).out.mono ?_; rintro e w2 ⟨rfl, hd⟩))
          go_roundg (a.length - (i + 1))
          case measure => have := HG.out; omega
          case rel => exact ⟨i + 1, rfl, by omega, by omega, by go_num, ⟨by rw [HT.out, HD.out, HE.out, cmpR_cons, if_pos HN.out]⟩, below_then hb3 hd⟩
        · have HC := fun W => Aside0.mk (Compare_is (rfl : cmpV x y = cmpV x y) W)
          have hne : (cmpV x y != 0) = true := by simpa using e
          unfold vV at HC
          have HN := Aside0.mk e
          have HR : Aside0 (cmpR a b = cmpV x y) := ⟨by rw [HT.out, HD.out, HE.out, cmpR_cons, if_neg e]⟩
          clear e
          generalize cmpV x y = q at HC hne HR
          go_wp2_with (go_at_call 24; go_must (refine (HC _).out.mono ?_; rintro e w2 ⟨rfl, hd⟩))
          go_ret
          exact ⟨ret_i HR.out.symm, below_then hb3 hd⟩
      · go_wp2
        go_ret
        exact ⟨ret_i (by rw [HT.out, HD.out, List.drop_eq_nil_of_le (show b.length ≤ i by omega), cmpR_more]), below_alloc hbel _⟩
    · by_cases hlb : a.length < b.length
      · have hlb2 : (a.length : Int) < (b.length : Int) := by omega
        go_wp2
        go_ret
        exact ⟨ret_i (by rw [HT.out, List.drop_eq_nil_of_le (show a.length ≤ i by omega), cmpR_nil, if_neg (by rw [List.length_drop]; omega)]), hbel⟩
      · have hlb2 : ¬ (a.length : Int) < (b.length : Int) := by omega
        go_wp2
        go_ret
        exact ⟨ret_i (by rw [HT.out, List.drop_eq_nil_of_le (show a.length ≤ i by omega), cmpR_nil, if_pos (by rw [List.length_drop]; omega)]), hbel⟩
theorem CompareRows_calls (A : Option Addr) (c : Nat) (a : List S29) (A' : Option Addr) (c' : Nat) (b : List S29) (w : World) (hx : Kd.C k29 w A a.length a) (hy : Kd.C k29 w A' b.length b) :
    Calls Tryd.prog 26 #[.slice A a.length c, .slice A' b.length c'] w fun e w' => e = .returned (.int .i64 (cmpR a b)) ∧ Below w.heap.size w w' := by
  have HC := Aside0.mk (CompareFunc_calls A c a A' c' b w hx hy)
  clear hx hy
  go_enter Tryd.func26, Tryd.ntmps26
  go_wp2_with (go_at_call 69; go_must (refine HC.out.mono ?_; rintro e w2 ⟨rfl, hd⟩))
  go_ret
  exact ⟨rfl, hd⟩
theorem refCompare_is {x y : S29} {r : Int} (h : cmpV x y = r) (hx : x.f2.size ≤ 200) (hy : y.f2.size ≤ 200) (w : World) : Calls Tryd.prog 25 #[vV x, vV y] w fun e w' => e = .returned (.int .i64 r) ∧ Below w.heap.size w w' := by
  subst h
  exact ringworkref01_Compare.calls 402 x.f0 x.f1 x.f2 y.f0 y.f1 y.f2 _ w (ref_Compare_is 402 x y hx hy (by omega))
theorem rows_is {a b : List S29} {r : Int} (h : cmpR a b = r) (A : Option Addr) (c : Nat) (A' : Option Addr) (c' : Nat) (w : World) (hx : Kd.C k29 w A a.length a) (hy : Kd.C k29 w A' b.length b) :
    Calls Tryd.prog 26 #[.slice A a.length c, .slice A' b.length c'] w fun e w' => e = .returned (.int .i64 r) ∧ Below w.heap.size w w' := by
  subst h
  exact CompareRows_calls A c a A' c' b w hx hy
theorem refRows_is {a b : List S29} {r : Int} (h : cmpR a b = r) (ha : okLen a) (hb : okLen b) (A : Option Addr) (c : Nat) (A' : Option Addr) (c' : Nat) (w : World) (hx : Kd.C k29 w A a.length a) (hc : a.length ≤ c) (hy : Kd.C k29 w A' b.length b) (hc' : b.length ≤ c') :
    Calls Tryd.prog 27 #[.slice A a.length c, .slice A' b.length c'] w fun e w' => e = .returned (.int .i64 r) ∧ Below w.heap.size w w' := by
  subst h
  exact ringworkref01_CompareRows.calls 600 A c a A' c' b _ w hx hc hy hc' (ref_CompareRows_is a b ha hb)
theorem same_is {a b : List S29} {r : Bool} (h : decide (cmpR a b = 0) = r) (ha : a.length ≤ 20) (A : Option Addr) (c : Nat) (A' : Option Addr) (c' : Nat) (w : World) (hx : Kd.C k29 w A a.length a) (hc : a.length ≤ c) (hy : Kd.C k29 w A' b.length b) (hc' : b.length ≤ c') :
    Calls Tryd.prog 28 #[.slice A a.length c, .slice A' b.length c'] w fun e w' => e = .returned (.bool r) ∧ Drawn0 w w' := by
  subst h
  exact item_Same.calls 30 A c a A' c' b _ w hx hc hy hc' (Same_is a b ha)
theorem refSame_is {a b : List S29} {r : Bool} (h : decide (cmpR a b = 0) = r) (ha : okLen a) (hb : okLen b) (A : Option Addr) (c : Nat) (A' : Option Addr) (c' : Nat) (w : World) (hx : Kd.C k29 w A a.length a) (hc : a.length ≤ c) (hy : Kd.C k29 w A' b.length b) (hc' : b.length ≤ c') :
    Calls Tryd.prog 29 #[.slice A a.length c, .slice A' b.length c'] w fun e w' => e = .returned (.bool r) ∧ Below w.heap.size w w' := by
  subst h
  exact ringworkref01_Same.calls 600 A c a A' c' b _ w hx hc hy hc' (ref_Same_is a b ha hb)
end Go.Proofs.YtibgjfeifpanhaaDoor.B
