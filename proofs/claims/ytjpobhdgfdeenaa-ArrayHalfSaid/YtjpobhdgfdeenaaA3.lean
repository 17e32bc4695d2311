/- Contracts of small functions over slices of whole numbers: they read and change nothing. -/
import Derived.Test.YtjpobhdgfdeenaaProg
import Derived.Below
import Derived.Deep.Draws
import Derived.Deep.AppendLies
import Derived.Maps.AppendAt
import Derived.Maps.OwnSet
import Derived.OwnWalk
import Derived.Laws.BytesArg
import Derived.Laws.MakeOwn
import Derived.Laws.OwnMore
import Derived.Deep.OwnRows
import Derived.Tactics
import Derived.Laws.Slices
import Derived.WalkKit
import Derived.KernelRfl
import Derived.RowKit3
import Derived.Deep.LoopGhost
import Derived.Deep.QuietTactic
import Derived.BigQuiet
import Derived.WideLaws
import Derived.Deep.DeepCutAuto
import Derived.Deep.CutBlock
import Derived.Deep.RegionHeld3
import Derived.Laws.Rows
import Derived.ArgAppend
import Derived.Laws.IdiomCopy
import Derived.OrdersHeld
import Derived.Laws.BitsLemmas
import Derived.Outline
import Derived.WalkSpells
import Derived.Lib.Hide
import Derived.RowKit
import Derived.Test.YtjpobhdgfdeenaaA2
namespace Go.Proofs.Ytjpobhdgfdeenaa.A
open Go.RowKit Go.Proofs.YtjpobhdgfdeenaaW.PrintWords Go.Maps

theorem size_calls (n : Int) (w : World) : Calls Try.prog 42 #[.int .i64 n] w fun e w' => e = .returned (.bool (roomB n)) ∧ w = w' := by
  by_cases h1 : 2 ≤ n <;> by_cases h2 : n ≤ 50
  all_goals
    go_enter Try.func42, Try.ntmps42
    go_wp2
    go_ret
    exact ⟨by simp [roomB, h1, h2], rfl⟩
theorem Key_calls (n : Int) (w : World) : Calls Try.prog 43 #[.int .i64 n] w fun e w' => e = .returned (.bool (keyB n)) ∧ w = w' := by
  by_cases h1 : 1 ≤ n <;> by_cases h2 : n ≤ 1000000
  all_goals
    go_enter Try.func43, Try.ntmps43
    go_wp2
    go_ret
    exact ⟨by simp [keyB, h1, h2], rfl⟩
theorem ret_bool {a b : Bool} (h : a = b) : Ending.returned (.bool a) = .returned (.bool b) := by rw [h]
theorem ret_i {a b : Int} (h : a = b) : Ending.returned (.int .i64 a) = .returned (.int .i64 b) := by rw [h]

/-- Whether two rows of numbers are one: from a place on. -/
def sameFrom : List Int → List Int → Bool
  | x :: xs, y :: ys => if x = y then sameFrom xs ys else false
  | _, _ => true
theorem sameFrom_eq : ∀ (xs ys : List Int), xs.length = ys.length → sameFrom xs ys = decide (xs = ys)
  | [], [], _ => rfl
  | x :: xs, y :: ys, h => by
    rw [sameFrom, sameFrom_eq xs ys (by simpa using h)]
    by_cases e : x = y <;> simp [e]

set_option maxHeartbeats 1000000 in
theorem SameInts_calls (A : Option Addr) (c : Nat) (xs : List Int) (A' : Option Addr) (c' : Nat) (ys : List Int) (w : World) (hx : Kd.C (Kd.int .i64) w A xs.length xs) (hy : Kd.C (Kd.int .i64) w A' ys.length ys) :
    Calls Try.prog 14 #[.slice A xs.length c, .slice A' ys.length c'] w fun e w' => e = .returned (.bool (decide (xs = ys))) ∧ ∃ m, w' = w.drewN m := by
  have HX := Aside0.mk hx
  have HY := Aside0.mk hy
  have hmx := (C_len hx).2
  have hmy := (C_len hy).2
  clear hx hy
  by_cases hl : xs.length = ys.length
  · have hl1 : ((xs.length : Int) != (ys.length : Int)) = false := by rw [hl]; exact bne_self_eq_false _
    have HL := Aside0.mk hl
    have HS : Aside0 (decide (xs = ys) = sameFrom (xs.drop 0) (ys.drop 0)) := ⟨(sameFrom_eq xs ys hl).symm⟩
    clear hl
    go_enter Try.func14, Try.ntmps14
    go_wp2
    go_loopg [5] xs.length (fun g v5 wr => ∃ (i : Nat), g = xs.length - i ∧ i ≤ xs.length ∧ v5 = .int .i64 i ∧ Aside0 (decide (xs = ys) = sameFrom (xs.drop i) (ys.drop i)) ∧ Drawn0 w wr)
    case atStart => exact ⟨0, rfl, Nat.zero_le _, rfl, HS, Drawn0.refl _⟩
    case round =>
      obtain ⟨i, hg, hi, rfl, HT, hdr⟩ := hrel
      have hbel := hdr.below
      have HG := Aside0.mk hg
      clear hg HS
      by_cases hlt : i < xs.length
      · have hly : i < ys.length := by have := HL.out; omega
        obtain ⟨ad, x, hA, hdx, hcx⟩ := C_int HX.out i hlt
        obtain ⟨ad', y, hA', hdy, hcy⟩ := C_int HY.out i hly
        subst hA hA'
        replace hcx := pw_cell_below hbel hcx
        replace hcy := pw_cell_below hbel hcy
        have HD := Aside0.mk hdx
        have HD' := Aside0.mk hdy
        clear hdx hdy
        by_cases hxy : x = y
        · have hne : (x != y) = false := by simpa using hxy
          have HE := Aside0.mk hxy
          clear hxy
          go_wp2
          go_quiet (fail)
          go_wp2
          go_roundg (xs.length - (i + 1))
          case measure => have := HG.out; omega
          case rel => exact ⟨i + 1, rfl, by omega, by go_num, ⟨by rw [HT.out, HD.out, HD'.out, sameFrom, if_pos HE.out]⟩, hdr.step _⟩
        · have hne : (x != y) = true := by simpa using hxy
          have HE := Aside0.mk hxy
          clear hxy
          go_wp2
          go_quiet (fail)
          go_wp2
          go_ret
          exact ⟨ret_bool (by rw [HT.out, HD.out, HD'.out, sameFrom, if_neg HE.out]), (hdr.step _).out⟩
      · go_wp2
        go_ret
        exact ⟨ret_bool (by rw [HT.out, List.drop_eq_nil_of_le (by omega), sameFrom]; simp), hdr.out⟩
  · have hl1 : ((xs.length : Int) != (ys.length : Int)) = true := bne_iff_ne.2 (by omega)
    have HL := Aside0.mk hl
    clear hl
    go_enter Try.func14, Try.ntmps14
    go_wp2
    go_ret
    exact ⟨ret_bool (by symm; exact decide_eq_false (fun h => HL.out (by rw [h]))), ⟨0, rfl⟩⟩

/-- Whether two lists of rows are one, from a place on. -/
def sameRows : List (List Int) → List (List Int) → Bool
  | x :: xs, y :: ys => if x = y then sameRows xs ys else false
  | _, _ => true
theorem sameRows_eq : ∀ (xs ys : List (List Int)), xs.length = ys.length → sameRows xs ys = decide (xs = ys)
  | [], [], _ => rfl
  | x :: xs, y :: ys, h => by
    rw [sameRows, sameRows_eq xs ys (by simpa using h)]
    by_cases e : x = y <;> simp [e]

set_option maxHeartbeats 1000000 in
theorem SameBlocks_calls (A : Option Addr) (c : Nat) (xs : List (List Int)) (A' : Option Addr) (c' : Nat) (ys : List (List Int)) (w : World) (hx : Kd.C (Kd.slice 3 (Kd.int .i64)) w A xs.length xs) (hy : Kd.C (Kd.slice 3 (Kd.int .i64)) w A' ys.length ys) :
    Calls Try.prog 12 #[.slice A xs.length c, .slice A' ys.length c'] w fun e w' => e = .returned (.bool (decide (xs = ys))) ∧ ∃ m, w' = w.drewN m := by
  have HX := Aside0.mk hx
  have HY := Aside0.mk hy
  have hmx := (C_len hx).2
  have hmy := (C_len hy).2
  clear hx hy
  by_cases hl : xs.length = ys.length
  · have hl1 : ((xs.length : Int) != (ys.length : Int)) = false := by rw [hl]; exact bne_self_eq_false _
    have HL := Aside0.mk hl
    have HS : Aside0 (decide (xs = ys) = sameRows (xs.drop 0) (ys.drop 0)) := ⟨(sameRows_eq xs ys hl).symm⟩
    clear hl
    go_enter Try.func12, Try.ntmps12
    go_wp2
    go_loopg [5] xs.length (fun g v5 wr => ∃ (i : Nat), g = xs.length - i ∧ i ≤ xs.length ∧ v5 = .int .i64 i ∧ Aside0 (decide (xs = ys) = sameRows (xs.drop i) (ys.drop i)) ∧ Drawn0 w wr)
    case atStart => exact ⟨0, rfl, Nat.zero_le _, rfl, HS, Drawn0.refl _⟩
    case round =>
      obtain ⟨i, hg, hi, rfl, HT, hdr⟩ := hrel
      have hbel := hdr.below
      have HG := Aside0.mk hg
      clear hg HS
      by_cases hlt : i < xs.length
      · have hly : i < ys.length := by have := HL.out; omega
        obtain ⟨ad, B, cB, x, hA, hdx, hcx, hlx, hrx⟩ := C_row HX.out i hlt
        obtain ⟨ad', B', cB', y, hA', hdy, hcy, hlx', hry⟩ := C_row HY.out i hly
        subst hA hA'
        replace hcx := pw_cell_below hbel hcx
        replace hcy := pw_cell_below hbel hcy
        have HRX := Aside0.mk (Kd.C_below hrx hbel)
        have HRY := Aside0.mk (Kd.C_below hry hbel)
        have HD := Aside0.mk hdx
        have HD' := Aside0.mk hdy
        clear hdx hdy hrx hry
        by_cases hxy : x = y
        · have HE := Aside0.mk hxy
          have hd : decide (x = y) = true := decide_eq_true hxy
          clear hxy
          go_wp2
          go_quiet ((go_at_call 14; exact Calls.quiet_of (SameInts_calls _ _ _ _ _ _ _ (Kd.C_below HRX.out (pw_below_drewN (Below.refl _ _) _)) (Kd.C_below HRY.out (pw_below_drewN (Below.refl _ _) _)))))
          go_wp2
          go_roundg (xs.length - (i + 1))
          case measure => have := HG.out; omega
          case rel => exact ⟨i + 1, rfl, by omega, by go_num, ⟨by rw [HT.out, HD.out, HD'.out, sameRows, if_pos HE.out]⟩, hdr.step _⟩
        · have HE := Aside0.mk hxy
          have hd : decide (x = y) = false := decide_eq_false hxy
          clear hxy
          go_wp2
          go_quiet ((go_at_call 14; exact Calls.quiet_of (SameInts_calls _ _ _ _ _ _ _ (Kd.C_below HRX.out (pw_below_drewN (Below.refl _ _) _)) (Kd.C_below HRY.out (pw_below_drewN (Below.refl _ _) _)))))
          go_wp2
          go_ret
          exact ⟨ret_bool (by rw [HT.out, HD.out, HD'.out, sameRows, if_neg HE.out]), (hdr.step _).out⟩
      · go_wp2
        go_ret
        exact ⟨ret_bool (by rw [HT.out, List.drop_eq_nil_of_le (by omega), sameRows]; simp), hdr.out⟩
  · have hl1 : ((xs.length : Int) != (ys.length : Int)) = true := bne_iff_ne.2 (by omega)
    have HL := Aside0.mk hl
    clear hl
    go_enter Try.func12, Try.ntmps12
    go_wp2
    go_ret
    exact ⟨ret_bool (by symm; exact decide_eq_false (fun h => HL.out (by rw [h]))), ⟨0, rfl⟩⟩

end Go.Proofs.Ytjpobhdgfdeenaa.A
