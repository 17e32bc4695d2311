/- Contracts of functions of package array: what they return, in whatever memory the arguments lie. -/
import Derived.Test.YtjpobhdgfdeenaaProg
import Derived.Below
import Derived.Deep.Draws
import Derived.Deep.AppendLies
import Derived.Maps.AppendAt
import Derived.Maps.OwnSet
import Derived.OwnWalk
import Derived.Laws.BytesArg
import Derived.Laws.MakeOwn
import Derived.Laws.OwnMore
import Derived.Deep.OwnRows
import Derived.Tactics
import Derived.Laws.Slices
import Derived.WalkKit
import Derived.KernelRfl
import Derived.RowKit3
import Derived.Deep.LoopGhost
import Derived.Deep.QuietTactic
import Derived.BigQuiet
import Derived.WideLaws
import Derived.Deep.DeepCutAuto
import Derived.Deep.CutBlock
import Derived.Deep.RegionHeld3
import Derived.Laws.Rows
import Derived.ArgAppend
import Derived.Laws.IdiomCopy
import Derived.OrdersHeld
import Derived.Laws.BitsLemmas
import Derived.Outline
import Derived.WalkSpells
import Derived.Lib.Hide
import Derived.RowKit
import Derived.Deep.DeepMust
import Derived.StillTailTactics
import Derived.Deep.DrawnRows
import Derived.Test.YtjpobhdgfdeenaaM11
import Derived.Test.YtjpobhdgfdeenaaM7
set_option linter.unusedVariables false
set_option linter.unusedSimpArgs false
namespace Go.Proofs.Ytjpobhdgfdeenaa.A
open Go.RowKit Go.Proofs.YtjpobhdgfdeenaaW.PrintWords Go.Maps

set_option maxHeartbeats 1000000 in
theorem Equal_calls (A : Option Addr) (c : Nat) (xs : List Int) (A' : Option Addr) (c' : Nat) (ys : List Int) (w : World) (hx : Kd.C (Kd.int .i64) w A xs.length xs) (hy : Kd.C (Kd.int .i64) w A' ys.length ys) :
    Calls Try.prog 55 #[.slice A xs.length c, .slice A' ys.length c'] w fun e w' => e = .returned (.bool (decide (xs = ys))) ∧ ∃ m, w' = w.drewN m := by
  have HX := Aside0.mk hx
  have HY := Aside0.mk hy
  have hmx := (C_len hx).2
  have hmy := (C_len hy).2
  clear hx hy
  by_cases hl : xs.length = ys.length
  · have hl1 : ((xs.length : Int) != (ys.length : Int)) = false := by rw [hl]; exact bne_self_eq_false _
    have HL := Aside0.mk hl
    have HS : Aside0 (decide (xs = ys) = sameFrom (xs.drop 0) (ys.drop 0)) := ⟨(sameFrom_eq xs ys hl).symm⟩
    clear hl
    go_enter Try.func55, Try.ntmps55
    go_wp2
    go_loopg [13] xs.length (fun g v13 wr => ∃ (i : Nat), g = xs.length - i ∧ i ≤ xs.length ∧ v13 = .int .i64 i ∧ Aside0 (decide (xs = ys) = sameFrom (xs.drop i) (ys.drop i)) ∧ Drawn0 w wr)
    case atStart => exact ⟨0, rfl, Nat.zero_le _, rfl, HS, Drawn0.refl _⟩
    case round =>
      obtain ⟨i, hg, hi, rfl, HT, hdr⟩ := hrel
      have hbel := hdr.below
      have HG := Aside0.mk hg
      clear hg HS
      by_cases hlt : i < xs.length
      · have hly : i < ys.length := by have := HL.out; omega
        obtain ⟨ad, x, hA, hdx, hcx⟩ := C_int HX.out i hlt
        obtain ⟨ad', y, hA', hdy, hcy⟩ := C_int HY.out i hly
        subst hA hA'
        replace hcx := pw_cell_below hbel hcx
        replace hcy := pw_cell_below hbel hcy
        have HD := Aside0.mk hdx
        have HD' := Aside0.mk hdy
        clear hdx hdy
        by_cases hxy : x = y
        · have hne : (x != y) = false := by simpa using hxy
          have HE := Aside0.mk hxy
          clear hxy
          go_wp2
          go_quiet (fail)
          go_wp2
          go_roundg (xs.length - (i + 1))
          case measure => have := HG.out; omega
          case rel => exact ⟨i + 1, rfl, by omega, by go_num, ⟨by rw [HT.out, HD.out, HD'.out, sameFrom, if_pos HE.out]⟩, hdr.step _⟩
        · have hne : (x != y) = true := by simpa using hxy
          have HE := Aside0.mk hxy
          clear hxy
          go_wp2
          go_quiet (fail)
          go_wp2
          go_ret
          exact ⟨ret_bool (by rw [HT.out, HD.out, HD'.out, sameFrom, if_neg HE.out]), (hdr.step _).out⟩
      · go_wp2
        go_ret
        exact ⟨ret_bool (by rw [HT.out, List.drop_eq_nil_of_le (by omega), sameFrom]; simp), hdr.out⟩
  · have hl1 : ((xs.length : Int) != (ys.length : Int)) = true := bne_iff_ne.2 (by omega)
    have HL := Aside0.mk hl
    clear hl
    go_enter Try.func55, Try.ntmps55
    go_wp2
    go_ret
    exact ⟨ret_bool (by symm; exact decide_eq_false (fun h => HL.out (by rw [h]))), ⟨0, rfl⟩⟩


theorem equal_is {xs ys : List Int} {r : Bool} (h : decide (xs = ys) = r) (A : Option Addr) (c : Nat) (A' : Option Addr) (c' : Nat) (w : World) (hx : Kd.C (Kd.int .i64) w A xs.length xs) (hy : Kd.C (Kd.int .i64) w A' ys.length ys) :
    Calls Try.prog 55 #[.slice A xs.length c, .slice A' ys.length c'] w fun e w' => e = .returned (.bool r) ∧ ∃ m, w' = w.drewN m := by
  subst h
  exact Equal_calls A c xs A' c' ys w hx hy
theorem clo_calls {row r : List Int} {q : Bool} (h : decide (row = r) = q) (B : Nat) (A0 : Option Addr) (c0 : Nat) (A1 : Option Addr) (c1 : Nat) (w : World) (hb : w.cell? ⟨B, 0, none⟩ = some (.slice A0 row.length c0)) (hx : Kd.C (Kd.int .i64) w A0 row.length row) (hy : Kd.C (Kd.int .i64) w A1 r.length r) :
    Calls Try.prog 54 #[.slice A1 r.length c1, .pointer (some ⟨B, 0, none⟩)] w fun e w' => e = .returned (.bool q) ∧ ∃ m, w' = w.drewN m := by
  have HX := Aside0.mk hx
  have HY := Aside0.mk hy
  have HQ := Aside0.mk h
  clear hx hy h
  go_enter Try.func54, Try.ntmps54
  go_wp2_with (go_at_call 55; go_must (refine (equal_is HQ.out _ _ _ _ _ HX.out HY.out).mono ?_; rintro e w' ⟨rfl, ⟨m, rfl⟩⟩))
  go_ret
  exact ⟨rfl, ⟨_, rfl⟩⟩
/-- The first place of a row among rows; -1 if there is none. -/
def idxR (row : List Int) : Nat → List (List Int) → Int
  | _, [] => -1
  | i, r :: t => if row = r then i else idxR row (i + 1) t
theorem idxR_mem (row : List Int) : ∀ (l : List (List Int)) (i : Nat), (0 ≤ idxR row i l) ↔ row ∈ l
  | [], i => by simp [idxR]
  | y :: ys, i => by
    rw [idxR]
    by_cases e : row = y
    · rw [if_pos e]; simp [e]
    · rw [if_neg e, idxR_mem row ys (i + 1)]
      simp [e]
set_option maxHeartbeats 1000000 in
theorem IndexFunc_calls (A : Option Addr) (c : Nat) (l : List (List Int)) (B : Nat) (A0 : Option Addr) (c0 : Nat) (row : List Int) (w : World) (hr : Kd.C (Kd.slice 3 (Kd.int .i64)) w A l.length l) (hb : w.cell? ⟨B, 0, none⟩ = some (.slice A0 row.length c0)) (hx : Kd.C (Kd.int .i64) w A0 row.length row) :
    Calls Try.prog 67 #[.slice A l.length c, .func (.func 54) #[] #[.pointer (some ⟨B, 0, none⟩)]] w fun e w' => e = .returned (.int .i64 (idxR row 0 l)) ∧ ∃ m, w' = w.drewN m := by
  have HR := Aside0.mk hr
  have HX := Aside0.mk hx
  have HBX := Aside0.mk hb
  have hmx := (C_len hr).2
  clear hx hr hb
  have HS : Aside0 (idxR row 0 l = idxR row 0 (l.drop 0)) := ⟨rfl⟩
  go_enter Try.func67, Try.ntmps67
  go_wp2
  go_loopg [8] l.length (fun g v8 wr => ∃ (i : Nat), g = l.length - i ∧ i ≤ l.length ∧ v8 = .int .i64 i ∧ Aside0 (idxR row 0 l = idxR row i (l.drop i)) ∧ Drawn0 w wr)
  case atStart => exact ⟨0, rfl, Nat.zero_le _, rfl, HS, Drawn0.refl _⟩
  case round =>
    obtain ⟨i, hg, hi, rfl, HT, hdr⟩ := hrel
    have hbel := hdr.below
    have HG := Aside0.mk hg
    clear hg HS
    by_cases hlt : i < l.length
    · obtain ⟨ad, A1, c1, r, hA, hdx, hcx, hrl, hrC⟩ := C_row HR.out i hlt
      subst hA
      replace hcx := pw_cell_below hbel hcx
      have HD := Aside0.mk hdx
      have HRC := Aside0.mk (Kd.C_below hrC hbel)
      have HXB := Aside0.mk (Kd.C_below HX.out hbel)
      have HBB := Aside0.mk (pw_cell_below hbel HBX.out)
      clear hdx hrC
      cases hq : decide (row = r) with
      | true =>
        have HQ := Aside0.mk hq
        clear hq
        go_wp2_with (go_at_call 54; go_must (refine (clo_calls HQ.out _ _ _ _ _ _ HBB.out HXB.out HRC.out).mono ?_; rintro e w' ⟨rfl, ⟨m, rfl⟩⟩))
        go_ret
        exact ⟨ret_i (by rw [HT.out, HD.out, idxR, if_pos (of_decide_eq_true HQ.out)]), (hdr.step _).out⟩
      | false =>
        have HQ := Aside0.mk hq
        clear hq
        go_wp2_with (go_at_call 54; go_must (refine (clo_calls HQ.out _ _ _ _ _ _ HBB.out HXB.out HRC.out).mono ?_; rintro e w' ⟨rfl, ⟨m, rfl⟩⟩))
        go_roundg (l.length - (i + 1))
        case measure => have := HG.out; omega
        case rel => exact ⟨i + 1, rfl, by omega, by go_num, ⟨by rw [HT.out, HD.out, idxR, if_neg (of_decide_eq_false HQ.out)]⟩, hdr.step _⟩
    · go_wp2
      go_ret
      exact ⟨ret_i (by rw [HT.out, List.drop_eq_nil_of_le (by omega), idxR]), hdr.out⟩
theorem ContainsFunc_is {row : List Int} {l : List (List Int)} {q : Bool} (h : decide (row ∈ l) = q) (A : Option Addr) (c : Nat) (B : Nat) (A0 : Option Addr) (c0 : Nat) (w : World) (hr : Kd.C (Kd.slice 3 (Kd.int .i64)) w A l.length l) (hb : w.cell? ⟨B, 0, none⟩ = some (.slice A0 row.length c0)) (hx : Kd.C (Kd.int .i64) w A0 row.length row) :
    Calls Try.prog 53 #[.slice A l.length c, .func (.func 54) #[] #[.pointer (some ⟨B, 0, none⟩)]] w fun e w' => e = .returned (.bool q) ∧ ∃ m, w' = w.drewN m := by
  have HC := Aside0.mk (IndexFunc_calls A c l B A0 c0 row w hr hb hx)
  have hd : decide (0 ≤ idxR row 0 l) = q := by rw [← h]; simp [idxR_mem]
  clear hr hb hx h
  generalize idxR row 0 l = I at HC hd
  go_enter Try.func53, Try.ntmps53
  go_wp2_with (go_at_call 67; go_must (refine HC.out.mono ?_; rintro e w' ⟨rfl, ⟨m, rfl⟩⟩))
  go_ret
  exact ⟨ret_bool (by first | exact hd | simp [hd]), ⟨_, rfl⟩⟩
/-- The places of the rows that are none of others. -/
def chgFrom (x : List (List Int)) : Nat → List (List Int) → List Int
  | _, [] => []
  | i, r :: t => if r ∈ x then chgFrom x (i + 1) t else (i : Int) :: chgFrom x (i + 1) t
def changedF (b : Int) (x y : List (List Int)) : List Int × Int := if validB b x = true ∧ validB b y = true then (chgFrom x 0 y, 0) else ([], 1)
theorem chg_len (x : List (List Int)) : ∀ (y : List (List Int)) (i : Nat), (chgFrom x i y).length ≤ y.length
  | [], _ => by simp [chgFrom]
  | r :: t, i => by
    rw [chgFrom]
    have := chg_len x t (i + 1)
    split
    · simp; omega
    · simp; omega
theorem ret_pairI {v : Value} {F : List Int × Int} {x : List Int} {n : Int} (h : F = (x, n)) : Ending.returned (.tuple #[v, .int .i64 n]) = Ending.returned (.tuple #[v, .int .i64 F.2]) := by rw [h]
theorem OI_alloc {W : World} {base : Nat} {v : Value} {xs : List Int} (h : OI W base v xs) (o : Obj) : OI (W.alloc o) base v xs := OI_below h (below_alloc (Below.refl _ _) o)
set_option maxRecDepth 100000 in
set_option maxHeartbeats 2000000 in
theorem Changed_calls (b : Int) (A : Option Addr) (c : Nat) (x : List (List Int)) (A' : Option Addr) (c' : Nat) (y : List (List Int)) (w : World) (hx : Kd.C (Kd.slice 3 (Kd.int .i64)) w A x.length x) (hy : Kd.C (Kd.slice 3 (Kd.int .i64)) w A' y.length y) :
    Calls Try.prog 30 #[.int .i64 b, .slice A x.length c, .slice A' y.length c'] w fun e w' => ∃ v, e = .returned (.tuple #[v, .int .i64 (changedF b x y).2]) ∧ RI w' v (changedF b x y).1 ∧ Below w.heap.size w w' := by
  have HX := Aside0.mk hx
  have HY := Aside0.mk hy
  have hmy := (C_len hy).2
  clear hx hy
  cases hv : validB b x with
  | false =>
    have HF : Aside0 (changedF b x y = ([], 1)) := ⟨by unfold changedF; rw [if_neg (by rw [hv]; simp)]⟩
    have HV := Aside0.mk hv
    clear hv
    go_enter Try.func30, Try.ntmps30
    go_wp2_with (go_at_call 15; go_must (refine (valid_is HV.out _ _ _ HX.out).mono ?_; rintro e w1 ⟨rfl, hb⟩))
    go_ret2
    exact ⟨_, ret_pairI HF.out, by rw [HF.out]; exact RI_nil _, hb⟩
  | true =>
    cases hv' : validB b y with
    | false =>
      have HF : Aside0 (changedF b x y = ([], 1)) := ⟨by unfold changedF; rw [if_neg (by rw [hv']; simp)]⟩
      have HV := Aside0.mk hv
      have HV' := Aside0.mk hv'
      clear hv hv'
      go_enter Try.func30, Try.ntmps30
      go_wp2_with (first | (go_at_call 15; (with_reducible refine (valid_is HV.out _ _ _ HX.out).mono ?_); go_must (rintro e w1 ⟨rfl, hb⟩)) | (go_at_call 15; (with_reducible refine (valid_is HV'.out _ _ _ (Kd.C_below HY.out hb)).mono ?_); go_must (rintro e w2 ⟨rfl, hb2'⟩; have hb2 := hb.trans (hb2'.mono hb.size))))
      go_ret2
      exact ⟨_, ret_pairI HF.out, by rw [HF.out]; exact RI_nil _, hb2⟩
    | true =>
      obtain ⟨_, _, _, hylen⟩ := valid_arr hv'
      have HF : Aside0 (changedF b x y = (chgFrom x 0 y, 0)) := ⟨by unfold changedF; rw [if_pos ⟨hv, hv'⟩]⟩
      have HV := Aside0.mk hv
      have HV' := Aside0.mk hv'
      clear hv hv'
      go_enter Try.func30, Try.ntmps30
      go_wp2_with (first | (go_at_call 15; (with_reducible refine (valid_is HV.out _ _ _ HX.out).mono ?_); go_must (rintro e w1 ⟨rfl, hb⟩)) | (go_at_call 15; (with_reducible refine (valid_is HV'.out _ _ _ (Kd.C_below HY.out hb)).mono ?_); go_must (rintro e w2 ⟨rfl, hb2'⟩; have hb2 := hb.trans (hb2'.mono hb.size))))
      go_loopg [8, 23] y.length (fun g v8 v23 wr => ∃ (i : Nat) (acc : List Int), g = y.length - i ∧ i ≤ y.length ∧ v23 = .int .i64 i ∧ Aside0 (chgFrom x 0 y = acc ++ chgFrom x i (y.drop i)) ∧ Aside0 (OI wr w.heap.size v8 acc) ∧ Below w.heap.size w wr)
      case atStart => exact ⟨0, [], rfl, Nat.zero_le _, rfl, ⟨rfl⟩, ⟨Kd.R_nil _ _ _ _ _⟩, hb2⟩
      case round =>
        obtain ⟨i, acc, hg, hi, rfl, HT, HO, hbel⟩ := hrel
        have HG := Aside0.mk hg
        clear hg
        by_cases hlt : i < y.length
        · obtain ⟨ad, A1, c1, r, hA, hdx, hcx, hrl, hrC⟩ := C_row HY.out i hlt
          subst hA
          replace hcx := pw_cell_below hbel hcx
          have HD := Aside0.mk hdx
          have hacc : acc.length ≤ 500 := by
            have h1 := chg_len x y 0
            rw [HT.out, List.length_append] at h1
            omega
          have hb1 : Below w.heap.size w (wr.alloc (.cells #[.slice A1 r.length c1] 22)) := below_alloc hbel _
          have hbox : (wr.alloc (.cells #[.slice A1 r.length c1] 22)).cell? ⟨wr.heap.size, 0, none⟩ = some (.slice A1 r.length c1) := (Boxed.new wr 22 _).cell
          have HRC := Aside0.mk (Kd.C_below hrC hb1)
          have HXB := Aside0.mk (Kd.C_below HX.out hb1)
          have HBX := Aside0.mk hbox
          have hs1 := hb1.size
          have hacc2 : acc.length + 1 ≤ 501 := by omega
          clear hdx hrC hbox
          cases hq : decide (r ∈ x) with
          | true =>
            have HQ := Aside0.mk (of_decide_eq_true hq)
            have HCF := Aside0.mk (ContainsFunc_is hq A c wr.heap.size A1 c1 _ HXB.out HBX.out HRC.out)
            clear hq
            go_wp2_with (go_at_call 53; go_must (refine HCF.out.mono ?_; rintro e W2 ⟨rfl, hdr⟩; have hb3 : Below w.heap.size w W2 := (by obtain ⟨m, rfl⟩ := hdr; exact pw_below_drewN hb1 m); have HO3 : Aside0 (OI W2 w.heap.size u8 acc) := ⟨(by obtain ⟨m, rfl⟩ := hdr; exact Kd.R_drewN (OI_alloc HO.out _) m)⟩; clear hdr))
            go_roundg (y.length - (i + 1))
            case measure => have := HG.out; omega
            case rel => exact ⟨i + 1, acc, rfl, by omega, by go_num, ⟨by rw [HT.out, HD.out, chgFrom, if_pos HQ.out]⟩, HO3, hb3⟩
          | false =>
            have HQ := Aside0.mk (of_decide_eq_false hq)
            have HCF := Aside0.mk (ContainsFunc_is hq A c wr.heap.size A1 c1 _ HXB.out HBX.out HRC.out)
            clear hq
            go_wp2_with (first | (go_at_call 53; go_must (refine HCF.out.mono ?_; rintro e W2 ⟨rfl, hdr⟩; have hb3 : Below w.heap.size w W2 := (by obtain ⟨m, rfl⟩ := hdr; exact pw_below_drewN hb1 m); have HO3 : Aside0 (OI W2 w.heap.size u8 acc) := ⟨(by obtain ⟨m, rfl⟩ := hdr; exact Kd.R_drewN (OI_alloc HO.out _) m)⟩; clear hdr)) | ((with_reducible refine at_b (b := .append) (xs := #[.tmp 32, .tmp 34]) rfl ?_); go_must (refine Kd.R_append (Kd.int .i64) (w0 := w) (W := W2) w.heap.size rfl (.tmp 32) (.tmp 34) 22 3 (.int .i64 0) 8 rfl Try.underlying22 infoA3 rfl (by decide) (by omega) u8 acc (i : Int) [.int .i64 (i : Int)] Tr (fun _ => False) rfl rfl rfl (fun _ h => h.elim) (fun _ _ => trivial) HO3.out hb3 hb3.size ?bL ?_; (case bL => omega); intro v5 w5 ho5 hb5 hg5 hat5; have HO5 := Aside0.mk ho5; clear ho5 hg5 hat5)))
            go_roundg (y.length - (i + 1))
            case measure => have := HG.out; omega
            case rel => exact ⟨i + 1, acc ++ [(i : Int)], rfl, by omega, by go_num, ⟨by rw [HT.out, HD.out, chgFrom, if_neg HQ.out, List.append_assoc]; rfl⟩, HO5, hb5⟩
        · go_wp2
          go_ret2
          refine ⟨_, ret_pairI HF.out, ?_, hbel⟩
          rw [HF.out]
          have h := HT.out
          rw [List.drop_eq_nil_of_le (by omega), chgFrom, List.append_nil] at h
          show RI wr _ (chgFrom x 0 y)
          rw [h]
          exact OI_ri HO.out
end Go.Proofs.Ytjpobhdgfdeenaa.A
