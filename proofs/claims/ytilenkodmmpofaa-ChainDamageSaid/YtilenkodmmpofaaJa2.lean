/- Texts of the proof, joined, what is not named cut out: I0, I1, K1, R1, K2, Q1. -/
import Derived.Below
import Derived.Deep.Draws
import Derived.Deep.AppendLies
import Derived.Maps.AppendAt
import Derived.OwnWalk
import Derived.Laws.BytesArg
import Derived.Laws.MakeOwn
import Derived.Laws.OwnMore
import Derived.Deep.OwnRows
import Derived.Tactics
import Derived.Lib.ConvBytes
import Derived.Laws.Slices
import Derived.WalkKit
import Derived.KernelRfl
import Derived.RowKit3
import Derived.Deep.LoopGhost
import Derived.Deep.QuietTactic
import Derived.BigQuiet
import Derived.WideLaws
import Derived.Deep.DeepCutAuto
import Derived.Deep.CutBlock
import Derived.Deep.RegionHeld3
import Derived.Laws.Rows
import Derived.Lib.AppendStr
import Derived.ArgAppend
import Derived.Laws.IdiomCopy
import Derived.OrdersHeld
import Derived.Laws.BitsLemmas
import Derived.RowKit
import Derived.Maps.OwnSet
import Derived.Outline
import Derived.WalkSpells
import Derived.Lib.Hide
import Derived.Deep.DeepMust
import Derived.Laws.EntriesVeiled
import Derived.Deep.Matrix
import Derived.ChangeSame
import Derived.Test.YtilenkodmmpofaaProg
import Derived.Test.YtilenkodmmpofaaJa1

namespace Go.Proofs.Ytilenkodmmpofaa.PC
open Go.RowKit Go.Proofs.YtilenkodmmpofaaW.PrintWords Go.Proofs.YtilenkodmmpofaaW.PrintLast Go.Proofs.YtilenkodmmpofaaW.PrintMore
attribute [local go_sem] max2_int min2_int max_two min_two max_three min_three max_four min_four   -- for this text's walks alone
set_option linter.unusedVariables false
set_option linter.unusedSimpArgs false



def errW : Option Int → Value
  | none => .nilIface
  | some c => .iface 0 (.int .i64 c)
theorem errW_none : errW none = .nilIface := rfl
theorem errW_some (c : Int) : errW (some c) = .iface 0 (.int .i64 c) := rfl

theorem info3 : (Try.prog.info? 3).map (fun i => (i.zero, i.size, i.bytes)) = some (some (.int .i64 0), 1, 8) := by kernel_rfl
-- the values' own types
def rd_L1 (xs : List (List Int)) (i : Int) : (List Int) := xs.getD i.toNat ([] : List Int)
theorem at_L1 {w : World} {A : Option Addr} {n : Nat} {xs : List (List Int)} (h : Kd.C (Kd.slice 3 (Kd.int .i64)) w A n xs) (i : Int) (h0 : 0 ≤ i) (h1 : i < n) : ∃ ad A0 c0, A = some ad ∧ w.cell? (ad.add i.toNat) = some (.slice A0 (rd_L1 xs i).length c0) ∧ (rd_L1 xs i).length ≤ c0 ∧ (Kd.int .i64).C w A0 (rd_L1 xs i).length (rd_L1 xs i) := by
  obtain ⟨ad, c, e, _, hK, hc0⟩ := Kd.C_get h ([] : List Int) i h0 h1
  have hc : ∀ j u, c[j]? = some u → w.cell? (ad.add (i.toNat * 1 + j)) = some u := hc0
  obtain ⟨A0, c0, rfl, l0, g0⟩ := hK
  exact ⟨ad, A0, c0, e, by have hq := hc 0 _ rfl; rwa [Nat.mul_one, Nat.add_zero] at hq, l0, g0⟩

/-! #### struct type 31 -/
structure S31 where
  f0 : Int
  f1 : Int
  f2 : Int
  f3 : Int
def z31 : S31 := ⟨(0 : Int), (0 : Int), (0 : Int), (0 : Int)⟩
def k31 : Kd S31 := Kd.iso (Kd.pair (Kd.int .i64) (Kd.pair (Kd.int .i64) (Kd.pair (Kd.int .i64) (Kd.int .i64)))) (fun x : S31 => (x.f0, x.f1, x.f2, x.f3))
theorem k31_open {w : World} {x : S31} {cs : List Value} (h : k31.K w x cs) : cs = [.int .i64 x.f0, .int .i64 x.f1, .int .i64 x.f2, .int .i64 x.f3] := by
  obtain ⟨_, _, rfl, rfl, ⟨_, _, rfl, rfl, ⟨_, _, rfl, rfl, rfl⟩⟩⟩ := h
  exact rfl
theorem k31_mk (w : World) (x : S31)  : k31.K w x [.int .i64 x.f0, .int .i64 x.f1, .int .i64 x.f2, .int .i64 x.f3] := ⟨[.int .i64 x.f0], [.int .i64 x.f1, .int .i64 x.f2, .int .i64 x.f3], rfl, rfl, ⟨[.int .i64 x.f1], [.int .i64 x.f2, .int .i64 x.f3], rfl, rfl, ⟨[.int .i64 x.f2], [.int .i64 x.f3], rfl, rfl, rfl⟩⟩⟩
theorem k31_mkM (w : World) (base : Nat) (ok : Nat → Prop) (x : S31)  : k31.M w base ok x [.int .i64 x.f0, .int .i64 x.f1, .int .i64 x.f2, .int .i64 x.f3] := ⟨[.int .i64 x.f0], [.int .i64 x.f1, .int .i64 x.f2, .int .i64 x.f3], rfl, rfl, ⟨[.int .i64 x.f1], [.int .i64 x.f2, .int .i64 x.f3], rfl, rfl, ⟨[.int .i64 x.f2], [.int .i64 x.f3], rfl, rfl, rfl⟩⟩⟩
def rd_T31 (xs : List S31) (i : Int) : S31 := xs.getD i.toNat z31
theorem at_T31 {w : World} {A : Option Addr} {n : Nat} {xs : List S31} (h : Kd.C k31 w A n xs) (i : Int) (h0 : 0 ≤ i) (h1 : i < n) : ∃ ad , A = some ad ∧ w.cell? (ad.add (i.toNat * 4)) = some (.int .i64 (rd_T31 xs i).f0) ∧ w.cell? ⟨(ad.add (i.toNat * 4)).block, (ad.add (i.toNat * 4)).off + 1, none⟩ = some (.int .i64 (rd_T31 xs i).f1) ∧ w.cell? ⟨(ad.add (i.toNat * 4)).block, (ad.add (i.toNat * 4)).off + 2, none⟩ = some (.int .i64 (rd_T31 xs i).f2) ∧ w.cell? ⟨(ad.add (i.toNat * 4)).block, (ad.add (i.toNat * 4)).off + 3, none⟩ = some (.int .i64 (rd_T31 xs i).f3) := by
  obtain ⟨ad, c, e, _, hK, hc0⟩ := Kd.C_get h z31 i h0 h1
  have hc : ∀ j u, c[j]? = some u → w.cell? (ad.add (i.toNat * 4 + j)) = some u := hc0
  obtain rfl := k31_open hK
  exact ⟨ad, e, hc 0 _ rfl, by rw [← add_field _ _ 1 (by omega)]; exact hc 1 _ rfl, by rw [← add_field _ _ 2 (by omega)]; exact hc 2 _ rfl, by rw [← add_field _ _ 3 (by omega)]; exact hc 3 _ rfl⟩

theorem eqA31 (d : Nat) (w : World) (x0 y0 : Int) (x1 y1 : Int) (x2 y2 : Int) (x3 y3 : Int) :
    (Op.equalIn (d + 2) 31 (.agg #[.int .i64 x0, .int .i64 x1, .int .i64 x2, .int .i64 x3]) (.agg #[.int .i64 y0, .int .i64 y1, .int .i64 y2, .int .i64 y3])).run Try.prog w = .ok (x0 == y0 && (x1 == y1 && (x2 == y2 && (x3 == y3)))) w := by
  refine eqA_of Try.underlying31 (by kernel_rfl) ?_
  refine eqf_cons (by rfl) (by go_simp; rfl) (by go_simp; rfl) (by go_simp) ?_
  refine eqf_cons (by rfl) (by go_simp; rfl) (by go_simp; rfl) (by go_simp) ?_
  refine eqf_cons (by rfl) (by go_simp; rfl) (by go_simp; rfl) (by go_simp) ?_
  exact eqf_last (by rfl) (by go_simp; rfl) (by go_simp; rfl) (by go_simp)
end Go.Proofs.Ytilenkodmmpofaa.PC

namespace Go.Proofs.Ytilenkodmmpofaa.PC
open Go.RowKit Go.Proofs.YtilenkodmmpofaaW.PrintWords Go.Proofs.YtilenkodmmpofaaW.PrintLast Go.Proofs.YtilenkodmmpofaaW.PrintMore
attribute [local go_sem] max2_int min2_int max_two min_two max_three min_three max_four min_four
set_option linter.unusedVariables false
set_option linter.unusedSimpArgs false
attribute [local go_sem high] eqA31
/-! ### ringworklaw09_light: function 9 -/
def ringworklaw09_light.l0 : Nat → List (List Int) → Int → Option (Bool)
  | 0, _, _ => none
  | k + 1, x0, x3 => if x3 < (x0.length : Int) then (if 0 ≤ x3 then (if ((rd_L1 x0 x3).length : Int) > 120 then (some false) else (ringworklaw09_light.l0 k x0 (wrap64 (x3 + 1)))) else (none)) else (some true)
def ringworklaw09_light.f (k : Nat) (l0 : List (List Int)) : Option (Bool) := ringworklaw09_light.l0 k l0 0
theorem ringworklaw09_light.mono_l : ∀ k, (∀ y0 y1, LeO (ringworklaw09_light.l0 k y0 y1) (ringworklaw09_light.l0 (k + 1) y0 y1))
  | 0 => fun _ _ r h => by simp [ringworklaw09_light.l0] at h
  | k + 1 => by
    have ih0 := ringworklaw09_light.mono_l k
    · intro y0 y1
      unfold ringworklaw09_light.l0
      repeat' first
      | (with_reducible exact ih0 _ _)
      | (with_reducible exact LeO.refl _)
      | (with_reducible exact LeO.none _)
      | (with_reducible refine LeO.ite ?_ ?_)
      | (with_reducible refine LeO.bind ?_ (fun _ => ?_))
      | exact ih0 _ _
      | exact LeO.none _
      | refine LeO.ite ?_ ?_
      | refine LeO.bind ?_ (fun _ => ?_)
theorem ringworklaw09_light.mono : ∀ a0 k, LeO (ringworklaw09_light.f k a0) (ringworklaw09_light.f (k + 1) a0) := by
  intro a0 k
  have ih0 := ringworklaw09_light.mono_l k
  unfold ringworklaw09_light.f
  repeat' first
      | (with_reducible exact ih0 _ _)
      | (with_reducible exact LeO.refl _)
      | (with_reducible exact LeO.none _)
      | (with_reducible refine LeO.ite ?_ ?_)
      | (with_reducible refine LeO.bind ?_ (fun _ => ?_))
      | exact ih0 _ _
      | exact LeO.none _
      | refine LeO.ite ?_ ?_
      | refine LeO.bind ?_ (fun _ => ?_)
set_option maxHeartbeats 8000000 in
set_option maxRecDepth 100000 in
theorem ringworklaw09_light.calls (k : Nat) (A0 : Option Addr) (c0 : Nat) (l0 : List (List Int)) (r : Bool) (w : World) (hr0 : Kd.C (Kd.slice 3 (Kd.int .i64)) w A0 l0.length l0) (hc0 : l0.length ≤ c0) (h : ringworklaw09_light.f k l0 = some r) :
    Calls Try.prog 9 #[.slice A0 l0.length c0] w fun e w' => e = .returned (.bool r) ∧ Drawn0 w w' := by
  have HR0 := Aside0.mk hr0
  have HC0 := Aside0.mk hc0
  clear hr0 hc0
  have H : (ringworklaw09_light.l0 k l0 0) = some r := h
  clear h
  have H' := Aside0.mk H
  clear H
  go_enter Try.func9, Try.ntmps9
  go_wp2
  go_loopg [3] k (fun kq v3 w' => ∃ (x3_1 : Int), v3 = .int .i64 x3_1 ∧ Aside0 (ringworklaw09_light.l0 kq l0 x3_1 = some r) ∧ Aside0 (kq ≤ k) ∧ Drawn0 w w')
  case atStart => exact ⟨(0), (by first | rfl | (simp; done) | (simp [*]; done)), H', ⟨Nat.le_refl _⟩, by repeat (first | exact Drawn0.refl _ | apply Drawn0.step)⟩
  case round =>
    clear H'
    obtain ⟨x3_1, rfl, HA, HK1, ⟨m1, rfl⟩⟩ := hrel
    cases gk with
    | zero => exact absurd HA.out (by simp [ringworklaw09_light.l0])
    | succ k1 =>
      have H := HA.out
      clear HA
      simp only [ringworklaw09_light.l0] at H
      by_cases c2 : x3_1 < (l0.length : Int)
      · rw [if_pos c2] at H
        have c2b0 : decide (x3_1 < (l0.length : Int)) = true := decide_eq_true c2
        clear c2
        by_cases c3 : 0 ≤ x3_1
        · rw [if_pos c3] at H
          have c3b0 : decide (0 ≤ x3_1) = true := decide_eq_true c3
          clear c3
          by_cases c4 : ((rd_L1 l0 x3_1).length : Int) > 120
          · rw [if_pos c4] at H
            have c4b0 : decide (120 < ((rd_L1 l0 x3_1).length : Int)) = true := decide_eq_true c4
            have c4b1 : decide (120 < (rd_L1 l0 x3_1).length) = true := decide_eq_true (by omega)
            clear c4
            obtain rfl := Option.some.inj H
            have p101 : 0 ≤ (x3_1 : Int) := of_decide_eq_true (by first | (with_reducible assumption) | assumption)
            have q101 : x3_1 < (l0.length : Int) := of_decide_eq_true (by first | (with_reducible assumption) | assumption)
            obtain ⟨ad101, A101_0, c101_0, e101, hx101_0, hl101_0, hi101_0⟩ := at_L1 HR0.out x3_1 p101 q101
            cases e101
            have HR101_0 := Aside0.mk hi101_0
            have HC101_0 := Aside0.mk hl101_0
            clear hi101_0 hl101_0
            replace p101 := eq_true p101
            replace q101 := eq_true q101
            go_wp2
            go_ret
            exact ⟨by first | rfl | (simp; done) | (simp [*]; done), by repeat (first | exact Drawn0.refl _ | apply Drawn0.step)⟩
          · rw [if_neg c4] at H
            have c4b0 : decide (120 < ((rd_L1 l0 x3_1).length : Int)) = false := decide_eq_false c4
            have c4b1 : decide (120 < (rd_L1 l0 x3_1).length) = false := decide_eq_false (by omega)
            clear c4
            have H' := Aside0.mk H
            clear H
            have p101 : 0 ≤ (x3_1 : Int) := of_decide_eq_true (by first | (with_reducible assumption) | assumption)
            have q101 : x3_1 < (l0.length : Int) := of_decide_eq_true (by first | (with_reducible assumption) | assumption)
            obtain ⟨ad101, A101_0, c101_0, e101, hx101_0, hl101_0, hi101_0⟩ := at_L1 HR0.out x3_1 p101 q101
            cases e101
            have HR101_0 := Aside0.mk hi101_0
            have HC101_0 := Aside0.mk hl101_0
            clear hi101_0 hl101_0
            replace p101 := eq_true p101
            replace q101 := eq_true q101
            go_wp2
            go_roundg k1
            case measure => have := HK1.out; omega
            case rel => exact ⟨(wrap64 (x3_1 + 1)), (by first | rfl | (simp; done) | (simp [*]; done)), H', ⟨by have := HK1.out; omega⟩, by repeat (first | exact Drawn0.refl _ | apply Drawn0.step)⟩
        · rw [if_neg c3] at H
          exact absurd H (by simp)
      · rw [if_neg c2] at H
        have c2b0 : decide (x3_1 < (l0.length : Int)) = false := decide_eq_false c2
        clear c2
        obtain rfl := Option.some.inj H
        go_wp2
        go_ret
        exact ⟨by first | rfl | (simp; done) | (simp [*]; done), by repeat (first | exact Drawn0.refl _ | apply Drawn0.step)⟩


/-! ### chain_key: function 48 -/
def chain_key.f (a0 : Int) : Option (Bool) := if a0 ≥ 1 then (some (decide (a0 ≤ 1000000))) else (some false)
set_option maxHeartbeats 8000000 in
set_option maxRecDepth 100000 in
theorem chain_key.calls (a0 : Int) (r : Bool) (w : World) (h : chain_key.f a0 = some r) :
    Calls Try.prog 48 #[.int .i64 a0] w fun e w' => e = .returned (.bool r) ∧ Drawn0 w w' := by
  have H : (if a0 ≥ 1 then (some (decide (a0 ≤ 1000000))) else (some false)) = some r := h
  clear h
  by_cases c2 : a0 ≥ 1
  · rw [if_pos c2] at H
    have c2b0 : decide (1 ≤ a0) = true := decide_eq_true c2
    clear c2
    obtain rfl := Option.some.inj H
    go_enter Try.func48, Try.ntmps48
    go_wp2
    go_ret
    exact ⟨by first | rfl | (simp; done) | (simp [*]; done), by repeat (first | exact Drawn0.refl _ | apply Drawn0.step)⟩
  · rw [if_neg c2] at H
    have c2b0 : decide (1 ≤ a0) = false := decide_eq_false c2
    clear c2
    obtain rfl := Option.some.inj H
    go_enter Try.func48, Try.ntmps48
    go_wp2
    go_ret
    exact ⟨by first | rfl | (simp; done) | (simp [*]; done), by repeat (first | exact Drawn0.refl _ | apply Drawn0.step)⟩




/-! ### ringworkref09_Key: function 51 -/
def ringworkref09_Key.f (a0 : Int) : Option (Bool) := if a0 ≥ 1 then (some (decide (a0 ≤ 1000000))) else (some false)
set_option maxHeartbeats 8000000 in
set_option maxRecDepth 100000 in
theorem ringworkref09_Key.calls (a0 : Int) (r : Bool) (w : World) (h : ringworkref09_Key.f a0 = some r) :
    Calls Try.prog 51 #[.int .i64 a0] w fun e w' => e = .returned (.bool r) ∧ Drawn0 w w' := by
  have H : (if a0 ≥ 1 then (some (decide (a0 ≤ 1000000))) else (some false)) = some r := h
  clear h
  by_cases c2 : a0 ≥ 1
  · rw [if_pos c2] at H
    have c2b0 : decide (1 ≤ a0) = true := decide_eq_true c2
    clear c2
    obtain rfl := Option.some.inj H
    go_enter Try.func51, Try.ntmps51
    go_wp2
    go_ret
    exact ⟨by first | rfl | (simp; done) | (simp [*]; done), by repeat (first | exact Drawn0.refl _ | apply Drawn0.step)⟩
  · rw [if_neg c2] at H
    have c2b0 : decide (1 ≤ a0) = false := decide_eq_false c2
    clear c2
    obtain rfl := Option.some.inj H
    go_enter Try.func51, Try.ntmps51
    go_wp2
    go_ret
    exact ⟨by first | rfl | (simp; done) | (simp [*]; done), by repeat (first | exact Drawn0.refl _ | apply Drawn0.step)⟩


/-! ### ringworkref09_Index: function 64 -/
def ringworkref09_Index.l0 : Nat → List Int → Int → Int → Option (Int)
  | 0, _, _, _ => none
  | k + 1, x0, x1, x5 => if x5 < (x0.length : Int) then (if 0 ≤ x5 then (if (rd x0 x5) = x1 then (some x5) else (ringworkref09_Index.l0 k x0 x1 (wrap64 (x5 + 1)))) else (none)) else (some (-1))
def ringworkref09_Index.f (k : Nat) (l0 : List Int) (a1 : Int) : Option (Int) := ringworkref09_Index.l0 k l0 a1 0
theorem ringworkref09_Index.mono_l : ∀ k, (∀ y0 y1 y2, LeO (ringworkref09_Index.l0 k y0 y1 y2) (ringworkref09_Index.l0 (k + 1) y0 y1 y2))
  | 0 => fun _ _ _ r h => by simp [ringworkref09_Index.l0] at h
  | k + 1 => by
    have ih0 := ringworkref09_Index.mono_l k
    · intro y0 y1 y2
      unfold ringworkref09_Index.l0
      repeat' first
      | (with_reducible exact ih0 _ _ _)
      | (with_reducible exact LeO.refl _)
      | (with_reducible exact LeO.none _)
      | (with_reducible refine LeO.ite ?_ ?_)
      | (with_reducible refine LeO.bind ?_ (fun _ => ?_))
      | exact ih0 _ _ _
      | exact LeO.none _
      | refine LeO.ite ?_ ?_
      | refine LeO.bind ?_ (fun _ => ?_)
theorem ringworkref09_Index.mono : ∀ a0 a1 k, LeO (ringworkref09_Index.f k a0 a1) (ringworkref09_Index.f (k + 1) a0 a1) := by
  intro a0 a1 k
  have ih0 := ringworkref09_Index.mono_l k
  unfold ringworkref09_Index.f
  repeat' first
      | (with_reducible exact ih0 _ _ _)
      | (with_reducible exact LeO.refl _)
      | (with_reducible exact LeO.none _)
      | (with_reducible refine LeO.ite ?_ ?_)
      | (with_reducible refine LeO.bind ?_ (fun _ => ?_))
      | exact ih0 _ _ _
      | exact LeO.none _
      | refine LeO.ite ?_ ?_
      | refine LeO.bind ?_ (fun _ => ?_)
set_option maxHeartbeats 8000000 in
set_option maxRecDepth 100000 in
theorem ringworkref09_Index.calls (k : Nat) (A0 : Option Addr) (c0 : Nat) (l0 : List Int) (a1 : Int) (r : Int) (w : World) (hr0 : Kd.C (Kd.int .i64) w A0 l0.length l0) (hc0 : l0.length ≤ c0) (h : ringworkref09_Index.f k l0 a1 = some r) :
    Calls Try.prog 64 #[.slice A0 l0.length c0, .int .i64 a1] w fun e w' => e = .returned (.int .i64 r) ∧ Drawn0 w w' := by
  have HR0 := Aside0.mk hr0
  have HC0 := Aside0.mk hc0
  clear hr0 hc0
  have H : (ringworkref09_Index.l0 k l0 a1 0) = some r := h
  clear h
  have H' := Aside0.mk H
  clear H
  go_enter Try.func64, Try.ntmps64
  go_wp2
  go_loopg [5] k (fun kq v5 w' => ∃ (x5_1 : Int), v5 = .int .i64 x5_1 ∧ Aside0 (ringworkref09_Index.l0 kq l0 a1 x5_1 = some r) ∧ Aside0 (kq ≤ k) ∧ Drawn0 w w')
  case atStart => exact ⟨(0), (by first | rfl | (simp; done) | (simp [*]; done)), H', ⟨Nat.le_refl _⟩, by repeat (first | exact Drawn0.refl _ | apply Drawn0.step)⟩
  case round =>
    clear H'
    try clear p2
    obtain ⟨x5_1, rfl, HA, HK1, ⟨m1, rfl⟩⟩ := hrel
    cases gk with
    | zero => exact absurd HA.out (by simp [ringworkref09_Index.l0])
    | succ k1 =>
      have H := HA.out
      clear HA
      simp only [ringworkref09_Index.l0] at H
      by_cases c3 : x5_1 < (l0.length : Int)
      · rw [if_pos c3] at H
        have c3b0 : decide (x5_1 < (l0.length : Int)) = true := decide_eq_true c3
        clear c3
        by_cases c4 : 0 ≤ x5_1
        · rw [if_pos c4] at H
          have c4b0 : decide (0 ≤ x5_1) = true := decide_eq_true c4
          clear c4
          by_cases c5 : (rd l0 x5_1) = a1
          · rw [if_pos c5] at H
            have c5b0 : ((rd l0 x5_1) == a1) = true := beq_iff_eq.mpr c5
            have c5b1 : ((rd l0 x5_1) != a1) = false := bne_eq_false_iff_eq.mpr c5
            clear c5
            obtain rfl := Option.some.inj H
            have p231 : 0 ≤ (x5_1 : Int) := of_decide_eq_true (by first | (with_reducible assumption) | assumption)
            have q231 : x5_1 < (l0.length : Int) := of_decide_eq_true (by first | (with_reducible assumption) | assumption)
            obtain ⟨ad231, e231, hx231_0⟩ := Kd.at_int HR0.out x5_1 p231 q231
            cases e231
            replace p231 := eq_true p231
            replace q231 := eq_true q231
            go_wp2
            go_ret
            exact ⟨by first | rfl | (simp; done) | (simp [*]; done), by repeat (first | exact Drawn0.refl _ | apply Drawn0.step)⟩
          · rw [if_neg c5] at H
            have c5b0 : ((rd l0 x5_1) == a1) = false := beq_eq_false_iff_ne.mpr c5
            have c5b1 : ((rd l0 x5_1) != a1) = true := bne_iff_ne.mpr c5
            have H' := Aside0.mk H
            clear H
            have p231 : 0 ≤ (x5_1 : Int) := of_decide_eq_true (by first | (with_reducible assumption) | assumption)
            have q231 : x5_1 < (l0.length : Int) := of_decide_eq_true (by first | (with_reducible assumption) | assumption)
            obtain ⟨ad231, e231, hx231_0⟩ := Kd.at_int HR0.out x5_1 p231 q231
            cases e231
            replace p231 := eq_true p231
            replace q231 := eq_true q231
            go_wp2
            go_roundg k1
            case measure => have := HK1.out; omega
            case rel => exact ⟨(wrap64 (x5_1 + 1)), (by first | rfl | (simp; done) | (simp [*]; done)), H', ⟨by have := HK1.out; omega⟩, by repeat (first | exact Drawn0.refl _ | apply Drawn0.step)⟩
        · rw [if_neg c4] at H
          exact absurd H (by simp)
      · rw [if_neg c3] at H
        have c3b0 : decide (x5_1 < (l0.length : Int)) = false := decide_eq_false c3
        clear c3
        obtain rfl := Option.some.inj H
        go_wp2
        go_ret
        exact ⟨by first | rfl | (simp; done) | (simp [*]; done), by repeat (first | exact Drawn0.refl _ | apply Drawn0.step)⟩


/-! ### ringworkref09_right: function 46 -/
def ringworkref09_right.l0 : Nat → List Int → Int → Option (Bool)
  | 0, _, _ => none
  | k + 1, x0, x3 => if x3 < (x0.length : Int) then (if 0 ≤ x3 then ((ringworkref09_Key.f (rd x0 x3)).bind fun t233 => (if t233 = true then ((ringworkref09_Index.f k x0 (rd x0 x3)).bind fun t235 => (if t235 < x3 then (some false) else (ringworkref09_right.l0 k x0 (wrap64 (x3 + 1))))) else (some false))) else (none)) else (some true)
def ringworkref09_right.f (k : Nat) (l0 : List Int) : Option (Bool) := ringworkref09_right.l0 k l0 0
theorem ringworkref09_right.mono_l : ∀ k, (∀ y0 y1, LeO (ringworkref09_right.l0 k y0 y1) (ringworkref09_right.l0 (k + 1) y0 y1))
  | 0 => fun _ _ r h => by simp [ringworkref09_right.l0] at h
  | k + 1 => by
    have ih0 := ringworkref09_right.mono_l k
    · intro y0 y1
      unfold ringworkref09_right.l0
      repeat' first
      | (with_reducible exact ih0 _ _)
      | (with_reducible exact ringworkref09_Index.mono _ _ _)
      | (with_reducible exact LeO.refl _)
      | (with_reducible exact LeO.none _)
      | (with_reducible refine LeO.ite ?_ ?_)
      | (with_reducible refine LeO.bind ?_ (fun _ => ?_))
      | exact ih0 _ _
      | exact ringworkref09_Index.mono _ _ _
      | exact LeO.none _
      | refine LeO.ite ?_ ?_
      | refine LeO.bind ?_ (fun _ => ?_)
theorem ringworkref09_right.mono : ∀ a0 k, LeO (ringworkref09_right.f k a0) (ringworkref09_right.f (k + 1) a0) := by
  intro a0 k
  have ih0 := ringworkref09_right.mono_l k
  unfold ringworkref09_right.f
  repeat' first
      | (with_reducible exact ih0 _ _)
      | (with_reducible exact ringworkref09_Index.mono _ _ _)
      | (with_reducible exact LeO.refl _)
      | (with_reducible exact LeO.none _)
      | (with_reducible refine LeO.ite ?_ ?_)
      | (with_reducible refine LeO.bind ?_ (fun _ => ?_))
      | exact ih0 _ _
      | exact ringworkref09_Index.mono _ _ _
      | exact LeO.none _
      | refine LeO.ite ?_ ?_
      | refine LeO.bind ?_ (fun _ => ?_)
set_option maxHeartbeats 8000000 in
set_option maxRecDepth 100000 in
theorem ringworkref09_right.calls (k : Nat) (A0 : Option Addr) (c0 : Nat) (l0 : List Int) (r : Bool) (w : World) (hr0 : Kd.C (Kd.int .i64) w A0 l0.length l0) (hc0 : l0.length ≤ c0) (h : ringworkref09_right.f k l0 = some r) :
    Calls Try.prog 46 #[.slice A0 l0.length c0] w fun e w' => e = .returned (.bool r) ∧ Drawn0 w w' := by
  have HR0 := Aside0.mk hr0
  have HC0 := Aside0.mk hc0
  clear hr0 hc0
  have H : (ringworkref09_right.l0 k l0 0) = some r := h
  clear h
  have H' := Aside0.mk H
  clear H
  go_enter Try.func46, Try.ntmps46
  go_wp2
  go_loopg [3] k (fun kq v3 w' => ∃ (x3_1 : Int), v3 = .int .i64 x3_1 ∧ Aside0 (ringworkref09_right.l0 kq l0 x3_1 = some r) ∧ Aside0 (kq ≤ k) ∧ Drawn0 w w')
  case atStart => exact ⟨(0), (by first | rfl | (simp; done) | (simp [*]; done)), H', ⟨Nat.le_refl _⟩, by repeat (first | exact Drawn0.refl _ | apply Drawn0.step)⟩
  case round =>
    clear H'
    obtain ⟨x3_1, rfl, HA, HK1, ⟨m1, rfl⟩⟩ := hrel
    cases gk with
    | zero => exact absurd HA.out (by simp [ringworkref09_right.l0])
    | succ k1 =>
      have H := HA.out
      clear HA
      simp only [ringworkref09_right.l0] at H
      by_cases c2 : x3_1 < (l0.length : Int)
      · rw [if_pos c2] at H
        have c2b0 : decide (x3_1 < (l0.length : Int)) = true := decide_eq_true c2
        clear c2
        by_cases c3 : 0 ≤ x3_1
        · rw [if_pos c3] at H
          have c3b0 : decide (0 ≤ x3_1) = true := decide_eq_true c3
          clear c3
          replace H := Option.bind_eq_some_iff.mp H
          obtain ⟨t233, A40, H⟩ := H
          replace H : (if t233 = true then ((ringworkref09_Index.f k1 l0 (rd l0 x3_1)).bind fun t235 => (if t235 < x3_1 then (some false) else (ringworkref09_right.l0 k1 l0 (wrap64 (x3_1 + 1))))) else (some false)) = some r := H
          have A4 := Aside0.mk A40
          clear A40
          by_cases c5 : t233 = true
          · subst c5
            have H1 : ((ringworkref09_Index.f k1 l0 (rd l0 x3_1)).bind fun t235 => (if t235 < x3_1 then (some false) else (ringworkref09_right.l0 k1 l0 (wrap64 (x3_1 + 1))))) = some r := by rw [if_pos rfl] at H; exact H
            clear H
            have H := H1
            clear H1
            replace H := Option.bind_eq_some_iff.mp H
            obtain ⟨t235, A60, H⟩ := H
            replace H : (if t235 < x3_1 then (some false) else (ringworkref09_right.l0 k1 l0 (wrap64 (x3_1 + 1)))) = some r := H
            have A6 := Aside0.mk A60
            clear A60
            by_cases c7 : t235 < x3_1
            · rw [if_pos c7] at H
              have c7b0 : decide (t235 < x3_1) = true := decide_eq_true c7
              clear c7
              obtain rfl := Option.some.inj H
              have p232 : 0 ≤ (x3_1 : Int) := of_decide_eq_true (by first | (with_reducible assumption) | assumption)
              have q232 : x3_1 < (l0.length : Int) := of_decide_eq_true (by first | (with_reducible assumption) | assumption)
              obtain ⟨ad232, e232, hx232_0⟩ := Kd.at_int HR0.out x3_1 p232 q232
              cases e232
              replace p232 := eq_true p232
              replace q232 := eq_true q232
              go_wp2_with (first | ((with_reducible refine gate_callee (f := 51) rfl ?_); refine goesL_ (some 14) rfl rfl Try.func51 (by kernel_rfl) rfl #[.int .i64 (rd l0 x3_1)] rfl (by (try simp only [List.map_toArray, List.map_cons, List.map_nil]); first | done | rfl | (simp only [List.length_drop, List.length_take]; rfl)) ?_; (with_reducible refine (ringworkref09_Key.calls (rd l0 x3_1) true _ A4.out).mono ?_); rintro e w' ⟨rfl, ⟨nd, rfl⟩⟩; refine ⟨_, rfl, ?_⟩; have p234 : 0 ≤ (x3_1 : Int) := of_decide_eq_true (by first | (with_reducible assumption) | assumption); have q234 : x3_1 < (l0.length : Int) := of_decide_eq_true (by first | (with_reducible assumption) | assumption); obtain ⟨ad234, e234, hx234_0⟩ := Kd.at_int HR0.out x3_1 p234 q234; obtain rfl : ad232 = ad234 := (by injection e234); replace p234 := eq_true p234; replace q234 := eq_true q234) | (go_at_call 64; (with_reducible refine (ringworkref09_Index.calls k1 _ _ l0 (rd l0 x3_1) t235 _ ?side1 ?side2 A6.out).mono ?_); (case side1 => repeat (first | exact HR0.out | (with_reducible refine Kd.C_alloc ?_ _) | (with_reducible refine Kd.C_drewN ?_ _) | (with_reducible refine Kd.C_drew ?_))); (case side2 => exact HC0.out); rintro e w' ⟨rfl, ⟨nd, rfl⟩⟩))
              go_ret
              exact ⟨by first | rfl | (simp; done) | (simp [*]; done), by repeat (first | exact Drawn0.refl _ | apply Drawn0.step)⟩
            · rw [if_neg c7] at H
              have c7b0 : decide (t235 < x3_1) = false := decide_eq_false c7
              clear c7
              have H' := Aside0.mk H
              clear H
              have p232 : 0 ≤ (x3_1 : Int) := of_decide_eq_true (by first | (with_reducible assumption) | assumption)
              have q232 : x3_1 < (l0.length : Int) := of_decide_eq_true (by first | (with_reducible assumption) | assumption)
              obtain ⟨ad232, e232, hx232_0⟩ := Kd.at_int HR0.out x3_1 p232 q232
              cases e232
              replace p232 := eq_true p232
              replace q232 := eq_true q232
              go_wp2_with (first | ((with_reducible refine gate_callee (f := 51) rfl ?_); refine goesL_ (some 14) rfl rfl Try.func51 (by kernel_rfl) rfl #[.int .i64 (rd l0 x3_1)] rfl (by (try simp only [List.map_toArray, List.map_cons, List.map_nil]); first | done | rfl | (simp only [List.length_drop, List.length_take]; rfl)) ?_; (with_reducible refine (ringworkref09_Key.calls (rd l0 x3_1) true _ A4.out).mono ?_); rintro e w' ⟨rfl, ⟨nd, rfl⟩⟩; refine ⟨_, rfl, ?_⟩; have p234 : 0 ≤ (x3_1 : Int) := of_decide_eq_true (by first | (with_reducible assumption) | assumption); have q234 : x3_1 < (l0.length : Int) := of_decide_eq_true (by first | (with_reducible assumption) | assumption); obtain ⟨ad234, e234, hx234_0⟩ := Kd.at_int HR0.out x3_1 p234 q234; obtain rfl : ad232 = ad234 := (by injection e234); replace p234 := eq_true p234; replace q234 := eq_true q234) | (go_at_call 64; (with_reducible refine (ringworkref09_Index.calls k1 _ _ l0 (rd l0 x3_1) t235 _ ?side1 ?side2 A6.out).mono ?_); (case side1 => repeat (first | exact HR0.out | (with_reducible refine Kd.C_alloc ?_ _) | (with_reducible refine Kd.C_drewN ?_ _) | (with_reducible refine Kd.C_drew ?_))); (case side2 => exact HC0.out); rintro e w' ⟨rfl, ⟨nd, rfl⟩⟩))
              go_roundg k1
              case measure => have := HK1.out; omega
              case rel => exact ⟨(wrap64 (x3_1 + 1)), (by first | rfl | (simp; done) | (simp [*]; done)), H', ⟨by have := HK1.out; omega⟩, by repeat (first | exact Drawn0.refl _ | apply Drawn0.step)⟩
          · replace c5 := Bool.eq_false_iff.mpr c5
            subst c5
            have H1 : (some false) = some r := by rw [if_neg (show ¬ (false = true) by decide)] at H; exact H
            clear H
            have H := H1
            clear H1
            obtain rfl := Option.some.inj H
            have p232 : 0 ≤ (x3_1 : Int) := of_decide_eq_true (by first | (with_reducible assumption) | assumption)
            have q232 : x3_1 < (l0.length : Int) := of_decide_eq_true (by first | (with_reducible assumption) | assumption)
            obtain ⟨ad232, e232, hx232_0⟩ := Kd.at_int HR0.out x3_1 p232 q232
            cases e232
            replace p232 := eq_true p232
            replace q232 := eq_true q232
            go_wp2_with (first | ((with_reducible refine gate_callee (f := 51) rfl ?_); refine goesL_ (some 14) rfl rfl Try.func51 (by kernel_rfl) rfl #[.int .i64 (rd l0 x3_1)] rfl (by (try simp only [List.map_toArray, List.map_cons, List.map_nil]); first | done | rfl | (simp only [List.length_drop, List.length_take]; rfl)) ?_; (with_reducible refine (ringworkref09_Key.calls (rd l0 x3_1) false _ A4.out).mono ?_); rintro e w' ⟨rfl, ⟨nd, rfl⟩⟩; refine ⟨_, rfl, ?_⟩))
            go_ret
            exact ⟨by first | rfl | (simp; done) | (simp [*]; done), by repeat (first | exact Drawn0.refl _ | apply Drawn0.step)⟩
        · rw [if_neg c3] at H
          exact absurd H (by simp)
      · rw [if_neg c2] at H
        have c2b0 : decide (x3_1 < (l0.length : Int)) = false := decide_eq_false c2
        clear c2
        obtain rfl := Option.some.inj H
        go_wp2
        go_ret
        exact ⟨by first | rfl | (simp; done) | (simp [*]; done), by repeat (first | exact Drawn0.refl _ | apply Drawn0.step)⟩





/-! ### ringworkref09_SameLinks: function 16 -/
def ringworkref09_SameLinks.l0 : Nat → List (S31) → List (S31) → Int → Option (Bool)
  | 0, _, _, _ => none
  | k + 1, x0, x1, x5 => if x5 < (x0.length : Int) then (if 0 ≤ x5 then (if x5 < (x1.length : Int) then (if (!(((rd_T31 x0 x5).f0) == ((rd_T31 x1 x5).f0)) || (!(((rd_T31 x0 x5).f1) == ((rd_T31 x1 x5).f1)) || (!(((rd_T31 x0 x5).f2) == ((rd_T31 x1 x5).f2)) || (!(((rd_T31 x0 x5).f3) == ((rd_T31 x1 x5).f3)))))) = true then (some false) else (ringworkref09_SameLinks.l0 k x0 x1 (wrap64 (x5 + 1)))) else (none)) else (none)) else (some true)
def ringworkref09_SameLinks.f (k : Nat) (l0 : List (S31)) (l1 : List (S31)) : Option (Bool) := if (l0.length : Int) = (l1.length : Int) then (ringworkref09_SameLinks.l0 k l0 l1 0) else (some false)
theorem ringworkref09_SameLinks.mono_l : ∀ k, (∀ y0 y1 y2, LeO (ringworkref09_SameLinks.l0 k y0 y1 y2) (ringworkref09_SameLinks.l0 (k + 1) y0 y1 y2))
  | 0 => fun _ _ _ r h => by simp [ringworkref09_SameLinks.l0] at h
  | k + 1 => by
    have ih0 := ringworkref09_SameLinks.mono_l k
    · intro y0 y1 y2
      unfold ringworkref09_SameLinks.l0
      repeat' first
      | (with_reducible exact ih0 _ _ _)
      | (with_reducible exact LeO.refl _)
      | (with_reducible exact LeO.none _)
      | (with_reducible refine LeO.ite ?_ ?_)
      | (with_reducible refine LeO.bind ?_ (fun _ => ?_))
      | exact ih0 _ _ _
      | exact LeO.none _
      | refine LeO.ite ?_ ?_
      | refine LeO.bind ?_ (fun _ => ?_)
theorem ringworkref09_SameLinks.mono : ∀ a0 a1 k, LeO (ringworkref09_SameLinks.f k a0 a1) (ringworkref09_SameLinks.f (k + 1) a0 a1) := by
  intro a0 a1 k
  have ih0 := ringworkref09_SameLinks.mono_l k
  unfold ringworkref09_SameLinks.f
  repeat' first
      | (with_reducible exact ih0 _ _ _)
      | (with_reducible exact LeO.refl _)
      | (with_reducible exact LeO.none _)
      | (with_reducible refine LeO.ite ?_ ?_)
      | (with_reducible refine LeO.bind ?_ (fun _ => ?_))
      | exact ih0 _ _ _
      | exact LeO.none _
      | refine LeO.ite ?_ ?_
      | refine LeO.bind ?_ (fun _ => ?_)
/-! ### ringworklaw09_same: function 21 -/
def ringworklaw09_same.l0 : Nat → List Int → List Int → Int → Option (Bool)
  | 0, _, _, _ => none
  | k + 1, x0, x1, x5 => if x5 < (x0.length : Int) then (if 0 ≤ x5 then (if x5 < (x1.length : Int) then (if (rd x0 x5) = (rd x1 x5) then (ringworklaw09_same.l0 k x0 x1 (wrap64 (x5 + 1))) else (some false)) else (none)) else (none)) else (some true)
def ringworklaw09_same.f (k : Nat) (l0 : List Int) (l1 : List Int) : Option (Bool) := if (l0.length : Int) = (l1.length : Int) then (ringworklaw09_same.l0 k l0 l1 0) else (some false)
theorem ringworklaw09_same.mono_l : ∀ k, (∀ y0 y1 y2, LeO (ringworklaw09_same.l0 k y0 y1 y2) (ringworklaw09_same.l0 (k + 1) y0 y1 y2))
  | 0 => fun _ _ _ r h => by simp [ringworklaw09_same.l0] at h
  | k + 1 => by
    have ih0 := ringworklaw09_same.mono_l k
    · intro y0 y1 y2
      unfold ringworklaw09_same.l0
      repeat' first
      | (with_reducible exact ih0 _ _ _)
      | (with_reducible exact LeO.refl _)
      | (with_reducible exact LeO.none _)
      | (with_reducible refine LeO.ite ?_ ?_)
      | (with_reducible refine LeO.bind ?_ (fun _ => ?_))
      | exact ih0 _ _ _
      | exact LeO.none _
      | refine LeO.ite ?_ ?_
      | refine LeO.bind ?_ (fun _ => ?_)
theorem ringworklaw09_same.mono : ∀ a0 a1 k, LeO (ringworklaw09_same.f k a0 a1) (ringworklaw09_same.f (k + 1) a0 a1) := by
  intro a0 a1 k
  have ih0 := ringworklaw09_same.mono_l k
  unfold ringworklaw09_same.f
  repeat' first
      | (with_reducible exact ih0 _ _ _)
      | (with_reducible exact LeO.refl _)
      | (with_reducible exact LeO.none _)
      | (with_reducible refine LeO.ite ?_ ?_)
      | (with_reducible refine LeO.bind ?_ (fun _ => ?_))
      | exact ih0 _ _ _
      | exact LeO.none _
      | refine LeO.ite ?_ ?_
      | refine LeO.bind ?_ (fun _ => ?_)
/-! ### slices_Index_bool_bool: function 50 -/
def slices_Index_bool_bool.l0 : Nat → List Bool → Bool → Int → Int → Option (Int)
  | 0, _, _, _, _ => none
  | k + 1, x0, x1, x7, x8 => if x8 < x7 then (if 0 ≤ x8 then (if x8 < (x0.length : Int) then (if (x1 == (rdOf false x0 x8)) = true then (some x8) else (slices_Index_bool_bool.l0 k x0 x1 x7 (wrap64 (x8 + 1)))) else (none)) else (none)) else (some (-1))
def slices_Index_bool_bool.f (k : Nat) (l0 : List Bool) (a1 : Bool) : Option (Int) := slices_Index_bool_bool.l0 k l0 a1 (l0.length : Int) 0
theorem slices_Index_bool_bool.mono_l : ∀ k, (∀ y0 y1 y2 y3, LeO (slices_Index_bool_bool.l0 k y0 y1 y2 y3) (slices_Index_bool_bool.l0 (k + 1) y0 y1 y2 y3))
  | 0 => fun _ _ _ _ r h => by simp [slices_Index_bool_bool.l0] at h
  | k + 1 => by
    have ih0 := slices_Index_bool_bool.mono_l k
    · intro y0 y1 y2 y3
      unfold slices_Index_bool_bool.l0
      repeat' first
      | (with_reducible exact ih0 _ _ _ _)
      | (with_reducible exact LeO.refl _)
      | (with_reducible exact LeO.none _)
      | (with_reducible refine LeO.ite ?_ ?_)
      | (with_reducible refine LeO.bind ?_ (fun _ => ?_))
      | exact ih0 _ _ _ _
      | exact LeO.none _
      | refine LeO.ite ?_ ?_
      | refine LeO.bind ?_ (fun _ => ?_)
theorem slices_Index_bool_bool.mono : ∀ a0 a1 k, LeO (slices_Index_bool_bool.f k a0 a1) (slices_Index_bool_bool.f (k + 1) a0 a1) := by
  intro a0 a1 k
  have ih0 := slices_Index_bool_bool.mono_l k
  unfold slices_Index_bool_bool.f
  repeat' first
      | (with_reducible exact ih0 _ _ _ _)
      | (with_reducible exact LeO.refl _)
      | (with_reducible exact LeO.none _)
      | (with_reducible refine LeO.ite ?_ ?_)
      | (with_reducible refine LeO.bind ?_ (fun _ => ?_))
      | exact ih0 _ _ _ _
      | exact LeO.none _
      | refine LeO.ite ?_ ?_
      | refine LeO.bind ?_ (fun _ => ?_)
set_option maxHeartbeats 8000000 in
set_option maxRecDepth 100000 in
theorem slices_Index_bool_bool.calls (k : Nat) (A0 : Option Addr) (c0 : Nat) (l0 : List Bool) (a1 : Bool) (r : Int) (w : World) (hr0 : Kd.C Kd.bool w A0 l0.length l0) (hc0 : l0.length ≤ c0) (h : slices_Index_bool_bool.f k l0 a1 = some r) :
    Calls Try.prog 50 #[.slice A0 l0.length c0, .bool a1] w fun e w' => e = .returned (.int .i64 r) ∧ Drawn0 w w' := by
  have HR0 := Aside0.mk hr0
  have HC0 := Aside0.mk hc0
  clear hr0 hc0
  have H : (slices_Index_bool_bool.l0 k l0 a1 (l0.length : Int) 0) = some r := h
  clear h
  have H' := Aside0.mk H
  clear H
  go_enter Try.func50, Try.ntmps50
  go_wp2
  go_loopg [8] k (fun kq v8 w' => ∃ (x8_1 : Int), v8 = .int .i64 x8_1 ∧ Aside0 (slices_Index_bool_bool.l0 kq l0 a1 (l0.length : Int) x8_1 = some r) ∧ Aside0 (kq ≤ k) ∧ Drawn0 w w')
  case atStart => exact ⟨(0), (by first | rfl | (simp; done) | (simp [*]; done)), H', ⟨Nat.le_refl _⟩, by repeat (first | exact Drawn0.refl _ | apply Drawn0.step)⟩
  case round =>
    clear H'
    try clear p2
    obtain ⟨x8_1, rfl, HA, HK1, ⟨m1, rfl⟩⟩ := hrel
    cases gk with
    | zero => exact absurd HA.out (by simp [slices_Index_bool_bool.l0])
    | succ k1 =>
      have H := HA.out
      clear HA
      simp only [slices_Index_bool_bool.l0] at H
      by_cases c3 : x8_1 < (l0.length : Int)
      · rw [if_pos c3] at H
        have c3b0 : decide (x8_1 < (l0.length : Int)) = true := decide_eq_true c3
        clear c3
        by_cases c4 : 0 ≤ x8_1
        · rw [if_pos c4] at H
          have c4b0 : decide (0 ≤ x8_1) = true := decide_eq_true c4
          clear c4
          by_cases c5 : x8_1 < (l0.length : Int)
          · rw [if_pos c5] at H
            have c5b0 : decide (x8_1 < (l0.length : Int)) = true := decide_eq_true c5
            clear c5
            by_cases c6 : (a1 == (rdOf false l0 x8_1)) = true
            · rw [if_pos c6] at H
              have c6b0 : (a1 == (rdOf false l0 x8_1)) = true := c6
              (try (have c6b1 : decide (a1 = (rdOf false l0 x8_1)) = true := by simpa using c6))
              (try (have c6b2 : (a1 == (rdOf false l0 x8_1)) = true := by simpa using c6))
              clear c6
              obtain rfl := Option.some.inj H
              have p303 : 0 ≤ (x8_1 : Int) := of_decide_eq_true (by first | (with_reducible assumption) | assumption)
              have q303 : x8_1 < (l0.length : Int) := of_decide_eq_true (by first | (with_reducible assumption) | assumption)
              obtain ⟨ad303, e303, hx303_0⟩ := Kd.at_bool HR0.out x8_1 p303 q303
              cases e303
              replace p303 := eq_true p303
              replace q303 := eq_true q303
              go_wp2
              go_ret
              exact ⟨by first | rfl | (simp; done) | (simp [*]; done), by repeat (first | exact Drawn0.refl _ | apply Drawn0.step)⟩
            · rw [if_neg c6] at H
              have c6b0 : (a1 == (rdOf false l0 x8_1)) = false := by simpa using c6
              (try (have c6b1 : decide (a1 = (rdOf false l0 x8_1)) = false := by simpa using c6))
              (try (have c6b2 : (a1 == (rdOf false l0 x8_1)) = false := by simpa using c6))
              (try (have c6b3 : ¬ (a1 = (rdOf false l0 x8_1)) := by simpa using c6))
              clear c6
              have H' := Aside0.mk H
              clear H
              have p303 : 0 ≤ (x8_1 : Int) := of_decide_eq_true (by first | (with_reducible assumption) | assumption)
              have q303 : x8_1 < (l0.length : Int) := of_decide_eq_true (by first | (with_reducible assumption) | assumption)
              obtain ⟨ad303, e303, hx303_0⟩ := Kd.at_bool HR0.out x8_1 p303 q303
              cases e303
              replace p303 := eq_true p303
              replace q303 := eq_true q303
              go_wp2
              go_roundg k1
              case measure => have := HK1.out; omega
              case rel => exact ⟨(wrap64 (x8_1 + 1)), (by first | rfl | (simp; done) | (simp [*]; done)), H', ⟨by have := HK1.out; omega⟩, by repeat (first | exact Drawn0.refl _ | apply Drawn0.step)⟩
          · rw [if_neg c5] at H
            exact absurd H (by simp)
        · rw [if_neg c4] at H
          exact absurd H (by simp)
      · rw [if_neg c3] at H
        have c3b0 : decide (x8_1 < (l0.length : Int)) = false := decide_eq_false c3
        clear c3
        obtain rfl := Option.some.inj H
        go_wp2
        go_ret
        exact ⟨by first | rfl | (simp; done) | (simp [*]; done), by repeat (first | exact Drawn0.refl _ | apply Drawn0.step)⟩






/-! ### ringworkref09_at: function 52 -/
def ringworkref09_at.l0 : Nat → List (S31) → Int → Int → Option (Int)
  | 0, _, _, _ => none
  | k + 1, x0, x1, x5 => if x5 < (x0.length : Int) then (if 0 ≤ x5 then (if ((rd_T31 x0 x5).f0) = x1 then (some x5) else (ringworkref09_at.l0 k x0 x1 (wrap64 (x5 + 1)))) else (none)) else (some (-1))
def ringworkref09_at.f (k : Nat) (l0 : List (S31)) (a1 : Int) : Option (Int) := ringworkref09_at.l0 k l0 a1 0
theorem ringworkref09_at.mono_l : ∀ k, (∀ y0 y1 y2, LeO (ringworkref09_at.l0 k y0 y1 y2) (ringworkref09_at.l0 (k + 1) y0 y1 y2))
  | 0 => fun _ _ _ r h => by simp [ringworkref09_at.l0] at h
  | k + 1 => by
    have ih0 := ringworkref09_at.mono_l k
    · intro y0 y1 y2
      unfold ringworkref09_at.l0
      repeat' first
      | (with_reducible exact ih0 _ _ _)
      | (with_reducible exact LeO.refl _)
      | (with_reducible exact LeO.none _)
      | (with_reducible refine LeO.ite ?_ ?_)
      | (with_reducible refine LeO.bind ?_ (fun _ => ?_))
      | exact ih0 _ _ _
      | exact LeO.none _
      | refine LeO.ite ?_ ?_
      | refine LeO.bind ?_ (fun _ => ?_)
theorem ringworkref09_at.mono : ∀ a0 a1 k, LeO (ringworkref09_at.f k a0 a1) (ringworkref09_at.f (k + 1) a0 a1) := by
  intro a0 a1 k
  have ih0 := ringworkref09_at.mono_l k
  unfold ringworkref09_at.f
  repeat' first
      | (with_reducible exact ih0 _ _ _)
      | (with_reducible exact LeO.refl _)
      | (with_reducible exact LeO.none _)
      | (with_reducible refine LeO.ite ?_ ?_)
      | (with_reducible refine LeO.bind ?_ (fun _ => ?_))
      | exact ih0 _ _ _
      | exact LeO.none _
      | refine LeO.ite ?_ ?_
      | refine LeO.bind ?_ (fun _ => ?_)
set_option maxHeartbeats 8000000 in
set_option maxRecDepth 100000 in
theorem ringworkref09_at.calls (k : Nat) (A0 : Option Addr) (c0 : Nat) (l0 : List (S31)) (a1 : Int) (r : Int) (w : World) (hr0 : Kd.C k31 w A0 l0.length l0) (hc0 : l0.length ≤ c0) (h : ringworkref09_at.f k l0 a1 = some r) :
    Calls Try.prog 52 #[.slice A0 l0.length c0, .int .i64 a1] w fun e w' => e = .returned (.int .i64 r) ∧ Drawn0 w w' := by
  have HR0 := Aside0.mk hr0
  have HC0 := Aside0.mk hc0
  clear hr0 hc0
  have H : (ringworkref09_at.l0 k l0 a1 0) = some r := h
  clear h
  have H' := Aside0.mk H
  clear H
  go_enter Try.func52, Try.ntmps52
  go_wp2
  go_loopg [5] k (fun kq v5 w' => ∃ (x5_1 : Int), v5 = .int .i64 x5_1 ∧ Aside0 (ringworkref09_at.l0 kq l0 a1 x5_1 = some r) ∧ Aside0 (kq ≤ k) ∧ Drawn0 w w')
  case atStart => exact ⟨(0), (by first | rfl | (simp; done) | (simp [*]; done)), H', ⟨Nat.le_refl _⟩, by repeat (first | exact Drawn0.refl _ | apply Drawn0.step)⟩
  case round =>
    clear H'
    try clear p2
    obtain ⟨x5_1, rfl, HA, HK1, ⟨m1, rfl⟩⟩ := hrel
    cases gk with
    | zero => exact absurd HA.out (by simp [ringworkref09_at.l0])
    | succ k1 =>
      have H := HA.out
      clear HA
      simp only [ringworkref09_at.l0] at H
      by_cases c3 : x5_1 < (l0.length : Int)
      · rw [if_pos c3] at H
        have c3b0 : decide (x5_1 < (l0.length : Int)) = true := decide_eq_true c3
        clear c3
        by_cases c4 : 0 ≤ x5_1
        · rw [if_pos c4] at H
          have c4b0 : decide (0 ≤ x5_1) = true := decide_eq_true c4
          clear c4
          by_cases c5 : ((rd_T31 l0 x5_1).f0) = a1
          · rw [if_pos c5] at H
            have c5b0 : (((rd_T31 l0 x5_1).f0) == a1) = true := beq_iff_eq.mpr c5
            have c5b1 : (((rd_T31 l0 x5_1).f0) != a1) = false := bne_eq_false_iff_eq.mpr c5
            clear c5
            obtain rfl := Option.some.inj H
            have p327 : 0 ≤ (x5_1 : Int) := of_decide_eq_true (by first | (with_reducible assumption) | assumption)
            have q327 : x5_1 < (l0.length : Int) := of_decide_eq_true (by first | (with_reducible assumption) | assumption)
            obtain ⟨ad327, e327, hx327_0, hx327_1, hx327_2, hx327_3⟩ := at_T31 HR0.out x5_1 p327 q327
            cases e327
            replace p327 := eq_true p327
            replace q327 := eq_true q327
            go_wp2
            go_ret
            exact ⟨by first | rfl | (simp; done) | (simp [*]; done), by repeat (first | exact Drawn0.refl _ | apply Drawn0.step)⟩
          · rw [if_neg c5] at H
            have c5b0 : (((rd_T31 l0 x5_1).f0) == a1) = false := beq_eq_false_iff_ne.mpr c5
            have c5b1 : (((rd_T31 l0 x5_1).f0) != a1) = true := bne_iff_ne.mpr c5
            have H' := Aside0.mk H
            clear H
            have p327 : 0 ≤ (x5_1 : Int) := of_decide_eq_true (by first | (with_reducible assumption) | assumption)
            have q327 : x5_1 < (l0.length : Int) := of_decide_eq_true (by first | (with_reducible assumption) | assumption)
            obtain ⟨ad327, e327, hx327_0, hx327_1, hx327_2, hx327_3⟩ := at_T31 HR0.out x5_1 p327 q327
            cases e327
            replace p327 := eq_true p327
            replace q327 := eq_true q327
            go_wp2
            go_roundg k1
            case measure => have := HK1.out; omega
            case rel => exact ⟨(wrap64 (x5_1 + 1)), (by first | rfl | (simp; done) | (simp [*]; done)), H', ⟨by have := HK1.out; omega⟩, by repeat (first | exact Drawn0.refl _ | apply Drawn0.step)⟩
        · rw [if_neg c4] at H
          exact absurd H (by simp)
      · rw [if_neg c3] at H
        have c3b0 : decide (x5_1 < (l0.length : Int)) = false := decide_eq_false c3
        clear c3
        obtain rfl := Option.some.inj H
        go_wp2
        go_ret
        exact ⟨by first | rfl | (simp; done) | (simp [*]; done), by repeat (first | exact Drawn0.refl _ | apply Drawn0.step)⟩


end Go.Proofs.Ytilenkodmmpofaa.PC

set_option linter.unusedVariables false
set_option linter.unusedSimpArgs false
namespace Go.Proofs.Ytilenkodmmpofaa.K
open Go.RowKit Go.Proofs.YtilenkodmmpofaaW.PrintWords Go.Maps PC

theorem below_then {w w1 w2 : World} (h : Below w.heap.size w w1) (h2 : Below w1.heap.size w1 w2) : Below w.heap.size w w2 := h.trans (h2.mono h.size)
theorem C_len {α : Type} {d : Kd α} {w : World} {A : Option Addr} {n : Nat} {xs : List α} (h : Kd.C d w A n xs) : xs.length = n ∧ n ≤ 9223372036854775807 := ⟨h.1, h.2.1⟩
theorem w64 {x : Int} (h0 : -9223372036854775808 ≤ x) (h1 : x ≤ 9223372036854775807) : wrap64 x = x := by unfold wrap64; omega
theorem rd31_get (l : List S31) (i : Nat) (h : i < l.length) : rd_T31 l (i : Int) = l[i] := by
  simp [rd_T31, List.getD_eq_getElem?_getD, List.getElem?_eq_getElem h]
theorem C_link {w : World} {A : Option Addr} {n : Nat} {xs : List S31} (h : Kd.C k31 w A n xs) (i : Nat) (h1 : i < n) :
    ∃ ad x, A = some ad ∧ xs[i]? = some x ∧ w.cell? (ad.add (i * 4)) = some (.int .i64 x.f0) ∧ w.cell? ⟨(ad.add (i * 4)).block, (ad.add (i * 4)).off + 1, none⟩ = some (.int .i64 x.f1) ∧ w.cell? ⟨(ad.add (i * 4)).block, (ad.add (i * 4)).off + 2, none⟩ = some (.int .i64 x.f2) ∧ w.cell? ⟨(ad.add (i * 4)).block, (ad.add (i * 4)).off + 3, none⟩ = some (.int .i64 x.f3) := by
  obtain ⟨ad, e, c0, c1, c2, c3⟩ := at_T31 h i (by omega) (by omega)
  have hn : xs.length = n := h.1
  have e1 : rd_T31 xs (i : Int) = xs[i]'(by omega) := rd31_get xs i (by omega)
  rw [e1] at c0 c1 c2 c3
  exact ⟨ad, xs[i]'(by omega), e, List.getElem?_eq_getElem _, c0, c1, c2, c3⟩
abbrev vL (x : S31) : Value := .agg #[.int .i64 x.f0, .int .i64 x.f1, .int .i64 x.f2, .int .i64 x.f3]
def wfi (x : Int) : Prop := -9223372036854775808 ≤ x ∧ x ≤ 9223372036854775807
/-- Keys that may be keys, and ascend. -/
def KeysOk (l : List S31) : Prop := (∀ x ∈ l, 1 ≤ x.f0 ∧ x.f0 ≤ 1000000) ∧ l.Pairwise (fun x y => x.f0 < y.f0)
/-- Where the link of a key stands; -1 if it has none. -/
def idxL (k : Int) : Nat → List S31 → Int
  | _, [] => -1
  | i, x :: r => if x.f0 = k then i else idxL k (i + 1) r
theorem idxL_some (k : Int) : ∀ (l : List S31) (i : Nat) (m : Nat) (x : S31), (∀ j y, j < m → l[j]? = some y → y.f0 ≠ k) → l[m]? = some x → x.f0 = k → idxL k i l = ((i + m : Nat) : Int)
  | [], i, m, x, _, h, _ => by simp at h
  | y :: r, i, 0, x, h0, h, e => by
    simp at h
    subst h
    rw [idxL, if_pos e]; rfl
  | y :: r, i, m + 1, x, h0, h, e => by
    rw [idxL, if_neg (h0 0 y (by omega) rfl), idxL_some k r (i + 1) m x (fun j z hj hz => h0 (j + 1) z (by omega) hz) h e]
    omega
theorem idxL_none (k : Int) : ∀ (l : List S31) (i : Nat), (∀ x ∈ l, x.f0 ≠ k) → idxL k i l = -1
  | [], i, _ => rfl
  | y :: r, i, h => by rw [idxL, if_neg (h y (List.mem_cons_self ..)), idxL_none k r (i + 1) (fun x hx => h x (List.mem_cons_of_mem _ hx))]
theorem idxL_at (k : Int) : ∀ (l : List S31) (i : Nat) (m : Nat), idxL k i l = ((i + m : Nat) : Int) → ∃ x, l[m]? = some x ∧ x.f0 = k
  | [], i, m, h => by simp [idxL] at h; omega
  | y :: r, i, m, h => by
    rw [idxL] at h
    split at h
    · rename_i e
      obtain rfl : m = 0 := by omega
      exact ⟨y, rfl, e⟩
    · have hge : ∀ (l : List S31) (j : Nat), idxL k j l = -1 ∨ (j : Int) ≤ idxL k j l := by
        intro l
        induction l with
        | nil => intro j; exact .inl rfl
        | cons z t ih =>
          intro j
          rw [idxL]
          split
          · exact .inr (Int.le_refl _)
          · rcases ih (j + 1) with h | h
            · exact .inl h
            · exact .inr (by omega)
      obtain ⟨m', rfl⟩ : ∃ m', m = m' + 1 := ⟨m - 1, by rcases hge r (i + 1) with h' | h' <;> omega⟩
      exact idxL_at k r (i + 1) m' (by rw [h]; omega)
theorem idxL_cases (k : Int) (l : List S31) : (idxL k 0 l = -1 ∧ ∀ x ∈ l, x.f0 ≠ k) ∨ ∃ m : Nat, idxL k 0 l = m ∧ m < l.length ∧ ∃ x, l[m]? = some x ∧ x.f0 = k := by
  by_cases h : ∀ x ∈ l, x.f0 ≠ k
  · exact .inl ⟨idxL_none k l 0 h, h⟩
  · right
    have hlo : ∀ (l : List S31) (j : Nat), (∃ x ∈ l, x.f0 = k) → ∃ m : Nat, idxL k j l = ((j + m : Nat) : Int) ∧ m < l.length := by
      intro l
      induction l with
      | nil => rintro j ⟨x, hx, _⟩; cases hx
      | cons z t ih =>
        rintro j ⟨x, hx, e⟩
        rw [idxL]
        split
        · exact ⟨0, rfl, by simp⟩
        · rename_i hz
          obtain ⟨m, h1, h2⟩ := ih (j + 1) (by
            rcases List.mem_cons.1 hx with rfl | hx
            · exact absurd e hz
            · exact ⟨x, hx, e⟩)
          exact ⟨m + 1, by rw [h1]; omega, by simpa using h2⟩
    obtain ⟨m, h1, h2⟩ := hlo l 0 (Classical.byContradiction fun hn => h fun x hx e => hn ⟨x, hx, e⟩)
    exact ⟨m, by rw [h1]; omega, h2, idxL_at k l 0 m h1⟩
theorem less_calls (x : S31) (k : Int) (w : World) : Calls Try.prog 75 #[vL x, .int .i64 k] w fun e w' => e = .returned (.int .i64 (wrap64 (x.f0 - k))) ∧ Below w.heap.size w w' := by
  go_enter Try.func75, Try.ntmps75
  go_wp2
  go_ret
  exact ⟨rfl, below_alloc (Below.refl _ _) _⟩
end Go.Proofs.Ytilenkodmmpofaa.K

set_option linter.unusedVariables false
set_option linter.unusedSimpArgs false
namespace Go.Proofs.Ytilenkodmmpofaa.K
open Go.RowKit Go.Deep Go.ChangeShapes Go.WideShapes Go.Proofs.YtilenkodmmpofaaW.PrintWords Go.Maps PC

theorem add_add (a : Addr) (x y : Nat) : (a.add x).add y = a.add (x + y) := by
  unfold Addr.add
  split <;> split <;> split <;> simp_all <;> omega
instance : Inhabited S31 := ⟨z31⟩
theorem C_of_cells {w : World} {A : Option Addr} {L : Nat} {zs : List Int} (hL : L ≤ zs.length) (hm : zs.length ≤ 9223372036854775807) (hn : A = none → zs.length = 0) (hc : ∀ a, A = some a → ∀ c, c < zs.length → w.cell? (a.add c) = some (.int .i64 (zs.getD c 0))) :
    Kd.C (Kd.int .i64) w A (zs.take L).length (zs.take L) := by
  have hl : (zs.take L).length = L := by rw [List.length_take]; omega
  refine ⟨rfl, by omega, fun hp => ?_⟩
  rw [hl] at hp
  cases A with
  | none => have := hn rfl; omega
  | some a =>
    refine ⟨a, rfl, fun j p hj => ?_⟩
    have hjL : j < L := by have := (List.getElem?_eq_some_iff.1 hj).1; omega
    refine ⟨[.int .i64 p], rfl, rfl, fun i u hu => ?_⟩
    have hi : i = 0 := by
      have := (List.getElem?_eq_some_iff.1 hu).1
      simpa using this
    subst hi
    simp at hu
    subst hu
    rw [show j * (Kd.int .i64).sz + 0 = j from Nat.mul_one j, hc a rfl j (by omega)]
    rw [List.getElem?_take_of_lt hjL, List.getElem?_eq_getElem (by omega)] at hj
    injection hj with hj
    rw [List.getD_eq_getElem?_getD, List.getElem?_eq_getElem (show j < zs.length by omega), Option.getD_some, hj]
section
variable {H : Type} {enc : TypeId × Value → H} {W : World} {held : Bool}
theorem open_ints_C {a : Option Addr} {len cap fuel : Nat} {x : DataW H × List MemPlace} (h : DataW.trod enc Try.prog W 0 (fun _ => true) held fuel 22 [.slice a len cap] = some x) :
    ∃ l : List Int, l.length = len ∧ len ≤ cap ∧ Kd.C (Kd.int .i64) W a l.length l ∧ ∀ n ∈ l, (Lit.int .i64 n).wf = true := by
  rcases open_ints Try.underlying22 Try.underlying3 (by kernel_rfl) h with ⟨hcs, _⟩ | ⟨y, l, c, zs, hcs, _, hl, hm, hz, _, hcell, hwz⟩
  · simp at hcs
    obtain ⟨rfl, rfl, rfl⟩ := hcs
    exact ⟨[], rfl, Nat.le_refl _, Kd.C_nil _ W, by simp⟩
  · simp at hcs
    obtain ⟨rfl, rfl, rfl⟩ := hcs
    have hz' : zs.length = cap := by simpa using hz
    refine ⟨zs.take len, by rw [List.length_take]; omega, hl, C_of_cells (by omega) (by rw [hz']; exact hm) (fun e => by cases e) (fun a e c hc => ?_), fun n hn => hwz n (List.mem_of_mem_take hn)⟩
    injection e with e
    subst e
    exact hcell c hc
end
end Go.Proofs.Ytilenkodmmpofaa.K

set_option linter.unusedVariables false
set_option linter.unusedSimpArgs false
namespace Go.Proofs.Ytilenkodmmpofaa.K
open Go.RowKit Go.Proofs.YtilenkodmmpofaaW.PrintWords Go.Maps PC

theorem keys_lt {l : List S31} (h : KeysOk l) {i j : Nat} {x y : S31} (hij : i < j) (hx : l[i]? = some x) (hy : l[j]? = some y) : x.f0 < y.f0 := by
  obtain ⟨hj, rfl⟩ := List.getElem?_eq_some_iff.1 hy
  obtain ⟨hi, rfl⟩ := List.getElem?_eq_some_iff.1 hx
  exact List.pairwise_iff_getElem.1 h.2 i j hi hj hij
theorem keys_in {l : List S31} (h : KeysOk l) {i : Nat} {x : S31} (hx : l[i]? = some x) : 1 ≤ x.f0 ∧ x.f0 ≤ 1000000 := by
  obtain ⟨hi, rfl⟩ := List.getElem?_eq_some_iff.1 hx
  exact h.1 _ (List.getElem_mem hi)
theorem keys_idx {l : List S31} (h : KeysOk l) {m : Nat} {x : S31} (hx : l[m]? = some x) : idxL x.f0 0 l = m := by
  rw [idxL_some x.f0 l 0 m x (fun j y hj hy e => by have := keys_lt h hj hy hx; omega) hx rfl]
  omega
theorem ret_ib {i : Int} {a b : Bool} (h : a = b) : Ending.returned (.tuple #[.int .i64 i, .bool a]) = Ending.returned (.tuple #[.int .i64 i, .bool b]) := by rw [h]
set_option maxRecDepth 100000 in
set_option maxHeartbeats 4000000 in
theorem Bin_calls (A : Option Addr) (c : Nat) (l : List S31) (k : Int) (w : World) (hr : Kd.C k31 w A l.length l) (hk : KeysOk l) (hl : l.length ≤ 1000) (hw : wfi k) :
    Calls Try.prog 74 #[.slice A l.length c, .int .i64 k, .func (.func 75) #[] #[]] w fun e w' => (∃ i : Int, e = .returned (.tuple #[.int .i64 i, .bool (decide (0 ≤ idxL k 0 l))]) ∧ (0 ≤ idxL k 0 l → i = idxL k 0 l)) ∧ Below w.heap.size w w' := by
  have HR := Aside0.mk hr
  have HK := Aside0.mk hk
  have HW := Aside0.mk hw
  clear hr hk hw
  go_enter Try.func74, Try.ntmps74
  go_wp2
  go_loopg [9, 10] l.length (fun g v9 v10 wr => ∃ (i j : Nat), g = j - i ∧ i ≤ j ∧ j ≤ l.length ∧ v9 = .int .i64 i ∧ v10 = .int .i64 j ∧ Aside0 (∀ m x, l[m]? = some x → x.f0 = k → i ≤ m ∧ m ≤ j) ∧ Below w.heap.size w wr)
  case atStart => exact ⟨0, l.length, rfl, Nat.zero_le _, Nat.le_refl _, rfl, rfl, ⟨fun m x hm _ => ⟨Nat.zero_le _, Nat.le_of_lt (List.getElem?_eq_some_iff.1 hm).1⟩⟩, Below.refl _ _⟩
  case round =>
    obtain ⟨i, j, hg, hij, hj, rfl, rfl, HT, hbel⟩ := hrel
    have HG := Aside0.mk hg
    clear hg
    by_cases hlt : i < j
    · have hhi : i ≤ (i + j) / 2 := by omega
      have hhj : (i + j) / 2 < j := by omega
      have hhl : (i + j) / 2 < l.length := by omega
      have hsum : wrap64 ((i : Int) + (j : Int)) = ((i + j : Nat) : Int) := by rw [w64 (by omega) (by omega)]; omega
      obtain ⟨ad, x, hA, hdx, c0, c1, c2, c3⟩ := C_link HR.out ((i + j) / 2) hhl
      subst hA
      replace c0 := pw_cell_below hbel c0
      replace c1 := pw_cell_below hbel c1
      replace c2 := pw_cell_below hbel c2
      replace c3 := pw_cell_below hbel c3
      have HD := Aside0.mk hdx
      have HC := fun W => Aside0.mk (less_calls x k W)
      unfold vL at HC
      have HHI := Aside0.mk hhi
      have HHJ := Aside0.mk hhj
      clear hdx
      have hx := keys_in HK.out HD.out
      have HX := Aside0.mk hx
      clear hx
      by_cases hneg : wrap64 (x.f0 - k) < 0
      · have HN : Aside0 (∀ m y, l[m]? = some y → y.f0 = k → (i + j) / 2 + 1 ≤ m ∧ m ≤ j) := ⟨fun m y hm e => by
          refine ⟨?_, (HT.out m y hm e).2⟩
          refine Nat.lt_of_not_le fun hle => ?_
          have hy := keys_in HK.out hm
          have hle2 : y.f0 ≤ x.f0 := by
            rcases Nat.lt_or_eq_of_le hle with h | h
            · exact Int.le_of_lt (keys_lt HK.out h hm HD.out)
            · rw [h, HD.out] at hm; injection hm with hm; rw [hm]; exact Int.le_refl _
          have hx := HX.out
          rw [w64 (by omega) (by omega)] at hneg
          omega⟩
        go_wp2_with (go_at_call 75; go_must (refine (HC _).out.mono ?_; rintro e w2 ⟨rfl, hd⟩))
        go_roundg (j - ((i + j) / 2 + 1))
        case measure => have := HG.out; have := HHI.out; have := HHJ.out; omega
        case rel => exact ⟨(i + j) / 2 + 1, j, rfl, by have := HHJ.out; omega, hj, by go_num, rfl, HN, below_then hbel hd⟩
      · have HN : Aside0 (∀ m y, l[m]? = some y → y.f0 = k → i ≤ m ∧ m ≤ (i + j) / 2) := ⟨fun m y hm e => by
          refine ⟨(HT.out m y hm e).1, ?_⟩
          refine Nat.le_of_not_lt fun hle => ?_
          have hy := keys_in HK.out hm
          have hle2 : x.f0 < y.f0 := keys_lt HK.out hle HD.out hm
          have hx := HX.out
          rw [w64 (by omega) (by omega)] at hneg
          omega⟩
        go_wp2_with (go_at_call 75; go_must (refine (HC _).out.mono ?_; rintro e w2 ⟨rfl, hd⟩))
        go_roundg ((i + j) / 2 - i)
        case measure => have := HG.out; have := HHI.out; have := HHJ.out; omega
        case rel => exact ⟨i, (i + j) / 2, rfl, HHI.out, by have := HHJ.out; omega, rfl, by go_num, HN, below_then hbel hd⟩
    · obtain rfl : i = j := by omega
      by_cases hin : i < l.length
      · obtain ⟨ad, x, hA, hdx, c0, c1, c2, c3⟩ := C_link HR.out i hin
        subst hA
        replace c0 := pw_cell_below hbel c0
        replace c1 := pw_cell_below hbel c1
        replace c2 := pw_cell_below hbel c2
        replace c3 := pw_cell_below hbel c3
        have HD := Aside0.mk hdx
        have HC := fun W => Aside0.mk (less_calls x k W)
        unfold vL at HC
        have HE : Aside0 (decide (0 ≤ idxL k 0 l) = (wrap64 (x.f0 - k) == 0) ∧ (0 ≤ idxL k 0 l → (i : Int) = idxL k 0 l)) := ⟨by
          have hx := keys_in HK.out hdx
          have hw := HW.out
          unfold wfi at hw
          rcases idxL_cases k l with ⟨h1, h2⟩ | ⟨m, h1, h2, y, h3, h4⟩
          · rw [h1]
            have hne := h2 x (List.mem_of_getElem? hdx)
            refine ⟨?_, by omega⟩
            have : wrap64 (x.f0 - k) ≠ 0 := by unfold wrap64; omega
            simp [this]
          · have hb := HT.out m y h3 h4
            obtain rfl : m = i := by omega
            rw [h1]
            rw [hdx] at h3
            injection h3 with h3
            subst h3
            refine ⟨?_, fun _ => rfl⟩
            rw [h4, Int.sub_self]
            simp [wrap64]⟩
        clear hdx
        go_wp2_with (go_at_call 75; go_must (refine (HC _).out.mono ?_; rintro e w2 ⟨rfl, hd⟩))
        go_ret2
        exact ⟨⟨i, ret_ib HE.out.1.symm, HE.out.2⟩, below_then hbel hd⟩
      · have HE : Aside0 (decide (0 ≤ idxL k 0 l) = false ∧ (0 ≤ idxL k 0 l → (i : Int) = idxL k 0 l)) := ⟨by
          rcases idxL_cases k l with ⟨h1, h2⟩ | ⟨m, h1, h2, y, h3, h4⟩
          · rw [h1]
            exact ⟨rfl, by omega⟩
          · have hb := HT.out m y h3 h4
            omega⟩
        have hin2 : ¬ (i : Int) < (l.length : Int) := by omega
        go_wp2
        go_ret2
        exact ⟨⟨i, ret_ib HE.out.1.symm, HE.out.2⟩, hbel⟩
theorem find_none {l : List S31} {k : Int} (hi : idxL k 0 l = -1) (A : Option Addr) (c : Nat) (w : World) (hr : Kd.C k31 w A l.length l) (hk : KeysOk l) (hl : l.length ≤ 1000) (hw : wfi k) :
    Calls Try.prog 49 #[.slice A l.length c, .int .i64 k] w fun e w' => (∃ i : Int, e = .returned (.tuple #[.int .i64 i, .bool false])) ∧ Below w.heap.size w w' := by
  have HC := Aside0.mk (Bin_calls A c l k w hr hk hl hw)
  rw [hi] at HC
  clear hi hr hk hw
  go_enter Try.func49, Try.ntmps49
  go_wp2_with (go_at_call 74; go_must (refine HC.out.mono ?_; rintro e w2 ⟨⟨i, rfl, _⟩, hd⟩))
  go_ret2
  exact ⟨⟨i, rfl⟩, hd⟩
theorem find_some {l : List S31} {k : Int} {m : Nat} (hi : idxL k 0 l = m) (A : Option Addr) (c : Nat) (w : World) (hr : Kd.C k31 w A l.length l) (hk : KeysOk l) (hl : l.length ≤ 1000) (hw : wfi k) :
    Calls Try.prog 49 #[.slice A l.length c, .int .i64 k] w fun e w' => e = .returned (.tuple #[.int .i64 m, .bool true]) ∧ Below w.heap.size w w' := by
  have HC := Aside0.mk (Bin_calls A c l k w hr hk hl hw)
  rw [hi, decide_eq_true (Int.natCast_nonneg m)] at HC
  clear hi hr hk hw
  go_enter Try.func49, Try.ntmps49
  go_wp2_with (go_at_call 74; go_must (refine HC.out.mono ?_; rintro e w2 ⟨⟨i, rfl, hi⟩, hd⟩; obtain rfl := hi (Int.natCast_nonneg m)))
  go_ret2
  exact ⟨rfl, hd⟩
end Go.Proofs.Ytilenkodmmpofaa.K

set_option linter.unusedVariables false
set_option linter.unusedSimpArgs false
namespace Go.Proofs.Ytilenkodmmpofaa.K
open PC

def okKey (n : Int) : Bool := decide (1 ≤ n) && decide (n ≤ 1000000)
/-- The first link whose key or owner is wrong. -/
def scanF (o : Int) : Nat → Int → List S31 → Option (Int × Int)
  | _, _, [] => none
  | i, p, x :: r => if (!okKey x.f0 || decide (x.f0 ≤ p)) = true then some ((i : Int), 1) else if (!okKey x.f3 || x.f3 != o) = true then some ((i : Int), 4) else scanF o (i + 1) x.f0 r
/-- The way round from the owner: where it breaks off, or for each link the key that leads to it. -/
def ringF (l : List S31) (o : Int) (own : Nat) : Nat → List Int → Nat → Option (Nat ⊕ List Int)
  | 0, _, _ => none
  | f + 1, fr, now =>
    match l[now]? with
    | none => none
    | some x => if x.f1 = o then some (.inr (fr.set own x.f0))
      else if idxL x.f1 0 l < 0 then some (.inl now)
      else if fr.getD (idxL x.f1 0 l).toNat 0 ≠ 0 then some (.inl now)
      else ringF l o own f (fr.set (idxL x.f1 0 l).toNat x.f0) (idxL x.f1 0 l).toNat
def zeroF : Nat → List Int → Option Nat
  | _, [] => none
  | i, x :: r => if x = 0 then some i else zeroF (i + 1) r
def priorF : Nat → List S31 → List Int → Option Nat
  | i, x :: r, y :: s => if x.f2 = y then priorF (i + 1) r s else some i
  | _, _, _ => none
def ringEnd (l : List S31) : Nat ⊕ List Int → Int × Int × Int
  | .inl now => ((now : Int), 2, 12)
  | .inr fr => match zeroF 0 fr with
    | some i => ((i : Int), 2, 12)
    | none => match priorF 0 l fr with
      | some i => ((i : Int), 3, 12)
      | none => (-1, 0, 0)
def ownL (l : List S31) : Int := match l with | [] => 0 | x :: _ => x.f3
def wrongF (l : List S31) : Int × Int × Int :=
  if l.length = 0 then (0, 0, 11) else if 500 < l.length then (500, 0, 4) else
  match scanF (ownL l) 0 0 l with
  | some (i, f) => (i, f, 12)
  | none => if idxL (ownL l) 0 l < 0 then (0, 4, 12) else
    match ringF l (ownL l) (idxL (ownL l) 0 l).toNat (l.length + 1) (List.replicate l.length 0) (idxL (ownL l) 0 l).toNat with
    | none => (0, 0, 0)
    | some e => ringEnd l e

theorem okKey_iff {n : Int} : okKey n = true ↔ 1 ≤ n ∧ n ≤ 1000000 := by simp [okKey]
theorem scan_ok (o : Int) : ∀ (l : List S31) (i : Nat) (p : Int), scanF o i p l = none → (∀ x ∈ l, (1 ≤ x.f0 ∧ x.f0 ≤ 1000000) ∧ p < x.f0 ∧ x.f3 = o ∧ 1 ≤ o ∧ o ≤ 1000000) ∧ l.Pairwise (fun x y => x.f0 < y.f0)
  | [], _, _, _ => ⟨by simp, .nil⟩
  | x :: r, i, p, h => by
    rw [scanF] at h
    split at h
    · cases h
    · rename_i h1
      split at h
      · cases h
      · rename_i h2
        obtain ⟨h3, h4⟩ := scan_ok o r (i + 1) x.f0 h
        simp only [Bool.or_eq_true, Bool.not_eq_true', decide_eq_true_eq, not_or, Bool.not_eq_false, okKey_iff, bne_iff_ne, ne_eq, Decidable.not_not] at h1 h2
        refine ⟨fun y hy => ?_, List.Pairwise.cons (fun y hy => (h3 y hy).2.1) h4⟩
        rcases List.mem_cons.1 hy with rfl | hy
        · refine ⟨h1.1, by omega, h2.2, ?_⟩
          rw [← h2.2]; exact h2.1
        · obtain ⟨a, b, c⟩ := h3 y hy
          exact ⟨a, by have := h1.2; omega, c⟩
theorem scan_keys {o : Int} {l : List S31} (h : scanF o 0 0 l = none) : KeysOk l :=
  ⟨fun x hx => ((scan_ok o l 0 0 h).1 x hx).1, (scan_ok o l 0 0 h).2⟩
/-- What holds on the way: each link that has been left leads to one that is marked with its key. -/
structure Way (l : List S31) (own : Nat) (fr : List Int) (now : Nat) : Prop where
  len : fr.length = l.length
  nlt : now < l.length
  start : fr[own]? = some 0
  here : now = own ∨ fr.getD now 0 ≠ 0
  left : ∀ (j : Nat) (x : S31), l[j]? = some x → (j = own ∨ fr.getD j 0 ≠ 0) → j ≠ now → ∃ n : Nat, idxL x.f1 0 l = n ∧ n < l.length ∧ n ≠ own ∧ fr[n]? = some x.f0
  come : ∀ (m : Nat) (v : Int), fr[m]? = some v → v ≠ 0 → ∃ (j : Nat) (x : S31), l[j]? = some x ∧ x.f0 = v ∧ idxL x.f1 0 l = (m : Int)
theorem idxL_key {l : List S31} (hk : KeysOk l) {n : Nat} {k : Int} (h : idxL k 0 l = n) : ∃ x, l[n]? = some x ∧ x.f0 = k := idxL_at k l 0 n (by rw [h]; omega)
theorem key_inj {l : List S31} (hk : KeysOk l) {i j : Nat} {x y : S31} (hx : l[i]? = some x) (hy : l[j]? = some y) (e : x.f0 = y.f0) : i = j := by
  have h1 := keys_idx hk hx
  have h2 := keys_idx hk hy
  rw [e] at h1
  omega
theorem way_start {l : List S31} {own : Nat} (h : own < l.length) : Way l own (List.replicate l.length 0) own where
  len := by simp
  nlt := h
  start := by rw [List.getElem?_replicate]; simp [h]
  here := .inl rfl
  left := fun j x hx hj hne => by
    rcases hj with rfl | hj
    · exact absurd rfl hne
    · exact absurd (by simp [List.getD_eq_getElem?_getD, List.getElem?_replicate]; split <;> rfl) hj
  come := fun m v hm hv => by
    rw [List.getElem?_replicate] at hm
    split at hm
    · injection hm with hm; exact absurd hm.symm hv
    · cases hm
theorem way_step {l : List S31} (hk : KeysOk l) {own now n : Nat} {fr : List Int} {x y : S31} (hw : Way l own fr now) (hx : l[now]? = some x) (hy : l[own]? = some y) (hn : idxL x.f1 0 l = n) (hne : x.f1 ≠ y.f0) (hz : fr.getD n 0 = 0) : Way l own (fr.set n x.f0) n ∧ n ≠ own ∧ n < l.length := by
  obtain ⟨z, hz1, hz2⟩ := idxL_key hk hn
  have hnl : n < l.length := (List.getElem?_eq_some_iff.1 hz1).1
  have hno : n ≠ own := by
    rintro rfl
    rw [hy] at hz1
    injection hz1 with hz1
    subst hz1
    exact hne hz2.symm
  have hx0 := keys_in hk hx
  have hfl : n < fr.length := by rw [hw.len]; exact hnl
  have hg : ∀ j, (fr.set n x.f0).getD j 0 = if n = j then x.f0 else fr.getD j 0 := fun j => by
    rw [List.getD_eq_getElem?_getD, List.getElem?_set, List.getD_eq_getElem?_getD]
    split
    · rename_i e; subst e; simp [hfl]
    · rfl
  refine ⟨⟨by rw [List.length_set]; exact hw.len, hnl, ?_, ?_, ?_, ?_⟩, hno, hnl⟩
  · rw [List.getElem?_set, if_neg hno]; exact hw.start
  · right; rw [hg, if_pos rfl]; omega
  · intro j u hu hj hjn
    by_cases hjnow : j = now
    · subst hjnow
      rw [hx] at hu
      injection hu with hu
      subst hu
      exact ⟨n, hn, hnl, hno, by rw [List.getElem?_set, if_pos rfl, if_pos hfl]⟩
    · have hj' : j = own ∨ fr.getD j 0 ≠ 0 := by
        rcases hj with h | h
        · exact .inl h
        · rw [hg, if_neg (fun e => hjn e.symm)] at h; exact .inr h
      obtain ⟨m, h1, h2, h3, h4⟩ := hw.left j u hu hj' hjnow
      refine ⟨m, h1, h2, h3, ?_⟩
      rw [List.getElem?_set]
      by_cases e : n = m
      · subst e
        have : fr.getD n 0 = u.f0 := by rw [List.getD_eq_getElem?_getD, h4]; rfl
        rw [hz] at this
        have := keys_in hk hu
        omega
      · rw [if_neg e]; exact h4
  · intro m v hm hv
    rw [List.getElem?_set] at hm
    by_cases e : n = m
    · subst e
      rw [if_pos rfl, if_pos hfl] at hm
      injection hm with hm
      exact ⟨now, x, hx, hm, hn⟩
    · rw [if_neg e] at hm
      exact hw.come m v hm hv
def zeros (fr : List Int) : Nat := fr.countP (· == 0)
theorem zeros_set : ∀ (fr : List Int) (n : Nat) (v : Int), n < fr.length → fr.getD n 0 = 0 → v ≠ 0 → zeros (fr.set n v) + 1 = zeros fr
  | x :: r, 0, v, _, h, hv => by
    have hx : x = 0 := by simpa using h
    subst hx
    simp [zeros, List.countP_cons, hv]
  | x :: r, n + 1, v, h1, h, hv => by
    have := zeros_set r n v (by simpa using h1) (by simpa using h) hv
    simp only [zeros, List.set_cons_succ, List.countP_cons] at this ⊢
    omega
theorem ring_ends {l : List S31} (hk : KeysOk l) {own : Nat} {y : S31} (hy : l[own]? = some y) : ∀ (f : Nat) (fr : List Int) (now : Nat), Way l own fr now → zeros fr + 1 ≤ f → ∃ e, ringF l y.f0 own f fr now = some e
  | 0, fr, now, _, h => by omega
  | f + 1, fr, now, hw, h => by
    obtain ⟨x, hx⟩ : ∃ x, l[now]? = some x := ⟨_, List.getElem?_eq_getElem hw.nlt⟩
    rw [ringF, hx]
    simp only
    split
    · exact ⟨_, rfl⟩
    · rename_i hne
      split
      · exact ⟨_, rfl⟩
      · rename_i hneg
        split
        · exact ⟨_, rfl⟩
        · rename_i hz
          obtain ⟨n, hn⟩ : ∃ n : Nat, idxL x.f1 0 l = n := ⟨(idxL x.f1 0 l).toNat, by omega⟩
          rw [hn, Int.toNat_natCast] at hz ⊢
          have hz' : fr.getD n 0 = 0 := by simpa using hz
          obtain ⟨h1, h2, h3⟩ := way_step hk hw hx hy hn hne hz'
          have hx0 := keys_in hk hx
          have := zeros_set fr n x.f0 (by rw [hw.len]; exact h3) hz' (by omega)
          exact ring_ends hk hy f _ n h1 (by omega)
/-- A full way round: each link leads to one, and to each leads one. -/
structure Full (l : List S31) (fr : List Int) : Prop where
  len : fr.length = l.length
  next : ∀ (j : Nat) (x : S31), l[j]? = some x → ∃ n : Nat, idxL x.f1 0 l = n ∧ n < l.length ∧ fr[n]? = some x.f0
  from_ : ∀ (m : Nat), m < l.length → ∃ (j : Nat) (x : S31), l[j]? = some x ∧ idxL x.f1 0 l = (m : Int) ∧ fr[m]? = some x.f0
theorem ring_full {l : List S31} (hk : KeysOk l) {own : Nat} {y : S31} (hy : l[own]? = some y) : ∀ (f : Nat) (fr : List Int) (now : Nat) (fin : List Int), Way l own fr now → ringF l y.f0 own f fr now = some (.inr fin) → (∀ v ∈ fin, v ≠ 0) → Full l fin
  | 0, fr, now, fin, _, h, _ => by simp [ringF] at h
  | f + 1, fr, now, fin, hw, h, h0 => by
    obtain ⟨x, hx⟩ : ∃ x, l[now]? = some x := ⟨_, List.getElem?_eq_getElem hw.nlt⟩
    have hol : own < l.length := (List.getElem?_eq_some_iff.1 hy).1
    rw [ringF, hx] at h
    simp only at h
    split at h
    · rename_i e
      simp only [Option.some.injEq, Sum.inr.injEq] at h
      subst h
      have hfl : own < fr.length := by rw [hw.len]; exact hol
      have hidx : idxL x.f1 0 l = own := by rw [e]; exact keys_idx hk hy
      have hall : ∀ j, j < l.length → j = own ∨ fr.getD j 0 ≠ 0 := fun j hj => by
        by_cases ej : j = own
        · exact .inl ej
        · right
          have hj2 : j < fr.length := by rw [hw.len]; exact hj
          have := h0 (fr.getD j 0) (by
            have h1 : (fr.set own x.f0)[j]? = some (fr.getD j 0) := by
              rw [List.getElem?_set, if_neg (fun e => ej e.symm), List.getD_eq_getElem?_getD, List.getElem?_eq_getElem hj2]; rfl
            exact List.mem_of_getElem? h1)
          exact this
      refine ⟨by rw [List.length_set]; exact hw.len, fun j u hu => ?_, fun m hm => ?_⟩
      · by_cases ej : j = now
        · subst ej
          rw [hx] at hu
          injection hu with hu
          subst hu
          exact ⟨own, hidx, hol, by rw [List.getElem?_set, if_pos rfl, if_pos hfl]⟩
        · obtain ⟨n, h1, h2, h3, h4⟩ := hw.left j u hu (hall j (List.getElem?_eq_some_iff.1 hu).1) ej
          exact ⟨n, h1, h2, by rw [List.getElem?_set, if_neg (fun e => h3 e.symm)]; exact h4⟩
      · by_cases em : m = own
        · subst em
          exact ⟨now, x, hx, hidx, by rw [List.getElem?_set, if_pos rfl, if_pos hfl]⟩
        · have hm2 : m < fr.length := by rw [hw.len]; exact hm
          have hv : fr[m]? = some (fr.getD m 0) := by rw [List.getD_eq_getElem?_getD, List.getElem?_eq_getElem hm2]; rfl
          have hne : fr.getD m 0 ≠ 0 := (hall m hm).resolve_left em
          obtain ⟨j, u, h1, h2, h3⟩ := hw.come m _ hv hne
          exact ⟨j, u, h1, h3, by rw [List.getElem?_set, if_neg (fun e => em e.symm), hv, h2]⟩
    · rename_i hne
      split at h
      · cases h
      · rename_i hneg
        split at h
        · cases h
        · rename_i hz
          obtain ⟨n, hn⟩ : ∃ n : Nat, idxL x.f1 0 l = n := ⟨(idxL x.f1 0 l).toNat, by omega⟩
          rw [hn, Int.toNat_natCast] at hz h
          have hz' : fr.getD n 0 = 0 := by simpa using hz
          obtain ⟨h1, h2, h3⟩ := way_step hk hw hx hy hn hne hz'
          exact ring_full hk hy f _ n fin h1 h h0
theorem zero_none : ∀ (l : List Int) (i : Nat), zeroF i l = none ↔ ∀ v ∈ l, v ≠ 0
  | [], i => by simp [zeroF]
  | x :: r, i => by
    rw [zeroF]
    by_cases e : x = 0
    · simp [e]
    · rw [if_neg e, zero_none r (i + 1)]
      simp [e]
end Go.Proofs.Ytilenkodmmpofaa.K
