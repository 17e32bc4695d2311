/- The iterator over a text's bytes as they are written. -/
import Derived.Test.YtibgjfeifpanhaaDoorProg
import Derived.Below
import Derived.Deep.Draws
import Derived.Deep.AppendLies
import Derived.Maps.AppendAt
import Derived.Maps.OwnSet
import Derived.OwnWalk
import Derived.Laws.BytesArg
import Derived.Laws.MakeOwn
import Derived.Laws.OwnMore
import Derived.Deep.OwnRows
import Derived.Tactics
import Derived.Laws.Slices
import Derived.WalkKit
import Derived.KernelRfl
import Derived.RowKit3
import Derived.Deep.LoopGhost
import Derived.Deep.QuietTactic
import Derived.BigQuiet
import Derived.WideLaws
import Derived.Deep.DeepCutAuto
import Derived.Deep.CutBlock
import Derived.Deep.RegionHeld3
import Derived.Laws.Rows
import Derived.ArgAppend
import Derived.Laws.IdiomCopy
import Derived.OrdersHeld
import Derived.Laws.BitsLemmas
import Derived.Outline
import Derived.WalkSpells
import Derived.Lib.Hide
import Derived.RowKit
import Derived.Deep.DeepMust
import Derived.Laws.EntriesVeiled
import Derived.Test.YtibgjfeifpanhaaDoorB2
import Derived.Test.YtibgjfeifpanhaaDoorS1
import Derived.RangeFuncNested
import Derived.RangeFuncBound
import Derived.RangeFuncCalls
import Derived.RangeFuncLeaves
import Derived.Shelf.Abstract
import Derived.Shelf.RegionOpen
import Derived.OwnWalkIn
import Derived.TacticsInMore
import Derived.LoopNIn
import Derived.LoopIn
import Derived.RangeFuncBox
import Derived.Sort.QuietIn
import Derived.Laws.BitsLemmas
set_option linter.unusedVariables false
set_option linter.unusedSimpArgs false
namespace Go.Proofs.YtibgjfeifpanhaaDoor.B
open Go.RowKit Go.Shelf Go.Proofs.YtibgjfeifpanhaaDoorW.PrintWords Go.Maps
attribute [local go_sem] Oper.semAt_some

def hexS : ByteArray := ⟨#[48, 49, 50, 51, 52, 53, 54, 55, 56, 57, 97, 98, 99, 100, 101, 102]⟩
def hexB (n : Nat) : UInt8 := if n < 10 then (48 + n).toUInt8 else (87 + n).toUInt8
/-- A byte as it is written. -/
def escB (c : UInt8) : ByteArray := if c = 34 ∨ c = 92 then ⟨#[92, c]⟩ else if c.toNat < 32 ∨ 126 < c.toNat then ⟨#[92, 120, hexB (c.toNat / 16), hexB (c.toNat % 16)]⟩ else ⟨#[c]⟩

theorem hex_cases (a : Nat) (h : a < 16) : a = 0 ∨ a = 1 ∨ a = 2 ∨ a = 3 ∨ a = 4 ∨ a = 5 ∨ a = 6 ∨ a = 7 ∨ a = 8 ∨ a = 9 ∨ a = 10 ∨ a = 11 ∨ a = 12 ∨ a = 13 ∨ a = 14 ∨ a = 15 := by omega
set_option maxRecDepth 100000 in
theorem hex_ix (a : Nat) (h : a < 16) (w : World) : (Instr.index 9 (.string { data := #[48, 49, 50, 51, 52, 53, 54, 55, 56, 57, 97, 98, 99, 100, 101, 102] }) (.int .u8 (a : Int))).run Tryd.prog w = .ok (.int .u8 ((hexB a).toNat : Int)) w := by
  rcases hex_cases a h with rfl | rfl | rfl | rfl | rfl | rfl | rfl | rfl | rfl | rfl | rfl | rfl | rfl | rfl | rfl | rfl <;> (simp [Instr.index, Tryd.underlying9, go_sem]; try rfl)
theorem hex_conv (a : Nat) (h : a < 16) (w : World) : (convert 5 9 (.int .u8 ((hexB a).toNat : Int))).run Tryd.prog w = .ok (.string ⟨#[hexB a]⟩) w := by
  rcases hex_cases a h with rfl | rfl | rfl | rfl | rfl | rfl | rfl | rfl | rfl | rfl | rfl | rfl | rfl | rfl | rfl | rfl <;> kernel_rfl
theorem drewN_grown {w w' : World} {r : Option Nat} (h : w.grownBy w' r) (n : Nat) : w.grownBy (w'.drewN n) r := ⟨h.os, h.tape, h.output, h.size, h.block⟩
theorem not_byte (x y : UInt8) (h : x ≠ y) : ((x.toNat : Int) == (y.toNat : Int)) = false := by
  simpa using fun e => h (UInt8.toNat_inj.1 (by exact_mod_cast e))
theorem extract_one (s : ByteArray) (i : Nat) (h : i < s.size) : s.extract i (i + 1) = ⟨#[s[i]]⟩ := by
  apply ByteArray.ext
  rw [ByteArray.data_extract]
  apply Array.ext
  · have h2 : s.data.size = s.size := rfl
    rw [Array.size_extract, h2, Nat.min_eq_left (by omega)]
    show i + 1 - i = 1
    omega
  · intro j h1 h2
    have : j < 1 := h2
    have : j = 0 := by omega
    subst this
    rw [Array.getElem_extract]
    rfl
theorem escaped_in (F : Fence) (n : Nat) (h : F.fn 99) (hro : F.round = none) (s : ByteArray) (w : World) :
    CallsIn F n Tryd.prog 99 #[.string s] w fun e w' => e = .returned (.func (.func 113) #[] #[.pointer (some ⟨w.heap.size, 0, none⟩)]) ∧ w' = w.alloc (.cells #[.string s] 9) := by
  refine callsIn_of_wp Tryd.func99 rfl h ?_ hro
  simp only [Tryd.ntmps99, List.size_toArray, List.length_cons, List.length_nil, Nat.reduceAdd, Nat.reduceSub, Array.replicate_succ, Array.replicate_zero, List.push_toArray, List.append_toArray, List.nil_append, List.cons_append]
  gi_wp2
  go_ret
  exact ⟨rfl, rfl⟩

set_option maxRecDepth 100000 in
set_option maxHeartbeats 2000000 in
theorem esc1_in (n : Nat) (hn : 1 ≤ n) (lp Bs : Nat) (s : ByteArray) (hs : s.size ≤ 1000000)
    (Kp : World → World → Prop) (hK : ∀ X Y, Kp X Y → Boxed X Bs 9 (.string s) → Boxed Y Bs 9 (.string s)) (J Jx : List UInt8 → World → Prop) (base : Nat) (hJ : AbidesFrom base J)
    (hY : ∀ pre x W, J pre W → pre.length < s.size → YieldAt Fence.wide (n - 1) Tryd.prog lp #[.string (escB x)] W fun e W' =>
      (e = .returned (.bool true) ∧ J (pre ++ [x]) W' ∧ Kp W W') ∨ (e = .returned (.bool false) ∧ Jx (pre ++ [x]) W'))
    (W : World) (hI : Boxed W Bs 9 (.string s)) (h0 : J [] W) :
    CallsIn Fence.wide n Tryd.prog 113 #[.func (.yield lp) #[] #[], .pointer (some ⟨Bs, 0, none⟩)] W fun e W' => (∃ v, e = .returned v) ∧
      ((∃ ys, ys = s.data.toList ∧ J ys W') ∨ (∃ pre, pre <+: s.data.toList ∧ Jx pre W')) := by
  have HJ := Aside0.mk hJ
  clear hJ
  have mixed : Tryd.prog.follows .mixedOrders = true := by kernel_rfl
  refine callsIn_of_wp Tryd.func113 rfl trivial ?_ rfl
  simp only [Tryd.ntmps113, List.size_toArray, List.length_cons, List.length_nil, Nat.reduceAdd, Nat.reduceSub, Array.replicate_succ, Array.replicate_zero, List.push_toArray, List.append_toArray, List.nil_append, List.cons_append]
  have j0 := hI.cell
  gi_wp2
  gi_loopw [8] (fun t wr => ∃ (i : Nat), t = .int .i64 i ∧ i ≤ s.size ∧ J (s.data.toList.take i) wr ∧ Aside0 (Boxed wr Bs 9 (.string s))) (fun t _ => s.size - (intOf t).toNat)
  case atStart => exact ⟨0, rfl, by omega, h0, ⟨hI⟩⟩
  case round =>
    obtain ⟨i, rfl, hi, hJ, HI⟩ := hrel
    have i1 := HI.out.cell
    by_cases hlt : i < s.size
    · have hlt2 : (i : Int) < (s.size : Int) := by omega
      have hpl : (s.data.toList.take i).length < s.size := by rw [List.length_take]; have : s.data.toList.length = s.size := rfl; omega
      have HTK : Aside0 (s.data.toList.take i ++ [s[i]] = s.data.toList.take (i + 1)) := ⟨by
        have hl : i < s.data.toList.length := hlt
        rw [List.take_succ_eq_append_getElem hl]; rfl⟩
      have HPF : Aside0 (s.data.toList.take i ++ [s[i]] <+: s.data.toList) := ⟨HTK.out ▸ List.take_prefix _ _⟩
      have hex : s.extract i (i + 1) = ⟨#[s[i]]⟩ := extract_one s i hlt
      have HEX := Aside0.mk hex
      clear hex
      by_cases h34 : s[i] = 34
      · have HE : Aside0 (escB s[i] = ⟨#[92]⟩ ++ s.extract i (i + 1)) := ⟨by rw [HEX.out, h34]; rfl⟩
        obtain ⟨fn, tmps, assign, body, hy, hR⟩ := hY (s.data.toList.take i) s[i] wr hJ hpl
        rw [HE.out] at hy
        clear hpl
        gi_wp2
        refine hR.mono ?_
        rintro e W3 (⟨rfl, hJ3, hk3⟩ | ⟨rfl, hJx3⟩)
        · have HI3 := Aside0.mk (hK _ _ hk3 HI.out)
          have i3 := HI3.out.cell
          gi_wp2
          go_roundw
          case rel => exact ⟨i + 1, by go_num, by omega, HTK.out ▸ hJ3, HI3⟩
          case measure => simp [intOf]; omega
        · gi_wp2
          refine bodyPost_ret (results_none rfl _ _ _) rfl ?_
          exact ⟨⟨_, rfl⟩, .inr ⟨_, HPF.out, hJx3⟩⟩

      by_cases h92 : s[i] = 92
      · have HE : Aside0 (escB s[i] = ⟨#[92]⟩ ++ s.extract i (i + 1)) := ⟨by rw [HEX.out, h92]; rfl⟩
        obtain ⟨fn, tmps, assign, body, hy, hR⟩ := hY (s.data.toList.take i) s[i] wr hJ hpl
        rw [HE.out] at hy
        clear hpl
        gi_wp2
        refine hR.mono ?_
        rintro e W3 (⟨rfl, hJ3, hk3⟩ | ⟨rfl, hJx3⟩)
        · have HI3 := Aside0.mk (hK _ _ hk3 HI.out)
          have i3 := HI3.out.cell
          gi_wp2
          go_roundw
          case rel => exact ⟨i + 1, by go_num, by omega, HTK.out ▸ hJ3, HI3⟩
          case measure => simp [intOf]; omega
        · gi_wp2
          refine bodyPost_ret (results_none rfl _ _ _) rfl ?_
          exact ⟨⟨_, rfl⟩, .inr ⟨_, HPF.out, hJx3⟩⟩

      have b34 : ((s[i].toNat : Int) == 34) = false := not_byte s[i] 34 h34
      have b92 : ((s[i].toNat : Int) == 92) = false := not_byte s[i] 92 h92
      have H34 := Aside0.mk h34
      have H92 := Aside0.mk h92
      clear h34 h92
      by_cases hlo : ((s[i].toNat : Int) < 32)
      · have d1 : decide ((s[i].toNat : Int) < 32) = true := decide_eq_true hlo
        gi_wp2
        obtain ⟨a, ha⟩ : ∃ a, a = s[i].toNat / 16 := ⟨_, rfl⟩
        obtain ⟨b, hb⟩ : ∃ b, b = s[i].toNat % 16 := ⟨_, rfl⟩
        have hsi : s[i].toNat < 256 := UInt8.toNat_lt _
        have hdiv : ((s[i].toNat : Int) / 16) = (a : Int) := by omega
        have hmod : ((s[i].toNat : Int) % 16) = (b : Int) := by omega
        have hand : bits BinOp.and IntKind.u8 (s[i].toNat : Int) 15 = (b : Int) := (u8_and15 _ (by omega) (by omega)).trans hmod
        have hi1 := hex_ix a (by omega)
        have hc1 := hex_conv a (by omega)
        have hi2 := hex_ix b (by omega)
        have hc2 := hex_conv b (by omega)
        have HE : Aside0 (escB s[i] = ⟨#[92, 120]⟩ ++ ⟨#[hexB a]⟩ ++ ⟨#[hexB b]⟩) := ⟨by
          unfold escB
          rw [if_neg (by rintro (h | h); exact H34.out h; exact H92.out h), if_pos (by omega), ← ha, ← hb]; rfl⟩
        clear ha hb hsi
        gi_quiet (fail)
        clear hdiv hmod hand hi1 hc1 hi2 hc2
        have i9 : (wr.drewN nq).cell? ⟨Bs, 0, none⟩ = some (.string s) := i1
        obtain ⟨fn, tmps, assign, body, hy, hR⟩ := hY (s.data.toList.take i) s[i] (wr.drewN nq) (HJ.out _ wr _ none hJ (drewN_grown (World.grownBy.refl wr none) nq) (by simp)) hpl
        rw [HE.out] at hy
        clear hpl
        gi_wp2
        refine hR.mono ?_
        rintro e W3 (⟨rfl, hJ3, hk3⟩ | ⟨rfl, hJx3⟩)
        · have HI3 := Aside0.mk (hK _ _ hk3 HI.out)
          have i3 := HI3.out.cell
          gi_wp2
          go_roundw
          case rel => exact ⟨i + 1, by go_num, by omega, HTK.out ▸ hJ3, HI3⟩
          case measure => simp [intOf]; omega
        · gi_wp2
          refine bodyPost_ret (results_none rfl _ _ _) rfl ?_
          exact ⟨⟨_, rfl⟩, .inr ⟨_, HPF.out, hJx3⟩⟩
      by_cases hhi : (126 < (s[i].toNat : Int))
      · have d1 : decide ((s[i].toNat : Int) < 32) = false := decide_eq_false hlo
        have d2 : decide (126 < (s[i].toNat : Int)) = true := decide_eq_true hhi
        gi_wp2
        obtain ⟨a, ha⟩ : ∃ a, a = s[i].toNat / 16 := ⟨_, rfl⟩
        obtain ⟨b, hb⟩ : ∃ b, b = s[i].toNat % 16 := ⟨_, rfl⟩
        have hsi : s[i].toNat < 256 := UInt8.toNat_lt _
        have hdiv : ((s[i].toNat : Int) / 16) = (a : Int) := by omega
        have hmod : ((s[i].toNat : Int) % 16) = (b : Int) := by omega
        have hand : bits BinOp.and IntKind.u8 (s[i].toNat : Int) 15 = (b : Int) := (u8_and15 _ (by omega) (by omega)).trans hmod
        have hi1 := hex_ix a (by omega)
        have hc1 := hex_conv a (by omega)
        have hi2 := hex_ix b (by omega)
        have hc2 := hex_conv b (by omega)
        have HE : Aside0 (escB s[i] = ⟨#[92, 120]⟩ ++ ⟨#[hexB a]⟩ ++ ⟨#[hexB b]⟩) := ⟨by
          unfold escB
          rw [if_neg (by rintro (h | h); exact H34.out h; exact H92.out h), if_pos (by omega), ← ha, ← hb]; rfl⟩
        clear ha hb hsi
        gi_quiet (fail)
        clear hdiv hmod hand hi1 hc1 hi2 hc2
        have i9 : (wr.drewN nq).cell? ⟨Bs, 0, none⟩ = some (.string s) := i1
        obtain ⟨fn, tmps, assign, body, hy, hR⟩ := hY (s.data.toList.take i) s[i] (wr.drewN nq) (HJ.out _ wr _ none hJ (drewN_grown (World.grownBy.refl wr none) nq) (by simp)) hpl
        rw [HE.out] at hy
        clear hpl
        gi_wp2
        refine hR.mono ?_
        rintro e W3 (⟨rfl, hJ3, hk3⟩ | ⟨rfl, hJx3⟩)
        · have HI3 := Aside0.mk (hK _ _ hk3 HI.out)
          have i3 := HI3.out.cell
          gi_wp2
          go_roundw
          case rel => exact ⟨i + 1, by go_num, by omega, HTK.out ▸ hJ3, HI3⟩
          case measure => simp [intOf]; omega
        · gi_wp2
          refine bodyPost_ret (results_none rfl _ _ _) rfl ?_
          exact ⟨⟨_, rfl⟩, .inr ⟨_, HPF.out, hJx3⟩⟩
      have d1 : decide ((s[i].toNat : Int) < 32) = false := decide_eq_false hlo
      have d2 : decide (126 < (s[i].toNat : Int)) = false := decide_eq_false hhi
      have HE : Aside0 (escB s[i] = s.extract i (i + 1)) := ⟨by rw [HEX.out]; unfold escB; rw [if_neg (by rintro (h | h); exact H34.out h; exact H92.out h), if_neg (by omega)]⟩
      clear hlo hhi
      obtain ⟨fn, tmps, assign, body, hy, hR⟩ := hY (s.data.toList.take i) s[i] wr hJ hpl
      rw [HE.out] at hy
      clear hpl
      gi_wp2
      refine hR.mono ?_
      rintro e W3 (⟨rfl, hJ3, hk3⟩ | ⟨rfl, hJx3⟩)
      · have HI3 := Aside0.mk (hK _ _ hk3 HI.out)
        have i3 := HI3.out.cell
        gi_wp2
        go_roundw
        case rel => exact ⟨i + 1, by go_num, by omega, HTK.out ▸ hJ3, HI3⟩
        case measure => simp [intOf]; omega
      · gi_wp2
        refine bodyPost_ret (results_none rfl _ _ _) rfl ?_
        exact ⟨⟨_, rfl⟩, .inr ⟨_, HPF.out, hJx3⟩⟩
    · have hlt2 : ¬ ((i : Int) < (s.size : Int)) := by omega
      gi_wp2
      go_end0
      have e : s.data.toList.take i = s.data.toList := List.take_of_length_le (by have : s.data.toList.length = s.size := rfl; omega)
      rw [e] at hJ
      exact ⟨⟨_, rfl⟩, .inl (by first | exact hJ | exact ⟨_, rfl, hJ⟩)⟩
end Go.Proofs.YtibgjfeifpanhaaDoor.B
