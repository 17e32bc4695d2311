/- The iterator over a list's rows of n: what it hands to a loop's body. -/
import Derived.Test.YtjpobhdgfdeenaaA37
import Derived.RangeFuncNested
import Derived.RangeFuncBound
import Derived.RangeFuncCalls
import Derived.RangeFuncLeaves
import Derived.Shelf.Abstract
import Derived.Shelf.RegionOpen
import Derived.OwnWalkIn
import Derived.TacticsInMore
import Derived.LoopNIn
import Derived.LoopIn
import Derived.RangeFuncBox
import Derived.Sort.QuietIn
import Derived.Test.YtjpobhdgfdeenaaM3
import Derived.Test.YtjpobhdgfdeenaaS13
set_option linter.unusedVariables false
set_option linter.unusedSimpArgs false
namespace Go.Proofs.Ytjpobhdgfdeenaa.A
open Go.RowKit Go.Shelf Go.Proofs.YtjpobhdgfdeenaaW.PrintWords Go.Maps
attribute [local go_sem] Oper.semAt_some

/-- Where a list's rows of n start, from a place on. -/
def chunkP (n : Nat) (L : List Int) : Nat → Nat → List (Fin L.length)
  | 0, _ => []
  | k + 1, i => if h : i < L.length then ⟨i, h⟩ :: chunkP n L k (i + n) else []
theorem chunkP_end (n : Nat) (L : List Int) (k i : Nat) (h : ¬ i < L.length) : chunkP n L k i = [] := by
  cases k with
  | zero => rfl
  | succ k => rw [chunkP, dif_neg h]
abbrev rowC (n : Nat) (L : List Int) (i : Fin L.length) : List Int := (L.drop i).take n
theorem chunkP_map (n : Nat) (hn : 1 ≤ n) (L : List Int) : ∀ (k i : Nat), L.length ≤ k + i → (chunkP n L k i).map (rowC n L) = chunks n (L.drop i)
  | 0, i, h => by rw [chunkP, List.drop_eq_nil_of_le (by omega), chunks]; rfl
  | k + 1, i, h => by
    rw [chunkP]
    by_cases hi : i < L.length
    · rw [dif_pos hi, List.map_cons, chunkP_map n hn L k (i + n) (by omega), chunks_drop n hn L i hi]
    · rw [dif_neg hi, List.drop_eq_nil_of_le (by omega), chunks]; rfl
abbrev encC (ad : Addr) (n : Nat) (L : List Int) (x : Fin L.length) : Value := .slice (some (ad.add x)) (rowC n L x).length (rowC n L x).length
/-- What the iterator reads in every round. -/
def ChInv (Bs Bn : Nat) (A : Option Addr) (n c N : Nat) (W : World) : Prop := W.cell? ⟨Bs, 0, none⟩ = some (.slice A n c) ∧ W.cell? ⟨Bn, 0, none⟩ = some (.int .i64 (N : Int))

set_option maxRecDepth 100000 in
set_option maxHeartbeats 2000000 in
theorem chunk1_in (n : Nat) (hn : 1 ≤ n) (lp Bs Bn : Nat) (A : Option Addr) (ad : Addr) (c N : Nat) (L : List Int) (hA : L ≠ [] → A = some ad) (hlc : L.length ≤ c) (hL : L.length ≤ 500) (hN1 : 1 ≤ N) (hN2 : N ≤ 50)
    (Kp : World → World → Prop) (hK : ∀ X Y, Kp X Y → ChInv Bs Bn A L.length c N X → ChInv Bs Bn A L.length c N Y) (J Jx : List (Fin L.length) → World → Prop) (base : Nat) (hJ : AbidesFrom base J)
    (hY : ∀ pre x W, J pre W → pre.length < L.length → YieldAt Fence.wide (n - 1) Try.prog lp #[encC ad N L x] W fun e W' =>
      (e = .returned (.bool true) ∧ J (pre ++ [x]) W' ∧ Kp W W') ∨ (e = .returned (.bool false) ∧ Jx (pre ++ [x]) W'))
    (W : World) (hI : ChInv Bs Bn A L.length c N W) (h0 : J [] W) :
    CallsIn Fence.wide n Try.prog 66 #[.func (.yield lp) #[] #[], .pointer (some ⟨Bs, 0, none⟩), .pointer (some ⟨Bn, 0, none⟩)] W fun e W' => (∃ v, e = .returned v) ∧
      ((∃ ys, ys = chunkP N L L.length 0 ∧ J ys W') ∨ (∃ pre, pre <+: chunkP N L L.length 0 ∧ Jx pre W')) := by
  have HJ := Aside0.mk hJ
  clear hJ
  have mixed : Try.prog.follows .mixedOrders = true := by kernel_rfl
  refine callsIn_of_wp Try.func66 rfl trivial ?_ rfl
  simp only [Try.ntmps66, List.size_toArray, List.length_cons, List.length_nil, Nat.reduceAdd, Nat.reduceSub, Array.replicate_succ, Array.replicate_zero, List.push_toArray, List.append_toArray, List.nil_append, List.cons_append]
  gi_wp2
  gi_loopw [4] (fun t wr => ∃ (i : Nat) (pre : List (Fin L.length)) (k : Nat), t = .int .i64 i ∧ i ≤ 1000 ∧ Aside0 (L.length ≤ k + i ∧ chunkP N L L.length 0 = pre ++ chunkP N L k i) ∧ Aside0 (pre.length ≤ i) ∧ J pre wr ∧ Aside0 (ChInv Bs Bn A L.length c N wr)) (fun t _ => L.length - (intOf t).toNat)
  case atStart => exact ⟨0, [], L.length, rfl, by omega, ⟨by omega, rfl⟩, ⟨Nat.le_refl _⟩, h0, ⟨hI⟩⟩
  case round =>
    obtain ⟨i, pre, k, rfl, hi, HP, HPL, hJ, HI⟩ := hrel
    obtain ⟨i1, i2⟩ := HI.out
    by_cases hlt : i < L.length
    · have hlt2 : (i : Int) < (L.length : Int) := by omega
      obtain rfl := hA (by rintro rfl; simp at hlt)
      obtain ⟨M, hM⟩ : ∃ M, M = min N (L.length - i) := ⟨_, rfl⟩
      have hmin : min (N : Int) ((L.length : Int) - (i : Int)) = (M : Int) := by omega
      have hmin2 : min (N : Int) ((L.length - i : Nat) : Int) = (M : Int) := by omega
      have hic : i < c := by omega
      have hM1 : (i : Int) + (M : Int) ≤ (c : Int) := by omega
      have hM2 : (i : Int) ≤ (c : Int) := by omega
      have hM3 : 1 ≤ M := by omega
      have hM4 : M ≤ 50 := by omega
      have HM := Aside0.mk hM
      clear hM
      gi_wp2
      gi_quiet (fail)
      have hx2 : ((L.drop i).take N).length = M := by rw [List.length_take, List.length_drop]; have := HM.out; omega
      obtain ⟨k', hk'⟩ : ∃ k', k = k' + 1 := ⟨k - 1, by have := HP.out.1; omega⟩
      have HCD : Aside0 (chunkP N L L.length 0 = pre ++ ⟨i, hlt⟩ :: chunkP N L k' (i + N)) := ⟨by rw [HP.out.2, hk', chunkP, dif_pos hlt]⟩
      have HK1 : Aside0 (L.length ≤ k' + (i + N)) := ⟨by have := HP.out.1; omega⟩
      clear hk' HP
      have hpl : pre.length < L.length := by have := HPL.out; omega
      obtain ⟨fn, tmps, assign, body, hy, hR⟩ := hY pre ⟨i, hlt⟩ (wr.drewN nq) (HJ.out pre wr _ none hJ (drewN_grown (World.grownBy.refl wr none) nq) (by simp)) hpl
      dsimp only [encC, rowC] at hy
      rw [hx2] at hy
      have HI2 : Aside0 (ChInv Bs Bn (some ad) L.length c N (wr.drewN nq)) := ⟨HI.out⟩
      have j1 : (wr.drewN nq).cell? ⟨Bs, 0, none⟩ = some (.slice (some ad) L.length c) := i1
      clear hpl hx2 hmin hmin2
      gi_wp2
      refine hR.mono ?_
      rintro e W3 (⟨rfl, hJ3, hk3⟩ | ⟨rfl, hJx3⟩)
      · have HI3 := Aside0.mk (hK _ _ hk3 HI2.out)
        obtain ⟨m1, m2⟩ := HI3.out
        gi_wp2
        go_roundw
        case rel => exact ⟨i + N, pre ++ [⟨i, hlt⟩], k', by go_num, by omega, ⟨HK1.out, by rw [HCD.out]; simp⟩, ⟨by have := HPL.out; simp; omega⟩, hJ3, HI3⟩
        case measure => simp [intOf]; omega
      · gi_wp2
        refine bodyPost_ret (results_none rfl _ _ _) rfl ?_
        exact ⟨⟨_, rfl⟩, .inr ⟨_, ⟨chunkP N L k' (i + N), by rw [HCD.out]; simp⟩, hJx3⟩⟩
    · have hlt2 : ¬ ((i : Int) < (L.length : Int)) := by omega
      gi_wp2
      go_end0
      exact ⟨⟨_, rfl⟩, .inl (by rw [show chunkP N L L.length 0 = pre by rw [HP.out.2, chunkP_end N L k i hlt]; simp]; exact hJ)⟩
end Go.Proofs.Ytjpobhdgfdeenaa.A
