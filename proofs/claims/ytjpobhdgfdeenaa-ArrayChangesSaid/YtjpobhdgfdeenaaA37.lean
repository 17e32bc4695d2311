/- Contracts of functions of package array: what they return, in whatever memory the arguments lie. -/
import Derived.Test.YtjpobhdgfdeenaaProg
import Derived.Below
import Derived.Deep.Draws
import Derived.Deep.AppendLies
import Derived.Maps.AppendAt
import Derived.Maps.OwnSet
import Derived.OwnWalk
import Derived.Laws.BytesArg
import Derived.Laws.MakeOwn
import Derived.Laws.OwnMore
import Derived.Deep.OwnRows
import Derived.Tactics
import Derived.Laws.Slices
import Derived.WalkKit
import Derived.KernelRfl
import Derived.RowKit3
import Derived.Deep.LoopGhost
import Derived.Deep.QuietTactic
import Derived.BigQuiet
import Derived.WideLaws
import Derived.Deep.DeepCutAuto
import Derived.Deep.CutBlock
import Derived.Deep.RegionHeld3
import Derived.Laws.Rows
import Derived.ArgAppend
import Derived.Laws.IdiomCopy
import Derived.OrdersHeld
import Derived.Laws.BitsLemmas
import Derived.Outline
import Derived.WalkSpells
import Derived.Lib.Hide
import Derived.RowKit
import Derived.Deep.DeepMust
import Derived.Test.YtjpobhdgfdeenaaA36
set_option linter.unusedVariables false
set_option linter.unusedSimpArgs false
namespace Go.Proofs.Ytjpobhdgfdeenaa.A
open Go.RowKit Go.Proofs.YtjpobhdgfdeenaaW.PrintWords Go.Maps

/-- A list in rows of n. -/
def chunks (n : Nat) : List Int → List (List Int)
  | [] => []
  | x :: r => (x :: r.take (n - 1)) :: chunks n (r.drop (n - 1))
termination_by l => l.length
decreasing_by simp; omega
theorem chunks_drop (n : Nat) (hn : 1 ≤ n) (L : List Int) (i : Nat) (h : i < L.length) : chunks n (L.drop i) = (L.drop i).take n :: chunks n (L.drop (i + n)) := by
  obtain ⟨m, rfl⟩ : ∃ m, n = m + 1 := ⟨n - 1, by omega⟩
  rw [List.drop_eq_getElem_cons h, chunks, Nat.add_sub_cancel, List.take_succ_cons, List.drop_drop, Nat.add_right_comm, Nat.add_assoc i m 1]
theorem rkeys2_is {b : Int} {l : List (List Int)} {r : Bool} {E : Int} {L : List Int} (h : validB b l = r) (hE : okE r = E) (hL : keysF b l = L) (A : Option Addr) (c : Nat) (w : World) (hr : Kd.C (Kd.slice 3 (Kd.int .i64)) w A l.length l) :
    Calls Try.prog 20 #[.int .i64 b, .slice A l.length c] w fun e w' => ∃ A' c', e = .returned (.tuple #[.slice A' L.length c', .int .i64 E]) ∧ L.length ≤ c' ∧ Aside0 (Kd.C (Kd.int .i64) w' A' L.length L) ∧ Below w.heap.size w w' := by
  subst h hE hL
  refine (rKeys_calls b A c l w hr).mono ?_
  rintro e w' ⟨v, rfl, ho, hb⟩
  obtain ⟨A', c', rfl, hlc, hC⟩ := OI_reads ho
  exact ⟨A', c', rfl, hlc, ⟨hC⟩, hb⟩
def packF (b : Int) (l : List (List Int)) (n : Int) : List (List Int) × Int := if validB b l = true then if n < 1 ∨ b < n then ([], 7) else (chunks n.toNat l.flatten, 0) else ([], 1)
set_option maxRecDepth 100000 in
set_option maxHeartbeats 2000000 in
theorem rPack_calls (b n : Int) (A : Option Addr) (c : Nat) (l : List (List Int)) (w : World) (hr : Kd.C (Kd.slice 3 (Kd.int .i64)) w A l.length l) :
    Calls Try.prog 29 #[.int .i64 b, .slice A l.length c, .int .i64 n] w fun e w' => ∃ v, e = .returned (.tuple #[v, .int .i64 (packF b l n).2]) ∧ RA w' v (packF b l n).1 ∧ Below w.heap.size w w' := by
  have HR := Aside0.mk hr
  clear hr
  cases hv : validB b l with
  | false =>
    have HF : Aside0 (packF b l n = ([], 1)) := ⟨by unfold packF; rw [if_neg (by rw [hv]; simp)]⟩
    have hk : keysF b l = [] := by unfold keysF; rw [if_neg (by rw [hv]; simp)]
    have HK := fun W h => Aside0.mk (rkeys2_is hv (E := 1) rfl hk A c W h)
    clear hv hk
    go_enter Try.func29, Try.ntmps29
    go_wp2_with (go_at_call 20; go_must (refine (HK _ HR.out).out.mono ?_; rintro e w1 ⟨v1, c1, rfl, hlc, HC1, hb⟩))
    go_ret2
    exact ⟨_, ret_pair' HF.out, by rw [HF.out]; exact RA_nil _, hb⟩
  | true =>
    obtain ⟨hb2, hrows, hfew, hlen⟩ := valid_arr hv
    have HF : Aside0 (packF b l n = if n < 1 ∨ b < n then ([], 7) else (chunks n.toNat l.flatten, 0)) := ⟨by unfold packF; rw [if_pos hv]⟩
    have hk : keysF b l = l.flatten := by unfold keysF; rw [if_pos hv]
    have HK := fun W h => Aside0.mk (rkeys2_is hv (E := 0) rfl hk A c W h)
    have hb50 := hb2.2
    clear hv hk hrows hb2
    generalize l.flatten = L at HK hfew HF
    by_cases h1 : n < 1
    · have HF' : Aside0 (packF b l n = ([], 7)) := ⟨by rw [HF.out, if_pos (.inl h1)]⟩
      clear HF
      go_enter Try.func29, Try.ntmps29
      go_wp2_with (go_at_call 20; go_must (refine (HK _ HR.out).out.mono ?_; rintro e w1 ⟨v1, c1, rfl, hlc, HC1, hb⟩))
      go_ret2
      exact ⟨_, ret_pair' HF'.out, by rw [HF'.out]; exact RA_nil _, hb⟩
    · by_cases h2 : b < n
      · have HF' : Aside0 (packF b l n = ([], 7)) := ⟨by rw [HF.out, if_pos (.inr h2)]⟩
        clear HF
        go_enter Try.func29, Try.ntmps29
        go_wp2_with (go_at_call 20; go_must (refine (HK _ HR.out).out.mono ?_; rintro e w1 ⟨v1, c1, rfl, hlc, HC1, hb⟩))
        go_ret2
        exact ⟨_, ret_pair' HF'.out, by rw [HF'.out]; exact RA_nil _, hb⟩
      · obtain ⟨N, rfl⟩ : ∃ N : Nat, n = N := ⟨n.toNat, by omega⟩
        have HF' : Aside0 (packF b l N = (chunks N L, 0)) := ⟨by rw [HF.out, if_neg (by omega)]; rfl⟩
        have hN1 : 1 ≤ N := by omega
        have hN2 : N ≤ 50 := by omega
        clear HF
        go_enter Try.func29, Try.ntmps29
        go_wp2_with (go_at_call 20; go_must (refine (HK _ HR.out).out.mono ?_; rintro e w1 ⟨v1, c1, rfl, hlc, HC1, hb⟩))
        go_loopg [10, 11] L.length (fun g v10 v11 wr => ∃ (i : Nat) (acc : List (List Int)), g = L.length - i ∧ v11 = .int .i64 i ∧ i ≤ 1000 ∧ acc.length ≤ i ∧ Aside0 (chunks N L = acc ++ chunks N (L.drop i)) ∧ Aside0 (OR wr w1.heap.size v10 acc) ∧ Below w1.heap.size w1 wr)
        case atStart => exact ⟨0, [], rfl, rfl, by omega, by simp, ⟨rfl⟩, ⟨Kd.R_nil _ _ _ _ _⟩, Below.refl _ _⟩
        case round =>
          obtain ⟨i, acc, hg, rfl, hi, hal, HT, HO, hbel⟩ := hrel
          have HG := Aside0.mk hg
          clear hg
          by_cases hlt : i < L.length
          · have hlt2 : (i : Int) < (L.length : Int) := by omega
            obtain ⟨ad, x, hA, _, _⟩ := C_int HC1.out i hlt
            subst hA
            obtain ⟨M, hM⟩ : ∃ M, M = min (i + N) L.length := ⟨_, rfl⟩
            have hmin : min ((i : Int) + (N : Int)) (L.length : Int) = (M : Int) := by omega
            have hM1 : (i : Int) ≤ (M : Int) := by omega
            have hM2 : (M : Int) ≤ (L.length : Int) := by omega
            have hM3 : (M : Int) ≤ (c1 : Int) := by omega
            have hic : i < c1 := by omega
            have HRow : Aside0 (Kd.C (Kd.int .i64) wr (some (ad.add i)) (M - i) ((L.drop i).take N)) := ⟨by
              have h1 := Kd.C_drop HC1.out (show i ≤ L.length by omega) hlc
              rw [if_neg (by omega), show i * (Kd.int .i64).sz = i from Nat.mul_one i] at h1
              have h2 := Kd.C_take h1 (m := M - i) (by rw [List.length_drop]; omega)
              have e1 : ((L.drop i).take (M - i)).length = M - i := by rw [List.length_take, List.length_drop]; omega
              have e2 : (L.drop i).take (M - i) = (L.drop i).take N := by
                by_cases h3 : i + N ≤ L.length
                · rw [show M - i = N by omega]
                · rw [List.take_of_length_le (by rw [List.length_drop]; omega), List.take_of_length_le (by rw [List.length_drop]; omega)]
              rw [e1, e2] at h2
              exact Kd.C_below h2 hbel⟩
            have hbel2 := hbel
            have HL2 : Aside0 (i + N ≤ 1000 ∧ L.length - (i + N) < L.length - i) := ⟨by omega⟩
            have hsz := hbel2.size
            have hacc : acc.length + 1 ≤ 1001 := by omega
            have HL3 : Aside0 (M - i ≤ 500) := ⟨by omega⟩
            have HCD := Aside0.mk (chunks_drop N hN1 L i hlt)
            clear hM
            generalize (L.drop i).take N = row at HRow HCD
            go_wp2_with (first | ((with_reducible refine at_b (b := .append) (xs := #[.tmp 38, .tmp 47]) rfl ?_); at_builtin; refine Kd.R_append_rows (Kd.int .i64) (w0 := wr) wr.heap.size rfl (.tmp 38) (.tmp 47) 22 3 (.int .i64 0) 8 rfl Try.underlying22 infoA3 rfl (by decide) (by omega) _ [] row _ _ _ Tr (fun _ => False) rfl rfl (OI_empty (Nat.le_refl _)) (Kd.C_below HRow.out (below_alloc (Below.refl _ _) _)) (fun _ _ h => h) (fun _ h => h.elim) (fun _ _ => trivial) (below_alloc (Below.refl _ _) _) (by simp) ?aL ?_; (case aL => have := HL3.out; simp; omega); intro v2 w2 ho hb1 hg1 hat1; have HI := Aside0.mk ho; clear ho hg1 hat1; obtain ⟨A2, c2, e2, _⟩ := OI_reads HI.out; subst e2) | ((with_reducible refine at_b (b := .append) (xs := #[.tmp 37, .tmp 49]) rfl ?_); refine Kd.R_append kd3 (w0 := w1) (W := w2) w1.heap.size rfl (.tmp 37) (.tmp 49) 24 22 (.slice none 0 0) 24 rfl Try.underlying24 infoA22 rfl (by decide) (by omega) u10 acc row [.slice A2 row.length c2] Tr (fun k => Tr k ∧ some k ≠ u10.ownBlock) rfl rfl ?bP (fun _ h => h) (fun _ _ => trivial) ?bO ?bB ?bS ?bL ?_; (case bO => exact (OR_below HO.out hb1)); (case bP => exact (M_not_outer (OR_below HO.out hb1) (kd3.M_lower hsz (M_of_OI HI.out)))); (case bB => exact below_step hbel2 hb1); (case bS => exact Nat.le_trans hsz hb1.size); (case bL => omega); intro v3 w3 ho3 hb3 hg3 hat3; have HO3 := Aside0.mk ho3; clear ho3 hg3 hat3))
            go_roundg (L.length - (i + N))
            case measure => have := HG.out; have := HL2.out.2; omega
            case rel => exact ⟨i + N, acc ++ [row], rfl, by go_num, HL2.out.1, by simp; omega, ⟨by rw [HT.out, HCD.out, List.append_assoc]; rfl⟩, HO3, hb3⟩
          · have hlt2 : ¬ ((i : Int) < (L.length : Int)) := by omega
            go_wp2
            go_ret2
            refine ⟨_, ret_pair' HF'.out, ?_, hb.trans (hbel.mono hb.size)⟩
            rw [HF'.out]
            have h := HT.out
            rw [List.drop_eq_nil_of_le (by omega), chunks, List.append_nil] at h
            show RA wr _ (chunks N L)
            rw [h]
            exact OR_ra HO.out
end Go.Proofs.Ytjpobhdgfdeenaa.A
