/- Contracts of functions of package array: what they return, in whatever memory the arguments lie. -/
import Derived.Test.YtjpobhdgfdeenaaProg
import Derived.Below
import Derived.Deep.Draws
import Derived.Deep.AppendLies
import Derived.Maps.AppendAt
import Derived.Maps.OwnSet
import Derived.OwnWalk
import Derived.Laws.BytesArg
import Derived.Laws.MakeOwn
import Derived.Laws.OwnMore
import Derived.Deep.OwnRows
import Derived.Tactics
import Derived.Laws.Slices
import Derived.WalkKit
import Derived.KernelRfl
import Derived.RowKit3
import Derived.Deep.LoopGhost
import Derived.Deep.QuietTactic
import Derived.BigQuiet
import Derived.WideLaws
import Derived.Deep.DeepCutAuto
import Derived.Deep.CutBlock
import Derived.Deep.RegionHeld3
import Derived.Laws.Rows
import Derived.ArgAppend
import Derived.Laws.IdiomCopy
import Derived.OrdersHeld
import Derived.Laws.BitsLemmas
import Derived.Outline
import Derived.WalkSpells
import Derived.Lib.Hide
import Derived.RowKit
import Derived.Deep.DeepMust
import Derived.Test.YtjpobhdgfdeenaaA32
import Derived.Test.YtjpobhdgfdeenaaA27
import Derived.Test.YtjpobhdgfdeenaaA26
import Derived.Test.YtjpobhdgfdeenaaP5
namespace Go.Proofs.Ytjpobhdgfdeenaa.A
open Go.RowKit Go.Proofs.YtjpobhdgfdeenaaW.PrintWords Go.Maps

theorem OwnA.ra {w : World} {base : Nat} {v : Value} {l : List (List Int)} (h : OwnA w base v l) : RA w v l := by
  rcases h with ⟨rfl, A0, c0, e0⟩ | ⟨_, vs, h2⟩
  · exact ⟨A0, c0, e0, Nat.zero_le _, rfl, by simp, fun h => absurd h (Nat.lt_irrefl _)⟩
  · exact h2.ra
theorem contains_is {xs : List Int} {x : Int} {r : Bool} (h : decide (x ∈ xs) = r) (A : Option Addr) (c : Nat) (w : World) (hx : Kd.C (Kd.int .i64) w A xs.length xs) :
    Calls Try.prog 58 #[.slice A xs.length c, .int .i64 x] w fun e w' => e = .returned (.bool r) ∧ w = w' := by
  subst h
  exact Contains_calls A c xs x w hx
def putAF (b : Int) (l : List (List Int)) (m k : Int) : List (List Int) × Int :=
  if validB b l = true ∧ keyB k = true then if m < 0 ∨ (l.flatten.length : Int) < m then ([], 7) else if k ∈ l.flatten then ([], 6) else if 500 ≤ l.flatten.length then ([], 4) else (putF b l m k, 0) else ([], 1)
def takeF (b : Int) (l : List (List Int)) (m : Int) : (List (List Int) × Int) × Int :=
  if validB b l = true then if m < 0 ∨ (l.flatten.length : Int) ≤ m then (([], 0), 7) else (remF b l m, 0) else (([], 0), 1)
def shiftF (b : Int) (l : List (List Int)) (f t : Int) : List (List Int) × Int :=
  if validB b l = true then if f < 0 ∨ (l.flatten.length : Int) ≤ f ∨ t < 0 ∨ (l.flatten.length : Int) ≤ t then ([], 7) else (putF b (remF b l f).1 t (remF b l f).2, 0) else ([], 1)
theorem ret_pair' {v : Value} {F : List (List Int) × Int} {x : List (List Int)} {n : Int} (h : F = (x, n)) : Ending.returned (.tuple #[v, .int .i64 n]) = Ending.returned (.tuple #[v, .int .i64 F.2]) := by rw [h]
theorem valid_arr {b : Int} {l : List (List Int)} (h : validB b l = true) : (2 ≤ b ∧ b ≤ 50) ∧ Rows b l ∧ l.flatten.length ≤ 500 ∧ l.length ≤ 500 := by
  have ha := (validB_iff b l).1 h
  have hr : Rows b l := ha.rows
  exact ⟨ha.room, hr, ha.few, Nat.le_trans (rows_len hr) ha.few⟩
set_option maxRecDepth 100000 in
set_option maxHeartbeats 2000000 in
theorem Put_calls (b m k : Int) (A : Option Addr) (c : Nat) (l : List (List Int)) (w : World) (hr : Kd.C (Kd.slice 3 (Kd.int .i64)) w A l.length l) :
    Calls Try.prog 33 #[.int .i64 b, .slice A l.length c, .int .i64 m, .int .i64 k] w fun e w' => ∃ v, e = .returned (.tuple #[v, .int .i64 (putAF b l m k).2]) ∧ RA w' v (putAF b l m k).1 ∧ Below w.heap.size w w' := by
  have HR := Aside0.mk hr
  clear hr
  cases hv : validB b l with
  | false =>
    have HF : Aside0 (putAF b l m k = ([], 1)) := ⟨by unfold putAF; rw [if_neg (by rw [hv]; simp)]⟩
    have HV := Aside0.mk hv
    clear hv
    go_enter Try.func33, Try.ntmps33
    go_wp2_with (go_at_call 15; go_must (refine (valid_is HV.out _ _ _ HR.out).mono ?_; rintro e w1 ⟨rfl, hb⟩))
    go_ret2
    exact ⟨_, ret_pair' HF.out, by rw [HF.out]; exact RA_nil _, hb⟩
  | true =>
    cases hk : keyB k with
    | false =>
      have HF : Aside0 (putAF b l m k = ([], 1)) := ⟨by unfold putAF; rw [if_neg (by rw [hk]; simp)]⟩
      have HV := Aside0.mk hv
      have HK := Aside0.mk hk
      clear hv hk
      go_enter Try.func33, Try.ntmps33
      go_wp2_with (first | (go_at_call 15; go_must (refine (valid_is HV.out _ _ _ HR.out).mono ?_; rintro e w1 ⟨rfl, hb⟩)) | (go_at_call 39; go_must (refine (key_is HK.out _).mono ?_; rintro e w' ⟨rfl, rfl⟩)))
      go_ret2
      exact ⟨_, ret_pair' HF.out, by rw [HF.out]; exact RA_nil _, hb⟩
    | true =>
      obtain ⟨hb2, hrows, hfew, hlen⟩ := valid_arr hv
      have HF : Aside0 (putAF b l m k = if m < 0 ∨ (l.flatten.length : Int) < m then ([], 7) else if k ∈ l.flatten then ([], 6) else if 500 ≤ l.flatten.length then ([], 4) else (putF b l m k, 0)) := ⟨by unfold putAF; rw [if_pos ⟨hv, hk⟩]⟩
      have HLI := fun W h => Aside0.mk (keys_is (b := b) (l := l) A c W (by omega) rfl h)
      have HOW := fun W h => Aside0.mk (owned_calls A c l W h (by omega) (fun x hx => ⟨(hrows x hx).1, by have := (hrows x hx).2; omega⟩))
      have HIN := fun W base v h h1 h2 => Aside0.mk (insert_calls b m k base v l W h hb2 (by omega) (by omega) h1 h2)
      have HV := Aside0.mk hv
      have HK := Aside0.mk hk
      clear hv hk hrows hb2
      have HFL := Aside0.mk (rfl : l.flatten = l.flatten)
      generalize hL : l.flatten = L at HLI hfew HF HIN
      clear HFL hL
      by_cases h1 : m < 0
      · have HF' : Aside0 (putAF b l m k = ([], 7)) := ⟨by rw [HF.out, if_pos (.inl h1)]⟩
        clear HF
        go_enter Try.func33, Try.ntmps33
        go_wp2_with (first | (go_at_call 15; go_must (refine (valid_is HV.out _ _ _ HR.out).mono ?_; rintro e w1 ⟨rfl, hb⟩)) | (go_at_call 39; go_must (refine (key_is HK.out _).mono ?_; rintro e w' ⟨rfl, rfl⟩)) | (go_at_call 46; go_must (refine (HLI _ (Kd.C_below HR.out hb)).out.mono ?_; rintro e w2 ⟨AK, cK, rfl, hCK, hb2⟩; have HCK := Aside0.mk hCK; have hbK := hb.trans (hb2.mono hb.size); clear hCK hb2)))
        go_ret2
        exact ⟨_, ret_pair' HF'.out, by rw [HF'.out]; exact RA_nil _, hbK⟩
      · by_cases h2 : (L.length : Int) < m
        · have HF' : Aside0 (putAF b l m k = ([], 7)) := ⟨by rw [HF.out, if_pos (.inr h2)]⟩
          clear HF
          go_enter Try.func33, Try.ntmps33
          go_wp2_with (first | (go_at_call 15; go_must (refine (valid_is HV.out _ _ _ HR.out).mono ?_; rintro e w1 ⟨rfl, hb⟩)) | (go_at_call 39; go_must (refine (key_is HK.out _).mono ?_; rintro e w' ⟨rfl, rfl⟩)) | (go_at_call 46; go_must (refine (HLI _ (Kd.C_below HR.out hb)).out.mono ?_; rintro e w2 ⟨AK, cK, rfl, hCK, hb2⟩; have HCK := Aside0.mk hCK; have hbK := hb.trans (hb2.mono hb.size); clear hCK hb2)))
          go_ret2
          exact ⟨_, ret_pair' HF'.out, by rw [HF'.out]; exact RA_nil _, hbK⟩
        · have hmm : 0 ≤ m ∧ m ≤ L.length := by omega
          cases hx : decide (k ∈ L) with
          | true =>
            have HX := Aside0.mk hx
            have HF' : Aside0 (putAF b l m k = ([], 6)) := ⟨by rw [HF.out, if_neg (by omega), if_pos (of_decide_eq_true hx)]⟩
            clear HF hx
            go_enter Try.func33, Try.ntmps33
            go_wp2_with (first | (go_at_call 15; go_must (refine (valid_is HV.out _ _ _ HR.out).mono ?_; rintro e w1 ⟨rfl, hb⟩)) | (go_at_call 39; go_must (refine (key_is HK.out _).mono ?_; rintro e w' ⟨rfl, rfl⟩)) | (go_at_call 46; go_must (refine (HLI _ (Kd.C_below HR.out hb)).out.mono ?_; rintro e w2 ⟨AK, cK, rfl, hCK, hb2⟩; have HCK := Aside0.mk hCK; have hbK := hb.trans (hb2.mono hb.size); clear hCK hb2)) | (go_at_call 58; go_must (refine (contains_is HX.out _ _ _ HCK.out).mono ?_; rintro e w' ⟨rfl, rfl⟩)))
            go_ret2
            exact ⟨_, ret_pair' HF'.out, by rw [HF'.out]; exact RA_nil _, hbK⟩
          | false =>
            have HX := Aside0.mk hx
            by_cases h5 : 500 ≤ L.length
            · have HF' : Aside0 (putAF b l m k = ([], 4)) := ⟨by rw [HF.out, if_neg (by omega), if_neg (of_decide_eq_false hx), if_pos h5]⟩
              clear HF hx
              have h5' : (500 : Int) ≤ (L.length : Int) := by omega
              go_enter Try.func33, Try.ntmps33
              go_wp2_with (first | (go_at_call 15; go_must (refine (valid_is HV.out _ _ _ HR.out).mono ?_; rintro e w1 ⟨rfl, hb⟩)) | (go_at_call 39; go_must (refine (key_is HK.out _).mono ?_; rintro e w' ⟨rfl, rfl⟩)) | (go_at_call 46; go_must (refine (HLI _ (Kd.C_below HR.out hb)).out.mono ?_; rintro e w2 ⟨AK, cK, rfl, hCK, hb2⟩; have HCK := Aside0.mk hCK; have hbK := hb.trans (hb2.mono hb.size); clear hCK hb2)) | (go_at_call 58; go_must (refine (contains_is HX.out _ _ _ HCK.out).mono ?_; rintro e w' ⟨rfl, rfl⟩)))
              go_ret2
              exact ⟨_, ret_pair' HF'.out, by rw [HF'.out]; exact RA_nil _, hbK⟩
            · have HF' : Aside0 (putAF b l m k = (putF b l m k, 0)) := ⟨by rw [HF.out, if_neg (by omega), if_neg (of_decide_eq_false hx), if_neg h5]⟩
              clear HF hx
              have h5' : ¬ ((500 : Int) ≤ (L.length : Int)) := by omega
              go_enter Try.func33, Try.ntmps33
              go_wp2_with (first | (go_at_call 15; go_must (refine (valid_is HV.out _ _ _ HR.out).mono ?_; rintro e w1 ⟨rfl, hb⟩)) | (go_at_call 39; go_must (refine (key_is HK.out _).mono ?_; rintro e w' ⟨rfl, rfl⟩)) | (go_at_call 46; go_must (refine (HLI _ (Kd.C_below HR.out hb)).out.mono ?_; rintro e w2 ⟨AK, cK, rfl, hCK, hb2⟩; have HCK := Aside0.mk hCK; have hbK := hb.trans (hb2.mono hb.size); clear hCK hb2)) | (go_at_call 58; go_must (refine (contains_is HX.out _ _ _ HCK.out).mono ?_; rintro e w' ⟨rfl, rfl⟩)) | (go_at_call 57; go_must (refine (HOW _ (Kd.C_below HR.out hbK)).out.mono ?_; rintro e w3 ⟨v3, rfl, ho3, hb3⟩; have HO3 := Aside0.mk ho3; have hbO := hbK.trans (hb3.mono hbK.size); have hs3 := hb3.size; clear ho3 hb3)) | (go_at_call 41; go_must (refine (HIN _ _ _ HO3.out hmm hs3).out.mono ?_; rintro e w4 ⟨v4, vs4, rfl, ho4, hb4⟩; have HO4 := Aside0.mk ho4.ra; have hbP := hbO.trans (hb4.mono hbK.size); clear ho4 hb4)))
              go_ret2
              exact ⟨_, ret_pair' HF'.out, by rw [HF'.out]; exact HO4.out, hbP⟩
end Go.Proofs.Ytjpobhdgfdeenaa.A
