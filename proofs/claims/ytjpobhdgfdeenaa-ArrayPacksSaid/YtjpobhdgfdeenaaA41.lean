/- Contracts of functions of package array: what they return, in whatever memory the arguments lie. -/
import Derived.Test.YtjpobhdgfdeenaaProg
import Derived.Below
import Derived.Deep.Draws
import Derived.Deep.AppendLies
import Derived.Maps.AppendAt
import Derived.Maps.OwnSet
import Derived.OwnWalk
import Derived.Laws.BytesArg
import Derived.Laws.MakeOwn
import Derived.Laws.OwnMore
import Derived.Deep.OwnRows
import Derived.Tactics
import Derived.Laws.Slices
import Derived.WalkKit
import Derived.KernelRfl
import Derived.RowKit3
import Derived.Deep.LoopGhost
import Derived.Deep.QuietTactic
import Derived.BigQuiet
import Derived.WideLaws
import Derived.Deep.DeepCutAuto
import Derived.Deep.CutBlock
import Derived.Deep.RegionHeld3
import Derived.Laws.Rows
import Derived.ArgAppend
import Derived.Laws.IdiomCopy
import Derived.OrdersHeld
import Derived.Laws.BitsLemmas
import Derived.Outline
import Derived.WalkSpells
import Derived.Lib.Hide
import Derived.RowKit
import Derived.Deep.DeepMust
import Derived.Test.YtjpobhdgfdeenaaA40
set_option linter.unusedVariables false
set_option linter.unusedSimpArgs false
namespace Go.Proofs.Ytjpobhdgfdeenaa.A
open Go.RowKit Go.Proofs.YtjpobhdgfdeenaaW.PrintWords Go.Maps

set_option maxRecDepth 100000 in
set_option maxHeartbeats 2000000 in
theorem Pack_calls (b n : Int) (A : Option Addr) (c : Nat) (l : List (List Int)) (w : World) (hr : Kd.C (Kd.slice 3 (Kd.int .i64)) w A l.length l) :
    Calls Try.prog 28 #[.int .i64 b, .slice A l.length c, .int .i64 n] w fun e w' => ∃ v, e = .returned (.tuple #[v, .int .i64 (packF b l n).2]) ∧ RA w' v (packF b l n).1 ∧ Below w.heap.size w w' := by
  cases hv : validB b l with
  | false =>
    have HF : Aside0 (packF b l n = ([], 1)) := ⟨by unfold packF; rw [if_neg (by rw [hv]; simp)]⟩
    have HR := Aside0.mk hr
    have HV := Aside0.mk hv
    clear hv hr
    go_enter Try.func28, Try.ntmps28
    go_wp2_with (go_at_call 15; go_must (refine (valid_is HV.out _ _ _ HR.out).mono ?_; rintro e w1 ⟨rfl, hb⟩))
    go_ret2
    exact ⟨_, ret_pair' HF.out, by rw [HF.out]; exact RA_nil _, hb⟩
  | true =>
    by_cases h1 : n < 1
    · have HF' : Aside0 (packF b l n = ([], 7)) := ⟨by unfold packF; rw [if_pos hv, if_pos (.inl h1)]⟩
      have HR := Aside0.mk hr
      have HV := Aside0.mk hv
      clear hv hr
      go_enter Try.func28, Try.ntmps28
      go_wp2_with (go_at_call 15; go_must (refine (valid_is HV.out _ _ _ HR.out).mono ?_; rintro e w1 ⟨rfl, hb⟩))
      go_ret2
      exact ⟨_, ret_pair' HF'.out, by rw [HF'.out]; exact RA_nil _, hb⟩
    · by_cases h2 : b < n
      · have HF' : Aside0 (packF b l n = ([], 7)) := ⟨by unfold packF; rw [if_pos hv, if_pos (.inr h2)]⟩
        have HR := Aside0.mk hr
        have HV := Aside0.mk hv
        clear hv hr
        go_enter Try.func28, Try.ntmps28
        go_wp2_with (go_at_call 15; go_must (refine (valid_is HV.out _ _ _ HR.out).mono ?_; rintro e w1 ⟨rfl, hb⟩))
        go_ret2
        exact ⟨_, ret_pair' HF'.out, by rw [HF'.out]; exact RA_nil _, hb⟩
      · obtain ⟨N, rfl⟩ : ∃ N : Nat, n = N := ⟨n.toNat, by omega⟩
        have HF' : packF b l N = (chunks N l.flatten, 0) := by unfold packF; rw [if_pos hv, if_neg (by omega)]; rfl
        rw [HF']
        exact pack_in b N A c l w hr hv (by omega) (by omega)
theorem chunks_flat (n : Nat) : ∀ (k : Nat) (L : List Int), L.length ≤ k → (chunks n L).flatten = L
  | _, [], _ => by rw [chunks]; rfl
  | k + 1, x :: r, h => by
    rw [chunks, List.flatten_cons, chunks_flat n k _ (by simp at h ⊢; omega), List.cons_append, List.take_append_drop]
theorem chunks_rows (n : Nat) (hn : 1 ≤ n) : ∀ (k : Nat) (L : List Int), L.length ≤ k → ∀ r ∈ chunks n L, r ≠ [] ∧ r.length ≤ n
  | _, [], _ => by rw [chunks]; simp
  | k + 1, x :: t, h => by
    rw [chunks]
    intro r hr
    rcases List.mem_cons.1 hr with rfl | hr
    · refine ⟨by simp, ?_⟩
      rw [List.length_cons, List.length_take]
      omega
    · exact chunks_rows n hn k _ (by simp at h ⊢; omega) r hr
theorem pack_ok {b n : Int} {l : List (List Int)} (h : (packF b l n).2 = 0) : validB b l = true ∧ validB b (packF b l n).1 = true ∧ (packF b l n).1.flatten = l.flatten := by
  unfold packF at h ⊢
  split at h
  · rename_i hv
    split at h
    · cases h
    · rename_i hn
      rw [if_pos hv, if_neg hn]
      have ha := (validB_iff b l).1 hv
      have hf := chunks_flat n.toNat l.flatten.length l.flatten (Nat.le_refl _)
      refine ⟨hv, (validB_iff b _).2 ⟨ha.room, fun r hr => ?_, by rw [hf]; exact ha.nodup, by rw [hf]; exact ha.keys, by rw [hf]; exact ha.few⟩, hf⟩
      have := chunks_rows n.toNat (by omega) l.flatten.length l.flatten (Nat.le_refl _) r hr
      exact ⟨this.1, by omega⟩
  · cases h
end Go.Proofs.Ytjpobhdgfdeenaa.A
