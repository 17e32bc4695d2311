/- put of the reference behind its first row. -/
import Derived.Test.YtjpobhdgfdeenaaProg
import Derived.Below
import Derived.Deep.Draws
import Derived.Deep.AppendLies
import Derived.Maps.AppendAt
import Derived.Maps.OwnSet
import Derived.OwnWalk
import Derived.Laws.BytesArg
import Derived.Laws.MakeOwn
import Derived.Laws.OwnMore
import Derived.Deep.OwnRows
import Derived.Tactics
import Derived.Laws.Slices
import Derived.WalkKit
import Derived.KernelRfl
import Derived.RowKit3
import Derived.Deep.LoopGhost
import Derived.Deep.QuietTactic
import Derived.BigQuiet
import Derived.WideLaws
import Derived.Deep.DeepCutAuto
import Derived.Deep.CutBlock
import Derived.Deep.RegionHeld3
import Derived.Laws.Rows
import Derived.ArgAppend
import Derived.Laws.IdiomCopy
import Derived.OrdersHeld
import Derived.Laws.BitsLemmas
import Derived.Outline
import Derived.WalkSpells
import Derived.Lib.Hide
import Derived.RowKit
import Derived.Deep.DeepMust
import Derived.Deep.RegionHeld3
import Derived.Test.YtjpobhdgfdeenaaA19
set_option linter.unusedVariables false
set_option linter.unusedSimpArgs false
namespace Go.Proofs.Ytjpobhdgfdeenaa.A
open Go.RowKit Go.Proofs.YtjpobhdgfdeenaaW.PrintWords Go.Maps

theorem OR_rows {w : World} {base : Nat} {v : Value} {l : List (List Int)} (h : OR w base v l) : ∃ A c, v = .slice A l.length c ∧ l.length ≤ c ∧ ReadsRow (kd3.M w base Tr) 1 w A l.length l := by
  obtain ⟨A, c, e, h1, h2⟩ := OwnRow.reads h.2
  exact ⟨A, c, e, h1, h2.imp_ (Below.refl _ _) (fun x cs hx => kd3.M_mono (fun k hk => hk.1) hx)⟩
theorem OI_kept {X w1 : World} {base : Nat} {v : Value} {xs : List Int} {row : Option Nat} (h : OI X base v xs) (hg : X.grownBy w1 row) (hne : v.ownBlock ≠ row) : OI w1 base v xs :=
  Kd.R_mono (Kd.R_grown (Kd.R_of_own (ok := fun k => some k ≠ row) (Kd.own_of_R h) (fun k hk he => hne (hk.trans he))) hg (fun _ hk => hk)) (fun _ _ => trivial)
theorem OI_keep1 {X w1 : World} {base : Nat} {v : Value} {xs : List Int} {o : Obj} (h : OI X base v xs) (hg : (X.alloc o).grownBy w1 (some X.heap.size)) : OI w1 base v xs :=
  OI_kept (OI_below h (below_alloc (Below.refl _ _) o)) hg (fun e => by have := Kd.R_lt h _ e; omega)
theorem OI_keep2 {X w1 : World} {base p p' z : Nat} {v : Value} {xs : List Int} (h : OI X base v xs) (hat : v.ownBlock = some p ∨ ∃ b, v.ownBlock = some b ∧ z ≤ b) (hg : X.grownBy w1 (some p')) (h1 : p ≠ p') (h2 : p' < z) : OI w1 base v xs :=
  OI_kept h hg (fun e => by
    rcases hat with hat | ⟨b, hb, hle⟩
    · rw [hat] at e; injection e with e; exact h1 e
    · rw [hb] at e; injection e with e; omega)
theorem rows2 {X : World} {base : Nat} {v1 v2 : Value} {x1 x2 : List Int} (h1 : OI X base v1 x1) (h2 : OI X base v2 x2) : ReadsRow (kd3.M (X.alloc (.cells #[v1, v2] 22)) base Tr) 1 (X.alloc (.cells #[v1, v2] 22)) (some ⟨X.heap.size, 0, none⟩) 2 [x1, x2] := by
  have hb : Below X.heap.size X (X.alloc (.cells #[v1, v2] 22)) := below_alloc (Below.refl _ _) _
  have m1 := M_of_OI (OI_below h1 hb)
  have m2 := M_of_OI (OI_below h2 hb)
  have hB : Blk (X.alloc (.cells #[v1, v2] 22)) X.heap.size 22 [v1, v2] := heap_alloc_new X _
  refine ⟨rfl, by decide, fun _ => ⟨_, rfl, fun j p hj => ?_⟩⟩
  have main : ∀ v, kd3.M (X.alloc (.cells #[v1, v2] 22)) base Tr p [v] → [v1, v2][j]? = some v → ∃ cs, cs.length = 1 ∧ kd3.M (X.alloc (.cells #[v1, v2] 22)) base Tr p cs ∧ ∀ (i : Nat) (u : Value), cs[i]? = some u → (X.alloc (.cells #[v1, v2] 22)).cell? ((⟨X.heap.size, 0, none⟩ : Addr).add (j * 1 + i)) = some u := by
    intro v hm hv
    refine ⟨[v], rfl, hm, fun i u hu => ?_⟩
    have hi : i = 0 := by
      have := (List.getElem?_eq_some_iff.1 hu).1
      simpa using this
    subst hi
    simp at hu
    subst hu
    rw [Addr.add_lit, blk_cell hB, Nat.zero_add, Nat.mul_one, Nat.add_zero]
    exact hv
  match j, hj with
  | 0, hj =>
    simp at hj
    subst hj
    exact main v1 m1 rfl
  | 1, hj =>
    simp at hj
    subst hj
    exact main v2 m2 rfl
noncomputable def tail45 : Code := seqAt 5 (Try.f45.body.getD .skip)
theorem copied_part {A : Option Addr} {m c : Nat} {l : List (List Int)} {w : World} (h : Kd.C (Kd.slice 3 (Kd.int .i64)) w A m l) (hs : l.length ≤ 1000000) (hs2 : ∀ x ∈ l, x.length ≤ 1000000) (base : Nat) (hb : base ≤ w.heap.size) :
    Calls Try.prog 63 #[.slice A m c] w fun e w' => ∃ v, e = .returned v ∧ Aside0 (OR w' base v l) ∧ Below w.heap.size w w' := by
  have hm : l.length = m := h.1
  subst hm
  refine (copied_calls A c l w h hs hs2).mono ?_
  rintro e w' ⟨v, rfl, ho, hb'⟩
  exact ⟨v, rfl, ⟨Kd.R_lower ho hb⟩, hb'⟩
set_option maxRecDepth 100000 in
set_option maxHeartbeats 2000000 in
theorem put_tail (b m k : Int) (F c j q : Nat) (ad : Addr) (l : List (List Int)) (row' : List Int) (v3 u15 u16 u17 u18 u19 u20 u21 u22 u23 u24 u25 u26 u27 u28 u29 u30 u31 u32 u33 u34 u35 u36 u37 u38 u39 u40 u41 u42 u43 u44 u45 u46 u47 : Value) (w w3 : World) (HR : Aside0 (Kd.C (Kd.slice 3 (Kd.int .i64)) w (some ad) l.length l)) (hlc : l.length ≤ c) (HO3 : Aside0 (OI w3 w.heap.size v3 row')) (hb3 : Below w.heap.size w w3) (hjl : j < l.length) (hb : 2 ≤ b ∧ b ≤ 50)
    (hr1 : 1 ≤ row'.length) (hr2 : row'.length ≤ 1000001) (hll : l.length ≤ 1000000) (HRL : Aside0 (∀ x ∈ l, x.length ≤ 1000000)) (R : Ending → World → Prop) (hR : ∀ v W', RA W' v (insF b l j row') → Below w.heap.size w W' → R (.returned v) W') :
    tail45.wp Try.prog (bodyPost Try.prog Try.f45 R) { tmps := #[.int .i64 b, .slice (some ad) l.length c, .int .i64 m, .int .i64 k, undef, undef, undef, undef, .slice none 0 0, .int .i64 j, .int .i64 F, .int .i64 q, v3, undef, undef, u15, u16, u17, u18, u19, u20, u21, u22, u23, u24, u25, u26, u27, u28, u29, u30, u31, u32, u33, u34, u35, u36, u37, u38, u39, u40, u41, u42, u43, u44, u45, u46, u47, undef, undef, undef, undef, undef, undef, undef, undef, undef, undef, undef, undef, undef, undef, undef, undef, undef, undef, undef, undef, undef, undef, undef, undef, undef, undef, undef, undef, undef, undef, undef, undef, undef, undef, undef], defers := [] } w3 := by
  have HCP := Aside0.mk (copied_part (c := c) (by have := Kd.C_take (Kd.C_below HR.out hb3) (show j ≤ l.length by omega); rwa [show (l.take j).length = j by rw [List.length_take]; omega] at this) (by rw [List.length_take]; omega) (fun x hx => HRL.out x (List.mem_of_mem_take hx)) w.heap.size hb3.size)
  obtain ⟨A3, c3, e3, hl3, hC3⟩ := OI_reads HO3.out
  have HC3 := Aside0.mk hC3
  clear hC3
  subst e3
  have hj0 : (0 : Int) ≤ (j : Int) := by omega
  have hj1 : (j : Int) < (l.length : Int) := by omega
  have hj2 : (j : Int) ≤ (c : Int) := by omega
  have hj3 : IntKind.i64.wrap ((j : Int) + 1) = (j : Int) + 1 := wrap_small _ (by omega) (by omega)
  have hj4 : (j : Int) + 1 ≤ (l.length : Int) := by omega
  have hj5 : (0 : Int) ≤ (j : Int) + 1 := by omega
  have hj6 : (l.length : Int) ≤ (c : Int) := by omega
  have D1 : Aside0 (c = j + 1 → Kd.C (Kd.slice 3 (Kd.int .i64)) w (some ad) (l.length - (j + 1)) (l.drop (j + 1))) := ⟨fun e => by
    have := Kd.C_drop (c := c) HR.out (show j + 1 ≤ l.length by omega) hlc
    rwa [if_pos e, List.length_drop] at this⟩
  have D2 : Aside0 (c ≠ j + 1 → Kd.C (Kd.slice 3 (Kd.int .i64)) w (some { block := ad.block, off := ad.off + (j + 1) }) (l.length - (j + 1)) (l.drop (j + 1))) := ⟨fun e => by
    have := Kd.C_drop (c := c) HR.out (show j + 1 ≤ l.length by omega) hlc
    rw [if_neg e, List.length_drop, show (j + 1) * (Kd.slice 3 (Kd.int .i64)).sz = j + 1 from Nat.mul_one _] at this
    simpa [Addr.add] using this⟩
  have DD : Aside0 (Kd.C (Kd.slice 3 (Kd.int .i64)) w (if c = j + 1 then some ad else some { block := ad.block, off := ad.off + (j + 1) }) (l.length - (j + 1)) (l.drop (j + 1))) := ⟨by
    split
    · rename_i e; exact D1.out e
    · rename_i e; exact D2.out e⟩
  have hRR := Aside0.mk hR
  clear hR
  have HHB := Aside0.mk hb
  generalize hQ0 : bodyPost Try.prog Try.f45 R = Q0
  simp only [tail45, seqAt, Try.f45, Option.getD]
  by_cases hlen : (row'.length : Int) ≤ b
  · have hlen' : ¬ (b < (row'.length : Int)) := by omega
    have HI := Aside0.mk (show insF b l j row' = l.take j ++ [row'] ++ l.drop (j + 1) by unfold insF; rw [if_pos hlen, List.set_eq_take_append_cons_drop, if_pos hjl]; simp)
    clear hlen
    go_wp2_with (first | (go_at_call 63; (with_reducible refine HCP.out.mono ?_); go_must (rintro e w4 ⟨v4, rfl, HO4, hb4'⟩; have hb4 := hb3.trans (hb4'.mono hb3.size); have HO34 := Aside0.mk (OI_below HO3.out hb4'))) | ((with_reducible refine at_b (b := .append) (xs := #[.tmp 72, .tmp 74]) rfl ?_); go_must (refine Kd.R_append kd3 (w0 := w) (W := w4) w.heap.size rfl (.tmp 72) (.tmp 74) 24 22 (.slice none 0 0) 24 rfl Try.underlying24 infoA22 rfl (by decide) (by omega) v4 (l.take j) row' [.slice A3 row'.length c3] Tr (fun k => Tr k ∧ some k ≠ v4.ownBlock) rfl rfl (M_not_outer HO4.out (M_of_OI HO34.out)) (fun _ h => h) (fun _ _ => trivial) HO4.out hb4 hb4.size ?bL ?_; (case bL => rw [List.length_take]; omega); intro v5 w5 ho5 hb5 hg5 hat5; have HO5 := Aside0.mk ho5; clear ho5 hg5 hat5)) | (go_at_call 63; go_must (refine (copied_part (l := l.drop (j + 1)) ?hC ?hL (fun x hx => HRL.out x (List.mem_of_mem_drop hx)) w.heap.size hb5.size).mono ?_; (case hC => exact Kd.C_below DD.out hb5); (case hL => rw [List.length_drop]; omega); rintro e w6 ⟨v6, rfl, HO6, hb6'⟩; have hb6 := hb5.trans (hb6'.mono hb5.size); have HO56 := Aside0.mk (OR_below HO5.out hb6'); obtain ⟨A6, c6, e6, hl6, hrr6⟩ := OR_rows HO6.out; have HRR6 := Aside0.mk hrr6; clear hrr6; subst e6)) | ((with_reducible refine at_b (b := .append) (xs := #[.tmp 76, .tmp 81]) rfl ?_); go_must (refine Kd.R_append_rows kd3 (w0 := w) w.heap.size rfl (.tmp 76) (.tmp 81) 24 22 (.slice none 0 0) 24 rfl Try.underlying24 infoA22 rfl (by decide) (by omega) v5 (l.take j ++ [row']) (l.drop (j + 1)) _ _ _ Tr (fun k => Tr k ∧ some k ≠ v5.ownBlock) rfl rfl HO56.out (by have h := HRR6.out; rwa [List.length_drop] at h) (fun x cs hx => M_not_outer HO56.out hx) (fun _ h => h) (fun _ _ => trivial) hb6 hb6.size ?bL ?_; (case bL => simp only [List.length_append, List.length_take, List.length_drop, List.length_cons, List.length_nil]; omega); intro v7 w7 ho7 hb7 hg7 hat7; have HO7 := Aside0.mk ho7; clear ho7 hg7 hat7)))
    all_goals
      rw [← hQ0]
      go_ret
      exact hRR.out _ _ (by rw [HI.out]; exact OR_ra HO7.out) hb7
  · have hlen' : b < (row'.length : Int) := by omega
    obtain ⟨N, hN⟩ : ∃ N, N = halfN b := ⟨_, rfl⟩
    have hNi : (b + 2) / 2 = (N : Int) := by rw [hN]; unfold halfN; omega
    have hwb : IntKind.i64.wrap (b + 2) = b + 2 := wrap_small _ (by omega) (by omega)
    have hb20 : 0 ≤ b + 2 := by omega
    have hb21 : b + 2 ≤ 1000 := by omega
    have hN1 : 0 < N := by omega
    have hN2 : N < row'.length := by omega
    have HI := Aside0.mk (show insF b l j row' = l.take j ++ [row'.take N, row'.drop N] ++ l.drop (j + 1) by unfold insF; rw [if_neg hlen, ← hN]; simp)
    clear hlen hN
    go_wp2_with (first | (go_at_call 63; (with_reducible refine HCP.out.mono ?_); go_must (rintro e w4 ⟨v4, rfl, HO4, hb4'⟩; have hb4 := hb3.trans (hb4'.mono hb3.size); have HO34 := Aside0.mk (OI_below HO3.out hb4'))))
    have hn3 : ¬ (c3 = N) := by omega
    have hn4 : (0 : Int) ≤ (N : Int) := by omega
    have hn5 : (N : Int) ≤ (row'.length : Int) := by omega
    have hn6 : (N : Int) ≤ (c3 : Int) := by omega
    have hC34 := OI_reads HO34.out
    have HC4 := Aside0.mk (Kd.C_below HC3.out hb4')
    have HT : Aside0 (Kd.C (Kd.int .i64) w4 A3 N (row'.take N)) := ⟨by
      have := Kd.C_take HC4.out (show N ≤ row'.length by omega)
      rwa [show (row'.take N).length = N by rw [List.length_take]; omega] at this⟩
    have HDp : Aside0 (Kd.C (Kd.int .i64) w4 (A3.map (·.add N)) (row'.length - N) (row'.drop N)) := ⟨by
      have := Kd.C_drop HC4.out (show N ≤ row'.length by omega) hl3
      rwa [if_neg hn3, List.length_drop, show N * (Kd.int .i64).sz = N from Nat.mul_one N] at this⟩
    have hltN : Aside0 ((row'.take N).length = N) := ⟨by rw [List.length_take]; omega⟩
    have hldN : Aside0 ((row'.drop N).length = row'.length - N) := ⟨by rw [List.length_drop]⟩
    have hNew : ∀ X : World, w4.heap.size ≤ X.heap.size → Aside0 (OI (X.alloc (.cells #[] 3)) w4.heap.size (.slice (some ⟨X.heap.size, 0, none⟩) 0 0) []) := fun X hX => ⟨OI_empty hX⟩
    have hN0 : Aside0 (OI (w4.alloc (.cells #[] 3)).drew w4.heap.size (.slice (some ⟨w4.heap.size, 0, none⟩) 0 0) []) := ⟨Kd.R_drew (OI_empty (Nat.le_refl _))⟩
    have hZ0 : Aside0 (OI ((w4.alloc (.cells #[] 3)).alloc (.cells #[] 3)).drew w4.heap.size (.slice (some ⟨w4.heap.size, 0, none⟩) 0 0) []) := ⟨Kd.R_drew (Kd.R_alloc (OI_empty (Nat.le_refl _)) _)⟩
    have hZ1 : Aside0 (OI ((w4.alloc (.cells #[] 3)).alloc (.cells #[] 3)).drew w4.heap.size (.slice (some ⟨w4.heap.size + 1, 0, none⟩) 0 0) []) := ⟨by
      have := OI_empty (w := w4.alloc (.cells #[] 3)) (base := w4.heap.size) (by simp)
      rw [World.size_alloc] at this
      exact Kd.R_drew this⟩
    clear hC34 hwb hb20 hb21
    rw [hNi]
    clear hNi
    go_region_held3 (fun w' => Below w.heap.size w w') (first | exact hb5 | (refine hb4.trans (Below.mono (B := w4.heap.size) ?_ hb4.size); (repeat first | exact Below.refl _ _ | exact HB8.out | exact HB9.out | refine below_drew ?_ | refine below_alloc ?_ _))) (first
      | (refine Kd.R_append_rows_step (Kd.int .i64) (w0 := w4) w4.heap.size (by rfl) (.tmp 60) (.tmp 63) 22 3 (.int .i64 0) 8 rfl Try.underlying22 infoA3 rfl (by decide) (by omega) _ [] (row'.take N) _ _ _ Tr (fun _ => False) rfl rfl ?bO ?bR (fun _ _ h => h) (fun _ h => h.elim) (fun _ _ => trivial) ?bB ?bS ?bL ?_; (case bO => first | exact hN0.out | exact hZ0.out | exact hZ1.out | exact (hNew w9 (by have := HB9.out.size; omega)).out | exact OI_kept hZ0.out HG9.out (by show some w4.heap.size ≠ some (w4.heap.size + 1); simp) | exact OI_kept hZ1.out HG9.out (by show some (w4.heap.size + 1) ≠ some w4.heap.size; simp)); (case bR => refine Kd.C_below HT.out ?_; (repeat first | exact Below.refl _ _ | exact HB8.out | exact HB9.out | refine below_drew ?_ | refine below_alloc ?_ _)); (case bB => (repeat first | exact Below.refl _ _ | exact HB8.out | exact HB9.out | refine below_drew ?_ | refine below_alloc ?_ _)); (case bS => refine Below.size (B := w4.heap.size) (w := w4) ?_; (repeat first | exact Below.refl _ _ | exact HB8.out | exact HB9.out | refine below_drew ?_ | refine below_alloc ?_ _)); (case bL => simp; omega); intro v8 w8 ho8 hb8 hg8 hat8; rw [List.nil_append] at ho8; obtain ⟨A8, c8, e8, _, _⟩ := OI_reads ho8; rw [hltN.out] at e8; subst e8; have HO8 := Aside0.mk ho8; have HB8 := Aside0.mk hb8; have HG8 := Aside0.mk hg8; have HAT8 := Aside0.mk hat8; clear ho8 hb8 hg8 hat8)
      | (refine Kd.R_append_rows_step (Kd.int .i64) (w0 := w4) w4.heap.size (by rfl) (.tmp 65) (.tmp 68) 22 3 (.int .i64 0) 8 rfl Try.underlying22 infoA3 rfl (by decide) (by omega) _ [] (row'.drop N) _ _ _ Tr (fun _ => False) rfl rfl ?bO ?bR (fun _ _ h => h) (fun _ h => h.elim) (fun _ _ => trivial) ?bB ?bS ?bL ?_; (case bO => first | exact hN0.out | exact hZ0.out | exact hZ1.out | exact (hNew w8 (by have := HB8.out.size; omega)).out | exact OI_kept hZ0.out HG8.out (by show some w4.heap.size ≠ some (w4.heap.size + 1); simp) | exact OI_kept hZ1.out HG8.out (by show some (w4.heap.size + 1) ≠ some w4.heap.size; simp)); (case bR => refine Kd.C_below HDp.out ?_; (repeat first | exact Below.refl _ _ | exact HB8.out | exact HB9.out | refine below_drew ?_ | refine below_alloc ?_ _)); (case bB => (repeat first | exact Below.refl _ _ | exact HB8.out | exact HB9.out | refine below_drew ?_ | refine below_alloc ?_ _)); (case bS => refine Below.size (B := w4.heap.size) (w := w4) ?_; (repeat first | exact Below.refl _ _ | exact HB8.out | exact HB9.out | refine below_drew ?_ | refine below_alloc ?_ _)); (case bL => simp; omega); intro v9 w9 ho9 hb9 hg9 hat9; rw [List.nil_append] at ho9; obtain ⟨A9, c9, e9, _, _⟩ := OI_reads ho9; rw [hldN.out] at e9; subst e9; have HO9 := Aside0.mk ho9; have HB9 := Aside0.mk hb9; have HG9 := Aside0.mk hg9; have HAT9 := Aside0.mk hat9; clear ho9 hb9 hg9 hat9)
      | (refine Kd.R_append_rows_step kd3 (w0 := w) w.heap.size (by rfl) (.tmp 59) (.tmp 70) 24 22 (.slice none 0 0) 24 rfl Try.underlying24 infoA22 rfl (by decide) (by omega) v4 (l.take j) [row'.take N, row'.drop N] _ _ _ Tr (fun k => Tr k ∧ some k ≠ v4.ownBlock) rfl rfl (OR_below HO4.out (by (repeat first | exact Below.refl _ _ | exact HB8.out | exact HB9.out | refine below_drew ?_ | refine below_alloc ?_ _))) ?bR (fun x cs hx => M_not_outer (OR_below HO4.out (by (repeat first | exact Below.refl _ _ | exact HB8.out | exact HB9.out | refine below_drew ?_ | refine below_alloc ?_ _))) hx) (fun _ h => h) (fun _ _ => trivial) ?bB ?bS ?bL ?_; (case bR => first | exact rows2 (Kd.R_lower (OI_keep1 HO8.out HG9.out) hb4.size) (Kd.R_lower HO9.out hb4.size) | exact rows2 (Kd.R_lower HO8.out hb4.size) (Kd.R_lower (OI_keep1 HO9.out HG8.out) hb4.size) | exact rows2 (Kd.R_lower (OI_keep2 (p := w4.heap.size) (p' := w4.heap.size + 1) HO8.out HAT8.out HG9.out (by omega) (by simp; try omega)) hb4.size) (Kd.R_lower HO9.out hb4.size) | exact rows2 (Kd.R_lower (OI_keep2 (p := w4.heap.size + 1) (p' := w4.heap.size) HO8.out HAT8.out HG9.out (by omega) (by simp; try omega)) hb4.size) (Kd.R_lower HO9.out hb4.size) | exact rows2 (Kd.R_lower HO8.out hb4.size) (Kd.R_lower (OI_keep2 (p := w4.heap.size) (p' := w4.heap.size + 1) HO9.out HAT9.out HG8.out (by omega) (by simp; try omega)) hb4.size) | exact rows2 (Kd.R_lower HO8.out hb4.size) (Kd.R_lower (OI_keep2 (p := w4.heap.size + 1) (p' := w4.heap.size) HO9.out HAT9.out HG8.out (by omega) (by simp; try omega)) hb4.size)); (case bB => refine hb4.trans (Below.mono (B := w4.heap.size) ?_ hb4.size); (repeat first | exact Below.refl _ _ | exact HB8.out | exact HB9.out | refine below_drew ?_ | refine below_alloc ?_ _)); (case bS => refine Nat.le_trans hb4.size (Below.size (B := w4.heap.size) (w := w4) ?_); (repeat first | exact Below.refl _ _ | exact HB8.out | exact HB9.out | refine below_drew ?_ | refine below_alloc ?_ _)); (case bL => rw [List.length_take]; omega); intro v5 w5 ho5 hb5 hg5 hat5; have HO5 := Aside0.mk ho5; clear ho5 hg5 hat5))
    all_goals go_wp2_with (first | (go_at_call 63; go_must (refine (copied_part (l := l.drop (j + 1)) ?hC ?hL (fun x hx => HRL.out x (List.mem_of_mem_drop hx)) w.heap.size hb5.size).mono ?_; (case hC => exact Kd.C_below DD.out hb5); (case hL => rw [List.length_drop]; omega); rintro e w6 ⟨v6, rfl, HO6, hb6'⟩; have hb6 := hb5.trans (hb6'.mono hb5.size); have HO56 := Aside0.mk (OR_below HO5.out hb6'); obtain ⟨A6, c6, e6, hl6, hrr6⟩ := OR_rows HO6.out; have HRR6 := Aside0.mk hrr6; clear hrr6; subst e6)) | ((with_reducible refine at_b (b := .append) (xs := #[.tmp 76, .tmp 81]) rfl ?_); go_must (refine Kd.R_append_rows kd3 (w0 := w) w.heap.size rfl (.tmp 76) (.tmp 81) 24 22 (.slice none 0 0) 24 rfl Try.underlying24 infoA22 rfl (by decide) (by omega) v5 (l.take j ++ [row'.take N, row'.drop N]) (l.drop (j + 1)) _ _ _ Tr (fun k => Tr k ∧ some k ≠ v5.ownBlock) rfl rfl HO56.out (by have h := HRR6.out; rwa [List.length_drop] at h) (fun x cs hx => M_not_outer HO56.out hx) (fun _ h => h) (fun _ _ => trivial) hb6 hb6.size ?bL ?_; (case bL => simp only [List.length_append, List.length_take, List.length_drop, List.length_cons, List.length_nil]; omega); intro v7 w7 ho7 hb7 hg7 hat7; have HO7 := Aside0.mk ho7; clear ho7 hg7 hat7)))
    all_goals
      rw [← hQ0]
      go_ret
      exact hRR.out _ _ (by rw [HI.out]; exact OR_ra HO7.out) hb7
end Go.Proofs.Ytjpobhdgfdeenaa.A
