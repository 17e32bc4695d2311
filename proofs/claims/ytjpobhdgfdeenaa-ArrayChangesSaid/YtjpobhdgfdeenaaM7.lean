/- put of the reference. -/
import Derived.Below
import Derived.Deep.Draws
import Derived.Deep.AppendLies
import Derived.Maps.AppendAt
import Derived.Maps.OwnSet
import Derived.OwnWalk
import Derived.Laws.BytesArg
import Derived.Laws.MakeOwn
import Derived.Laws.OwnMore
import Derived.Deep.OwnRows
import Derived.Tactics
import Derived.Laws.Slices
import Derived.WalkKit
import Derived.KernelRfl
import Derived.RowKit3
import Derived.Deep.LoopGhost
import Derived.Deep.QuietTactic
import Derived.BigQuiet
import Derived.WideLaws
import Derived.Deep.DeepCutAuto
import Derived.Deep.CutBlock
import Derived.Deep.RegionHeld3
import Derived.Laws.Rows
import Derived.ArgAppend
import Derived.Laws.IdiomCopy
import Derived.OrdersHeld
import Derived.Laws.BitsLemmas
import Derived.Outline
import Derived.WalkSpells
import Derived.Lib.Hide
import Derived.RowKit
import Derived.Deep.DeepMust
import Derived.Test.YtjpobhdgfdeenaaProg
import Derived.Test.YtjpobhdgfdeenaaM6
set_option linter.unusedVariables false
set_option linter.unusedSimpArgs false
namespace Go.Proofs.Ytjpobhdgfdeenaa.A
open Go.RowKit Go.Proofs.YtjpobhdgfdeenaaW.PrintWords Go.Maps

theorem OR_ra {w : World} {base : Nat} {v : Value} {l : List (List Int)} (h : OR w base v l) : RA w v l := OR_reads h
theorem OI_ri {w : World} {base : Nat} {v : Value} {l : List Int} (h : OI w base v l) : RI w v l := OI_reads h
set_option maxRecDepth 100000 in
theorem put_nil (b m k : Int) (A : Option Addr) (c : Nat) (w : World) :
    Calls Try.prog 45 #[.int .i64 b, .slice A 0 c, .int .i64 m, .int .i64 k] w fun e w' => ∃ v, e = .returned v ∧ RA w' v [[k]] ∧ Below w.heap.size w w' := by
  go_enter Try.func45, Try.ntmps45
  go_wp2
  go_ret
  refine ⟨_, rfl, ?_, below_alloc (below_alloc (Below.refl _ _) _) _⟩
  have h1 : OwnS (w.alloc (.cells #[.int .i64 k] 3)) w.heap.size 3 (.slice (some ⟨w.heap.size, 0, none⟩) 1 1) (ints [k]) := OwnS_new w 3 [.int .i64 k] (by simp) (by simp) (by simp [Value.oneCell'])
  have h2 := OwnS_new (w.alloc (.cells #[.int .i64 k] 3)) 22 [.slice (some ⟨w.heap.size, 0, none⟩) 1 1] (by simp) (by simp) (by simp [Value.oneCell'])
  rw [World.size_alloc] at h2
  have h3 : Own2 ((w.alloc (.cells #[.int .i64 k] 3)).alloc (.cells #[.slice (some ⟨w.heap.size, 0, none⟩) 1 1] 22)) w.heap.size (.slice (some ⟨w.heap.size + 1, 0, none⟩) 1 1) [.slice (some ⟨w.heap.size, 0, none⟩) 1 1] [[k]] :=
    ⟨h2.low (by omega), ⟨h1.kept (grown_of_below (below_alloc (Below.refl _ _) _) none) (by simp [Value.ownBlock]), trivial⟩, by simp⟩
  exact h3.ra
theorem OwnS.C1 {w : World} {base g : Nat} {k : Int} (h : OwnS w base 3 (.slice (some ⟨g, 0, none⟩) 1 1) (ints [k])) : Kd.C (Kd.int .i64) w (some ⟨g, 0, none⟩) 1 [k] := by
  obtain ⟨g1, c1, e, _, hC⟩ := h.ints_read
  injection e with e _ _
  rw [e]
  exact hC
end Go.Proofs.Ytjpobhdgfdeenaa.A

/- put of the reference behind its first row. -/
set_option linter.unusedVariables false
set_option linter.unusedSimpArgs false
namespace Go.Proofs.Ytjpobhdgfdeenaa.A
open Go.RowKit Go.Proofs.YtjpobhdgfdeenaaW.PrintWords Go.Maps

theorem OR_rows {w : World} {base : Nat} {v : Value} {l : List (List Int)} (h : OR w base v l) : ∃ A c, v = .slice A l.length c ∧ l.length ≤ c ∧ ReadsRow (kd3.M w base Tr) 1 w A l.length l := by
  obtain ⟨A, c, e, h1, h2⟩ := OwnRow.reads h.2
  exact ⟨A, c, e, h1, h2.imp_ (Below.refl _ _) (fun x cs hx => kd3.M_mono (fun k hk => hk.1) hx)⟩
theorem OI_kept {X w1 : World} {base : Nat} {v : Value} {xs : List Int} {row : Option Nat} (h : OI X base v xs) (hg : X.grownBy w1 row) (hne : v.ownBlock ≠ row) : OI w1 base v xs :=
  Kd.R_mono (Kd.R_grown (Kd.R_of_own (ok := fun k => some k ≠ row) (Kd.own_of_R h) (fun k hk he => hne (hk.trans he))) hg (fun _ hk => hk)) (fun _ _ => trivial)
theorem OI_keep1 {X w1 : World} {base : Nat} {v : Value} {xs : List Int} {o : Obj} (h : OI X base v xs) (hg : (X.alloc o).grownBy w1 (some X.heap.size)) : OI w1 base v xs :=
  OI_kept (OI_below h (below_alloc (Below.refl _ _) o)) hg (fun e => by have := Kd.R_lt h _ e; omega)
theorem OI_keep2 {X w1 : World} {base p p' z : Nat} {v : Value} {xs : List Int} (h : OI X base v xs) (hat : v.ownBlock = some p ∨ ∃ b, v.ownBlock = some b ∧ z ≤ b) (hg : X.grownBy w1 (some p')) (h1 : p ≠ p') (h2 : p' < z) : OI w1 base v xs :=
  OI_kept h hg (fun e => by
    rcases hat with hat | ⟨b, hb, hle⟩
    · rw [hat] at e; injection e with e; exact h1 e
    · rw [hb] at e; injection e with e; omega)
theorem rows2 {X : World} {base : Nat} {v1 v2 : Value} {x1 x2 : List Int} (h1 : OI X base v1 x1) (h2 : OI X base v2 x2) : ReadsRow (kd3.M (X.alloc (.cells #[v1, v2] 22)) base Tr) 1 (X.alloc (.cells #[v1, v2] 22)) (some ⟨X.heap.size, 0, none⟩) 2 [x1, x2] := by
  have hb : Below X.heap.size X (X.alloc (.cells #[v1, v2] 22)) := below_alloc (Below.refl _ _) _
  have m1 := M_of_OI (OI_below h1 hb)
  have m2 := M_of_OI (OI_below h2 hb)
  have hB : Blk (X.alloc (.cells #[v1, v2] 22)) X.heap.size 22 [v1, v2] := heap_alloc_new X _
  refine ⟨rfl, by decide, fun _ => ⟨_, rfl, fun j p hj => ?_⟩⟩
  have main : ∀ v, kd3.M (X.alloc (.cells #[v1, v2] 22)) base Tr p [v] → [v1, v2][j]? = some v → ∃ cs, cs.length = 1 ∧ kd3.M (X.alloc (.cells #[v1, v2] 22)) base Tr p cs ∧ ∀ (i : Nat) (u : Value), cs[i]? = some u → (X.alloc (.cells #[v1, v2] 22)).cell? ((⟨X.heap.size, 0, none⟩ : Addr).add (j * 1 + i)) = some u := by
    intro v hm hv
    refine ⟨[v], rfl, hm, fun i u hu => ?_⟩
    have hi : i = 0 := by
      have := (List.getElem?_eq_some_iff.1 hu).1
      simpa using this
    subst hi
    simp at hu
    subst hu
    rw [Addr.add_lit, blk_cell hB, Nat.zero_add, Nat.mul_one, Nat.add_zero]
    exact hv
  match j, hj with
  | 0, hj =>
    simp at hj
    subst hj
    exact main v1 m1 rfl
  | 1, hj =>
    simp at hj
    subst hj
    exact main v2 m2 rfl
noncomputable def tail45 : Code := seqAt 5 (Try.f45.body.getD .skip)
theorem copied_part {A : Option Addr} {m c : Nat} {l : List (List Int)} {w : World} (h : Kd.C (Kd.slice 3 (Kd.int .i64)) w A m l) (hs : l.length ≤ 1000000) (hs2 : ∀ x ∈ l, x.length ≤ 1000000) (base : Nat) (hb : base ≤ w.heap.size) :
    Calls Try.prog 63 #[.slice A m c] w fun e w' => ∃ v, e = .returned v ∧ Aside0 (OR w' base v l) ∧ Below w.heap.size w w' := by
  have hm : l.length = m := h.1
  subst hm
  refine (copied_calls A c l w h hs hs2).mono ?_
  rintro e w' ⟨v, rfl, ho, hb'⟩
  exact ⟨v, rfl, ⟨Kd.R_lower ho hb⟩, hb'⟩
set_option maxRecDepth 100000 in
set_option maxHeartbeats 2000000 in
theorem put_tail (b m k : Int) (F c j q : Nat) (ad : Addr) (l : List (List Int)) (row' : List Int) (v3 u15 u16 u17 u18 u19 u20 u21 u22 u23 u24 u25 u26 u27 u28 u29 u30 u31 u32 u33 u34 u35 u36 u37 u38 u39 u40 u41 u42 u43 u44 u45 u46 u47 : Value) (w w3 : World) (HR : Aside0 (Kd.C (Kd.slice 3 (Kd.int .i64)) w (some ad) l.length l)) (hlc : l.length ≤ c) (HO3 : Aside0 (OI w3 w.heap.size v3 row')) (hb3 : Below w.heap.size w w3) (hjl : j < l.length) (hb : 2 ≤ b ∧ b ≤ 50)
    (hr1 : 1 ≤ row'.length) (hr2 : row'.length ≤ 1000001) (hll : l.length ≤ 1000000) (HRL : Aside0 (∀ x ∈ l, x.length ≤ 1000000)) (R : Ending → World → Prop) (hR : ∀ v W', RA W' v (insF b l j row') → Below w.heap.size w W' → R (.returned v) W') :
    tail45.wp Try.prog (bodyPost Try.prog Try.f45 R) { tmps := #[.int .i64 b, .slice (some ad) l.length c, .int .i64 m, .int .i64 k, undef, undef, undef, undef, .slice none 0 0, .int .i64 j, .int .i64 F, .int .i64 q, v3, undef, undef, u15, u16, u17, u18, u19, u20, u21, u22, u23, u24, u25, u26, u27, u28, u29, u30, u31, u32, u33, u34, u35, u36, u37, u38, u39, u40, u41, u42, u43, u44, u45, u46, u47, undef, undef, undef, undef, undef, undef, undef, undef, undef, undef, undef, undef, undef, undef, undef, undef, undef, undef, undef, undef, undef, undef, undef, undef, undef, undef, undef, undef, undef, undef, undef, undef, undef, undef, undef], defers := [] } w3 := by
  have HCP := Aside0.mk (copied_part (c := c) (by have := Kd.C_take (Kd.C_below HR.out hb3) (show j ≤ l.length by omega); rwa [show (l.take j).length = j by rw [List.length_take]; omega] at this) (by rw [List.length_take]; omega) (fun x hx => HRL.out x (List.mem_of_mem_take hx)) w.heap.size hb3.size)
  obtain ⟨A3, c3, e3, hl3, hC3⟩ := OI_reads HO3.out
  have HC3 := Aside0.mk hC3
  clear hC3
  subst e3
  have hj0 : (0 : Int) ≤ (j : Int) := by omega
  have hj1 : (j : Int) < (l.length : Int) := by omega
  have hj2 : (j : Int) ≤ (c : Int) := by omega
  have hj3 : IntKind.i64.wrap ((j : Int) + 1) = (j : Int) + 1 := wrap_small _ (by omega) (by omega)
  have hj4 : (j : Int) + 1 ≤ (l.length : Int) := by omega
  have hj5 : (0 : Int) ≤ (j : Int) + 1 := by omega
  have hj6 : (l.length : Int) ≤ (c : Int) := by omega
  have D1 : Aside0 (c = j + 1 → Kd.C (Kd.slice 3 (Kd.int .i64)) w (some ad) (l.length - (j + 1)) (l.drop (j + 1))) := ⟨fun e => by
    have := Kd.C_drop (c := c) HR.out (show j + 1 ≤ l.length by omega) hlc
    rwa [if_pos e, List.length_drop] at this⟩
  have D2 : Aside0 (c ≠ j + 1 → Kd.C (Kd.slice 3 (Kd.int .i64)) w (some { block := ad.block, off := ad.off + (j + 1) }) (l.length - (j + 1)) (l.drop (j + 1))) := ⟨fun e => by
    have := Kd.C_drop (c := c) HR.out (show j + 1 ≤ l.length by omega) hlc
    rw [if_neg e, List.length_drop, show (j + 1) * (Kd.slice 3 (Kd.int .i64)).sz = j + 1 from Nat.mul_one _] at this
    simpa [Addr.add] using this⟩
  have DD : Aside0 (Kd.C (Kd.slice 3 (Kd.int .i64)) w (if c = j + 1 then some ad else some { block := ad.block, off := ad.off + (j + 1) }) (l.length - (j + 1)) (l.drop (j + 1))) := ⟨by
    split
    · rename_i e; exact D1.out e
    · rename_i e; exact D2.out e⟩
  have hRR := Aside0.mk hR
  clear hR
  have HHB := Aside0.mk hb
  generalize hQ0 : bodyPost Try.prog Try.f45 R = Q0
  simp only [tail45, seqAt, Try.f45, Option.getD]
  by_cases hlen : (row'.length : Int) ≤ b
  · have hlen' : ¬ (b < (row'.length : Int)) := by omega
    have HI := Aside0.mk (show insF b l j row' = l.take j ++ [row'] ++ l.drop (j + 1) by unfold insF; rw [if_pos hlen, List.set_eq_take_append_cons_drop, if_pos hjl]; simp)
    clear hlen
    go_wp2_with (first | (go_at_call 63; (with_reducible refine HCP.out.mono ?_); go_must (rintro e w4 ⟨v4, rfl, HO4, hb4'⟩; have hb4 := hb3.trans (hb4'.mono hb3.size); have HO34 := Aside0.mk (OI_below HO3.out hb4'))) | ((with_reducible refine at_b (b := .append) (xs := #[.tmp 72, .tmp 74]) rfl ?_); go_must (refine Kd.R_append kd3 (w0 := w) (W := w4) w.heap.size rfl (.tmp 72) (.tmp 74) 24 22 (.slice none 0 0) 24 rfl Try.underlying24 infoA22 rfl (by decide) (by omega) v4 (l.take j) row' [.slice A3 row'.length c3] Tr (fun k => Tr k ∧ some k ≠ v4.ownBlock) rfl rfl (M_not_outer HO4.out (M_of_OI HO34.out)) (fun _ h => h) (fun _ _ => trivial) HO4.out hb4 hb4.size ?bL ?_; (case bL => rw [List.length_take]; omega); intro v5 w5 ho5 hb5 hg5 hat5; have HO5 := Aside0.mk ho5; clear ho5 hg5 hat5)) | (go_at_call 63; go_must (refine (copied_part (l := l.drop (j + 1)) ?hC ?hL (fun x hx => HRL.out x (List.mem_of_mem_drop hx)) w.heap.size hb5.size).mono ?_; (case hC => exact Kd.C_below DD.out hb5); (case hL => rw [List.length_drop]; omega); rintro e w6 ⟨v6, rfl, HO6, hb6'⟩; have hb6 := hb5.trans (hb6'.mono hb5.size); have HO56 := Aside0.mk (OR_below HO5.out hb6'); obtain ⟨A6, c6, e6, hl6, hrr6⟩ := OR_rows HO6.out; have HRR6 := Aside0.mk hrr6; clear hrr6; subst e6)) | ((with_reducible refine at_b (b := .append) (xs := #[.tmp 76, .tmp 81]) rfl ?_); go_must (refine Kd.R_append_rows kd3 (w0 := w) w.heap.size rfl (.tmp 76) (.tmp 81) 24 22 (.slice none 0 0) 24 rfl Try.underlying24 infoA22 rfl (by decide) (by omega) v5 (l.take j ++ [row']) (l.drop (j + 1)) _ _ _ Tr (fun k => Tr k ∧ some k ≠ v5.ownBlock) rfl rfl HO56.out (by have h := HRR6.out; rwa [List.length_drop] at h) (fun x cs hx => M_not_outer HO56.out hx) (fun _ h => h) (fun _ _ => trivial) hb6 hb6.size ?bL ?_; (case bL => simp only [List.length_append, List.length_take, List.length_drop, List.length_cons, List.length_nil]; omega); intro v7 w7 ho7 hb7 hg7 hat7; have HO7 := Aside0.mk ho7; clear ho7 hg7 hat7)))
    all_goals
      rw [← hQ0]
      go_ret
      exact hRR.out _ _ (by rw [HI.out]; exact OR_ra HO7.out) hb7
  · have hlen' : b < (row'.length : Int) := by omega
    obtain ⟨N, hN⟩ : ∃ N, N = halfN b := ⟨_, rfl⟩
    have hNi : (b + 2) / 2 = (N : Int) := by rw [hN]; unfold halfN; omega
    have hwb : IntKind.i64.wrap (b + 2) = b + 2 := wrap_small _ (by omega) (by omega)
    have hb20 : 0 ≤ b + 2 := by omega
    have hb21 : b + 2 ≤ 1000 := by omega
    have hN1 : 0 < N := by omega
    have hN2 : N < row'.length := by omega
    have HI := Aside0.mk (show insF b l j row' = l.take j ++ [row'.take N, row'.drop N] ++ l.drop (j + 1) by unfold insF; rw [if_neg hlen, ← hN]; simp)
    clear hlen hN
    go_wp2_with (first | (go_at_call 63; (with_reducible refine HCP.out.mono ?_); go_must (rintro e w4 ⟨v4, rfl, HO4, hb4'⟩; have hb4 := hb3.trans (hb4'.mono hb3.size); have HO34 := Aside0.mk (OI_below HO3.out hb4'))))
    have hn3 : ¬ (c3 = N) := by omega
    have hn4 : (0 : Int) ≤ (N : Int) := by omega
    have hn5 : (N : Int) ≤ (row'.length : Int) := by omega
    have hn6 : (N : Int) ≤ (c3 : Int) := by omega
    have hC34 := OI_reads HO34.out
    have HC4 := Aside0.mk (Kd.C_below HC3.out hb4')
    have HT : Aside0 (Kd.C (Kd.int .i64) w4 A3 N (row'.take N)) := ⟨by
      have := Kd.C_take HC4.out (show N ≤ row'.length by omega)
      rwa [show (row'.take N).length = N by rw [List.length_take]; omega] at this⟩
    have HDp : Aside0 (Kd.C (Kd.int .i64) w4 (A3.map (·.add N)) (row'.length - N) (row'.drop N)) := ⟨by
      have := Kd.C_drop HC4.out (show N ≤ row'.length by omega) hl3
      rwa [if_neg hn3, List.length_drop, show N * (Kd.int .i64).sz = N from Nat.mul_one N] at this⟩
    have hltN : Aside0 ((row'.take N).length = N) := ⟨by rw [List.length_take]; omega⟩
    have hldN : Aside0 ((row'.drop N).length = row'.length - N) := ⟨by rw [List.length_drop]⟩
    have hNew : ∀ X : World, w4.heap.size ≤ X.heap.size → Aside0 (OI (X.alloc (.cells #[] 3)) w4.heap.size (.slice (some ⟨X.heap.size, 0, none⟩) 0 0) []) := fun X hX => ⟨OI_empty hX⟩
    have hN0 : Aside0 (OI (w4.alloc (.cells #[] 3)).drew w4.heap.size (.slice (some ⟨w4.heap.size, 0, none⟩) 0 0) []) := ⟨Kd.R_drew (OI_empty (Nat.le_refl _))⟩
    have hZ0 : Aside0 (OI ((w4.alloc (.cells #[] 3)).alloc (.cells #[] 3)).drew w4.heap.size (.slice (some ⟨w4.heap.size, 0, none⟩) 0 0) []) := ⟨Kd.R_drew (Kd.R_alloc (OI_empty (Nat.le_refl _)) _)⟩
    have hZ1 : Aside0 (OI ((w4.alloc (.cells #[] 3)).alloc (.cells #[] 3)).drew w4.heap.size (.slice (some ⟨w4.heap.size + 1, 0, none⟩) 0 0) []) := ⟨by
      have := OI_empty (w := w4.alloc (.cells #[] 3)) (base := w4.heap.size) (by simp)
      rw [World.size_alloc] at this
      exact Kd.R_drew this⟩
    clear hC34 hwb hb20 hb21
    rw [hNi]
    clear hNi
    go_region_held3 (fun w' => Below w.heap.size w w') (first | exact hb5 | (refine hb4.trans (Below.mono (B := w4.heap.size) ?_ hb4.size); (repeat first | exact Below.refl _ _ | exact HB8.out | exact HB9.out | refine below_drew ?_ | refine below_alloc ?_ _))) (first
      | (refine Kd.R_append_rows_step (Kd.int .i64) (w0 := w4) w4.heap.size (by rfl) (.tmp 60) (.tmp 63) 22 3 (.int .i64 0) 8 rfl Try.underlying22 infoA3 rfl (by decide) (by omega) _ [] (row'.take N) _ _ _ Tr (fun _ => False) rfl rfl ?bO ?bR (fun _ _ h => h) (fun _ h => h.elim) (fun _ _ => trivial) ?bB ?bS ?bL ?_; (case bO => first | exact hN0.out | exact hZ0.out | exact hZ1.out | exact (hNew w9 (by have := HB9.out.size; omega)).out | exact OI_kept hZ0.out HG9.out (by show some w4.heap.size ≠ some (w4.heap.size + 1); simp) | exact OI_kept hZ1.out HG9.out (by show some (w4.heap.size + 1) ≠ some w4.heap.size; simp)); (case bR => refine Kd.C_below HT.out ?_; (repeat first | exact Below.refl _ _ | exact HB8.out | exact HB9.out | refine below_drew ?_ | refine below_alloc ?_ _)); (case bB => (repeat first | exact Below.refl _ _ | exact HB8.out | exact HB9.out | refine below_drew ?_ | refine below_alloc ?_ _)); (case bS => refine Below.size (B := w4.heap.size) (w := w4) ?_; (repeat first | exact Below.refl _ _ | exact HB8.out | exact HB9.out | refine below_drew ?_ | refine below_alloc ?_ _)); (case bL => simp; omega); intro v8 w8 ho8 hb8 hg8 hat8; rw [List.nil_append] at ho8; obtain ⟨A8, c8, e8, _, _⟩ := OI_reads ho8; rw [hltN.out] at e8; subst e8; have HO8 := Aside0.mk ho8; have HB8 := Aside0.mk hb8; have HG8 := Aside0.mk hg8; have HAT8 := Aside0.mk hat8; clear ho8 hb8 hg8 hat8)
      | (refine Kd.R_append_rows_step (Kd.int .i64) (w0 := w4) w4.heap.size (by rfl) (.tmp 65) (.tmp 68) 22 3 (.int .i64 0) 8 rfl Try.underlying22 infoA3 rfl (by decide) (by omega) _ [] (row'.drop N) _ _ _ Tr (fun _ => False) rfl rfl ?bO ?bR (fun _ _ h => h) (fun _ h => h.elim) (fun _ _ => trivial) ?bB ?bS ?bL ?_; (case bO => first | exact hN0.out | exact hZ0.out | exact hZ1.out | exact (hNew w8 (by have := HB8.out.size; omega)).out | exact OI_kept hZ0.out HG8.out (by show some w4.heap.size ≠ some (w4.heap.size + 1); simp) | exact OI_kept hZ1.out HG8.out (by show some (w4.heap.size + 1) ≠ some w4.heap.size; simp)); (case bR => refine Kd.C_below HDp.out ?_; (repeat first | exact Below.refl _ _ | exact HB8.out | exact HB9.out | refine below_drew ?_ | refine below_alloc ?_ _)); (case bB => (repeat first | exact Below.refl _ _ | exact HB8.out | exact HB9.out | refine below_drew ?_ | refine below_alloc ?_ _)); (case bS => refine Below.size (B := w4.heap.size) (w := w4) ?_; (repeat first | exact Below.refl _ _ | exact HB8.out | exact HB9.out | refine below_drew ?_ | refine below_alloc ?_ _)); (case bL => simp; omega); intro v9 w9 ho9 hb9 hg9 hat9; rw [List.nil_append] at ho9; obtain ⟨A9, c9, e9, _, _⟩ := OI_reads ho9; rw [hldN.out] at e9; subst e9; have HO9 := Aside0.mk ho9; have HB9 := Aside0.mk hb9; have HG9 := Aside0.mk hg9; have HAT9 := Aside0.mk hat9; clear ho9 hb9 hg9 hat9)
      | (refine Kd.R_append_rows_step kd3 (w0 := w) w.heap.size (by rfl) (.tmp 59) (.tmp 70) 24 22 (.slice none 0 0) 24 rfl Try.underlying24 infoA22 rfl (by decide) (by omega) v4 (l.take j) [row'.take N, row'.drop N] _ _ _ Tr (fun k => Tr k ∧ some k ≠ v4.ownBlock) rfl rfl (OR_below HO4.out (by (repeat first | exact Below.refl _ _ | exact HB8.out | exact HB9.out | refine below_drew ?_ | refine below_alloc ?_ _))) ?bR (fun x cs hx => M_not_outer (OR_below HO4.out (by (repeat first | exact Below.refl _ _ | exact HB8.out | exact HB9.out | refine below_drew ?_ | refine below_alloc ?_ _))) hx) (fun _ h => h) (fun _ _ => trivial) ?bB ?bS ?bL ?_; (case bR => first | exact rows2 (Kd.R_lower (OI_keep1 HO8.out HG9.out) hb4.size) (Kd.R_lower HO9.out hb4.size) | exact rows2 (Kd.R_lower HO8.out hb4.size) (Kd.R_lower (OI_keep1 HO9.out HG8.out) hb4.size) | exact rows2 (Kd.R_lower (OI_keep2 (p := w4.heap.size) (p' := w4.heap.size + 1) HO8.out HAT8.out HG9.out (by omega) (by simp; try omega)) hb4.size) (Kd.R_lower HO9.out hb4.size) | exact rows2 (Kd.R_lower (OI_keep2 (p := w4.heap.size + 1) (p' := w4.heap.size) HO8.out HAT8.out HG9.out (by omega) (by simp; try omega)) hb4.size) (Kd.R_lower HO9.out hb4.size) | exact rows2 (Kd.R_lower HO8.out hb4.size) (Kd.R_lower (OI_keep2 (p := w4.heap.size) (p' := w4.heap.size + 1) HO9.out HAT9.out HG8.out (by omega) (by simp; try omega)) hb4.size) | exact rows2 (Kd.R_lower HO8.out hb4.size) (Kd.R_lower (OI_keep2 (p := w4.heap.size + 1) (p' := w4.heap.size) HO9.out HAT9.out HG8.out (by omega) (by simp; try omega)) hb4.size)); (case bB => refine hb4.trans (Below.mono (B := w4.heap.size) ?_ hb4.size); (repeat first | exact Below.refl _ _ | exact HB8.out | exact HB9.out | refine below_drew ?_ | refine below_alloc ?_ _)); (case bS => refine Nat.le_trans hb4.size (Below.size (B := w4.heap.size) (w := w4) ?_); (repeat first | exact Below.refl _ _ | exact HB8.out | exact HB9.out | refine below_drew ?_ | refine below_alloc ?_ _)); (case bL => rw [List.length_take]; omega); intro v5 w5 ho5 hb5 hg5 hat5; have HO5 := Aside0.mk ho5; clear ho5 hg5 hat5))
    all_goals go_wp2_with (first | (go_at_call 63; go_must (refine (copied_part (l := l.drop (j + 1)) ?hC ?hL (fun x hx => HRL.out x (List.mem_of_mem_drop hx)) w.heap.size hb5.size).mono ?_; (case hC => exact Kd.C_below DD.out hb5); (case hL => rw [List.length_drop]; omega); rintro e w6 ⟨v6, rfl, HO6, hb6'⟩; have hb6 := hb5.trans (hb6'.mono hb5.size); have HO56 := Aside0.mk (OR_below HO5.out hb6'); obtain ⟨A6, c6, e6, hl6, hrr6⟩ := OR_rows HO6.out; have HRR6 := Aside0.mk hrr6; clear hrr6; subst e6)) | ((with_reducible refine at_b (b := .append) (xs := #[.tmp 76, .tmp 81]) rfl ?_); go_must (refine Kd.R_append_rows kd3 (w0 := w) w.heap.size rfl (.tmp 76) (.tmp 81) 24 22 (.slice none 0 0) 24 rfl Try.underlying24 infoA22 rfl (by decide) (by omega) v5 (l.take j ++ [row'.take N, row'.drop N]) (l.drop (j + 1)) _ _ _ Tr (fun k => Tr k ∧ some k ≠ v5.ownBlock) rfl rfl HO56.out (by have h := HRR6.out; rwa [List.length_drop] at h) (fun x cs hx => M_not_outer HO56.out hx) (fun _ h => h) (fun _ _ => trivial) hb6 hb6.size ?bL ?_; (case bL => simp only [List.length_append, List.length_take, List.length_drop, List.length_cons, List.length_nil]; omega); intro v7 w7 ho7 hb7 hg7 hat7; have HO7 := Aside0.mk ho7; clear ho7 hg7 hat7)))
    all_goals
      rw [← hQ0]
      go_ret
      exact hRR.out _ _ (by rw [HI.out]; exact OR_ra HO7.out) hb7
end Go.Proofs.Ytjpobhdgfdeenaa.A

/- put of the reference: the whole. -/
set_option linter.unusedVariables false
set_option linter.unusedSimpArgs false
namespace Go.Proofs.Ytjpobhdgfdeenaa.A
open Go.RowKit Go.Proofs.YtjpobhdgfdeenaaW.PrintWords Go.Maps

theorem row_le (l : List (List Int)) : ∀ x ∈ l, x.length ≤ l.flatten.length := fun x hx => by
  obtain ⟨i, hi, rfl⟩ := List.getElem_of_mem hx
  have h1 := flat_len l (i + 1)
  rw [flat_drop l i l[i] (List.drop_eq_getElem_cons hi), List.length_append] at h1
  omega
set_option maxRecDepth 100000 in
set_option maxHeartbeats 2000000 in
theorem put_some (b m k : Int) (A : Option Addr) (c : Nat) (l : List (List Int)) (w : World) (hr : Kd.C (Kd.slice 3 (Kd.int .i64)) w A l.length l) (hlc : l.length ≤ c) (hb : 2 ≤ b ∧ b ≤ 50) (hs : l.flatten.length ≤ 1000000) (hll : l.length ≤ 1000000) (hne : l ≠ []) (hm : 0 ≤ m ∧ m ≤ l.flatten.length) :
    Calls Try.prog 45 #[.int .i64 b, .slice A l.length c, .int .i64 m, .int .i64 k] w fun e w' => ∃ v, e = .returned v ∧ RA w' v (putF b l m k) ∧ Below w.heap.size w w' := by
  obtain ⟨j, q, hat⟩ := At_some hne hm.1 hm.2
  have HAT := Aside0.mk hat
  have hspot := spotF_at hat
  obtain ⟨row, hrow, hmq, hq⟩ := hat
  have hput := putF_at (b := b) (k := k) HAT.out hrow
  have hjl : j < l.length := (List.getElem?_eq_some_iff.1 hrow).1
  obtain ⟨ad, A0, c0, row2, hA, hdrop, hcell, hrl, hrowC⟩ := C_row hr j hjl
  have hr2 : row2 = row := by
    rw [List.drop_eq_getElem_cons hjl] at hdrop
    injection hdrop with h1 _
    rw [← h1]
    exact (List.getElem?_eq_some_iff.1 hrow).2
  subst hr2
  subst hA
  have hrm := (C_len hrowC).2
  obtain ⟨F, hF⟩ : ∃ F, F = (l.take j).flatten.length := ⟨_, rfl⟩
  rw [← hF] at hspot hmq
  have hfl : F + row2.length ≤ 1000000 := by
    have h1 := flat_len l (j + 1)
    rw [flat_drop l j row2 hdrop, List.length_append] at h1
    omega
  have hsp := spot_calls (some ad) c l m w hr hs
  rw [hspot] at hsp
  dsimp only at hsp
  have hql : q ≤ row2.length := by omega
  have hw1 : IntKind.i64.wrap (m - (F : Int)) = (q : Int) := by rw [hmq]; rw [IntKind.wrap_i64]; omega
  have hlen0 : ((l.length : Int) == 0) = false := by
    have : 0 < l.length := by omega
    simpa using (show ¬ (l.length : Int) = 0 by omega)
  have HR := Aside0.mk hr
  have HSP := Aside0.mk hsp
  have HRC := Aside0.mk hrowC
  have HP := Aside0.mk hput
  have HROW := Aside0.mk hrow
  have HQ := Aside0.mk hq
  have HHB := Aside0.mk hb
  have HMQ := Aside0.mk hmq
  have HD := Aside0.mk hdrop
  have HF := Aside0.mk hF
  have HFL := Aside0.mk hfl
  have HS := Aside0.mk (fun x hx => Nat.le_trans (row_le l x hx) hs)
  clear hr hsp hrowC hput hrow hq hb hm hs hne hdrop hF hspot hmq hfl
  have hj0 : (0 : Int) ≤ (j : Int) := by omega
  have hj1 : (j : Int) < (l.length : Int) := by omega
  have hj2 : (j : Int) ≤ (c : Int) := by omega
  have hq0 : (0 : Int) ≤ (q : Int) := by omega
  have hq1 : (q : Int) ≤ (row2.length : Int) := by omega
  have hq2 : (q : Int) ≤ (c0 : Int) := by omega
  go_enter Try.func45, Try.ntmps45
  go_wp2_with (go_at_call 50; go_must (refine HSP.out.mono ?_; rintro e w1 ⟨rfl, ⟨n1, rfl⟩⟩))
  have hbel : Below w.heap.size w (w.drewN n1) := pw_below_drewN (Below.refl _ _) n1
  have hcell5 := pw_cell_below hbel hcell
  generalize w.drewN n1 = W at hbel hcell5 ⊢
  have hcellw := hcell
  clear hcell
  have HK1 : ∀ X : World, Aside0 (OwnS (X.alloc (.cells #[.int .i64 k] 3)) X.heap.size 3 (.slice (some ⟨X.heap.size, 0, none⟩) 1 1) (ints [k])) := fun X => ⟨OwnS_new X 3 [.int .i64 k] (by simp) (by simp) (by simp [Value.oneCell'])⟩
  have hOA : Aside0 (OI (W.alloc (.cells #[] 3)).drew w.heap.size (.slice (some ⟨W.heap.size, 0, none⟩) 0 0) []) := ⟨OI_below (OI_empty hbel.size) (below_drew (Below.refl _ _))⟩
  have hOB : Aside0 (OI ((W.alloc (.cells #[] 3)).alloc (.cells #[.int .i64 k] 3)).drew w.heap.size (.slice (some ⟨W.heap.size, 0, none⟩) 0 0) []) := ⟨OI_below (OI_empty hbel.size) (below_drew (below_alloc (Below.refl _ _) _))⟩
  have hOC : Aside0 (OI ((W.alloc (.cells #[.int .i64 k] 3)).alloc (.cells #[] 3)).drew w.heap.size (.slice (some ⟨W.heap.size + 1, 0, none⟩) 0 0) []) := ⟨by
    have := OI_empty (w := W.alloc (.cells #[.int .i64 k] 3)) (base := w.heap.size) (by have := hbel.size; simp; omega)
    rw [World.size_alloc] at this
    exact OI_below this (below_drew (Below.refl _ _))⟩
  have hKB : Aside0 (OwnS ((W.alloc (.cells #[] 3)).alloc (.cells #[.int .i64 k] 3)).drew 0 3 (.slice (some ⟨W.heap.size + 1, 0, none⟩) 1 1) (ints [k])) := ⟨by
    have := (HK1 (W.alloc (.cells #[] 3))).out
    rw [World.size_alloc] at this
    exact (this.kept (grown_of_below (below_drew (Below.refl _ _)) none) (by simp [Value.ownBlock])).low (Nat.zero_le _)⟩
  have hKC : Aside0 (OwnS ((W.alloc (.cells #[.int .i64 k] 3)).alloc (.cells #[] 3)).drew 0 3 (.slice (some ⟨W.heap.size, 0, none⟩) 1 1) (ints [k])) := ⟨by
    have := (HK1 W).out
    exact (this.kept (grown_of_below (below_drew (below_alloc (Below.refl _ _) _)) none) (by simp [Value.ownBlock])).low (Nat.zero_le _)⟩
  have HT : Aside0 (Kd.C (Kd.int .i64) w A0 q (row2.take q)) := ⟨by
    have := Kd.C_take HRC.out hql
    rwa [show (row2.take q).length = q by rw [List.length_take]; omega] at this⟩
  have HDp : Aside0 (Kd.C (Kd.int .i64) w (if c0 = q then A0 else A0.map (·.add q)) (row2.length - q) (row2.drop q)) := ⟨by
    have := Kd.C_drop HRC.out hql hrl
    rwa [List.length_drop, show q * (Kd.int .i64).sz = q from Nat.mul_one q] at this⟩
  go_region_held3 (fun w' => w'.cell? (ad.add j) = some (.slice A0 row2.length c0) ∧ Below w.heap.size w w') ((refine (fun h => ⟨pw_cell_below h hcellw, h⟩ : Below w.heap.size w _ → _) ?_; (repeat first | exact hbel | exact hb3 | exact hb2 | exact hb1 | refine below_drew ?_ | refine below_alloc ?_ _))) (first
    | (refine Kd.R_append_rows_step (Kd.int .i64) (w0 := w) w.heap.size (by rfl) (.tmp 30) (.tmp 36) 22 3 (.int .i64 0) 8 rfl Try.underlying22 infoA3 rfl (by decide) (by omega) _ [] (row2.take q) _ _ _ Tr (fun _ => False) rfl rfl ?bO ?bR (fun _ _ h => h) (fun _ h => h.elim) (fun _ _ => trivial) (‹_ ∧ Below w.heap.size w _›).2 (‹_ ∧ Below w.heap.size w _›).2.size ?bL ?_; (case bO => first | exact hOA.out | exact hOB.out | exact hOC.out); (case bR => exact Kd.C_below HT.out (‹_ ∧ Below w.heap.size w _›).2); (case bL => have := HFL.out; simp; omega); intro v1 w1 ho1 hb1 hg1 hat1; have HO1 := Aside0.mk ho1; have HG1 := Aside0.mk hg1; clear ho1 hg1 hat1)
    | (refine Kd.R_append_rows_step (Kd.int .i64) (w0 := w) w.heap.size (by rfl) (.tmp 37) (.tmp 39) 22 3 (.int .i64 0) 8 rfl Try.underlying22 infoA3 rfl (by decide) (by omega) _ ([] ++ row2.take q) [k] _ _ _ Tr (fun _ => False) rfl rfl ?bO ?bR (fun _ _ h => h) (fun _ h => h.elim) (fun _ _ => trivial) (‹_ ∧ Below w.heap.size w _›).2 (‹_ ∧ Below w.heap.size w _›).2.size ?bL ?_; (case bO => first | exact HO1.out | exact OI_below HO1.out (below_alloc (Below.refl _ _) _)); (case bR => first | exact (HK1 w1).out.C1 | exact (hKB.out.kept HG1.out (by show some (W.heap.size + 1) ≠ some W.heap.size; simp)).C1 | exact (hKC.out.kept HG1.out (by show some W.heap.size ≠ some (W.heap.size + 1); simp)).C1); (case bL => have := HFL.out; simp; omega); intro v2 w2 ho2 hb2 hg2 hat2; have HO2 := Aside0.mk ho2; clear ho2 hg2 hat2)
    | (refine Kd.R_append_rows_step (Kd.int .i64) (w0 := w) w.heap.size (by rfl) (.tmp 40) (.tmp 46) 22 3 (.int .i64 0) 8 rfl Try.underlying22 infoA3 rfl (by decide) (by omega) _ ([] ++ row2.take q ++ [k]) (row2.drop q) _ _ _ Tr (fun _ => False) rfl rfl HO2.out ?bR (fun _ _ h => h) (fun _ h => h.elim) (fun _ _ => trivial) (‹_ ∧ Below w.heap.size w _›).2 (‹_ ∧ Below w.heap.size w _›).2.size ?bL ?_; (case bR => exact Kd.C_below HDp.out (‹_ ∧ Below w.heap.size w _›).2); (case bL => have := HFL.out; simp; omega); intro v3 w3 ho3 hb3 hg3 hat3; have HO3 := Aside0.mk ho3; clear ho3 hg3 hat3))
  all_goals
    rename_i KK hKK hHH
    refine hKK _ _ (put_tail b m k F c j q ad l (row2.take q ++ k :: row2.drop q) v3 _ _ _ _ _ _ _ _ _ _ _ _ _ _ _ _ _ _ _ _ _ _ _ _ _ _ _ _ _ _ _ _ _ w w3 HR hlc ⟨by have := HO3.out; simpa using this⟩ hb3 hjl HHB.out (by rw [ins_len row2 q hql k]; omega) (by rw [ins_len row2 q hql k]; have := HFL.out; omega) hll HS _ ?_)
    intro v W' hra hbw
    rw [HP.out]
    exact ⟨v, rfl, hra, hbw⟩
theorem put_calls (b m k : Int) (A : Option Addr) (c : Nat) (l : List (List Int)) (w : World) (hr : Kd.C (Kd.slice 3 (Kd.int .i64)) w A l.length l) (hlc : l.length ≤ c) (hb : 2 ≤ b ∧ b ≤ 50) (hs : l.flatten.length ≤ 1000000) (hll : l.length ≤ 1000000) (hm : 0 ≤ m ∧ m ≤ l.flatten.length) :
    Calls Try.prog 45 #[.int .i64 b, .slice A l.length c, .int .i64 m, .int .i64 k] w fun e w' => ∃ v, e = .returned v ∧ RA w' v (putF b l m k) ∧ Below w.heap.size w w' := by
  by_cases hne : l = []
  · subst hne
    exact put_nil b m k A c w
  · exact put_some b m k A c l w hr hlc hb hs hll hne hm
end Go.Proofs.Ytjpobhdgfdeenaa.A

/- Make of the reference. -/
set_option linter.unusedVariables false
set_option linter.unusedSimpArgs false
namespace Go.Proofs.Ytjpobhdgfdeenaa.A
open Go.RowKit Go.Proofs.YtjpobhdgfdeenaaW.PrintWords Go.Maps

/-- Where a key stands first. -/
theorem idxFrom_ge (x : Int) : ∀ (l : List Int) (i : Nat), x ∈ l → (i : Int) ≤ idxFrom x i l
  | [], i, h => by simp at h
  | y :: ys, i, h => by
    rw [idxFrom]
    by_cases e : y = x
    · rw [if_pos e]; omega
    · rw [if_neg e]
      have := idxFrom_ge x ys (i + 1) (by rcases List.mem_cons.1 h with h | h; exact absurd h.symm e; exact h)
      omega
theorem idxFrom_lt (x : Int) : ∀ (l : List Int) (i j : Nat), x ∈ l → ((idxFrom x i l < ((i + j : Nat) : Int)) ↔ x ∈ l.take j)
  | [], i, j, h => by simp at h
  | y :: ys, i, j, h => by
    rw [idxFrom]
    by_cases e : y = x
    · rw [if_pos e]
      subst e
      cases j with
      | zero => simp
      | succ j => simp; omega
    · rw [if_neg e]
      have hx : x ∈ ys := by rcases List.mem_cons.1 h with h | h; exact absurd h.symm e; exact h
      cases j with
      | zero =>
        have := idxFrom_ge x ys (i + 1) hx
        simp
        omega
      | succ j =>
        have := idxFrom_lt x ys (i + 1) j hx
        rw [show i + 1 + j = i + (j + 1) by omega] at this
        rw [this]
        simp [Ne.symm e]
theorem idxF_lt {l : List Int} {i : Nat} {x : Int} (h : l.drop i = x :: l.drop (i + 1)) : decide (idxF l x < (i : Int)) = decide (x ∈ l.take i) := by
  have hx : x ∈ l := List.mem_of_mem_drop (i := i) (by rw [h]; simp)
  have := idxFrom_lt x l 0 i hx
  rw [Nat.zero_add] at this
  exact decide_eq_decide.2 this
set_option maxHeartbeats 2000000 in
theorem rMake_calls (b : Int) (A : Option Addr) (c : Nat) (l : List Int) (w : World) (hr : Kd.C (Kd.int .i64) w A l.length l) (hs : l.length ≤ 1000000) :
    Calls Try.prog 11 #[.int .i64 b, .slice A l.length c] w fun e w' => ∃ v, e = .returned (.tuple #[v, .int .i64 (makeE b l)]) ∧ RA w' v (makeA b l) ∧ Below w.heap.size w w' := by
  have HR := Aside0.mk hr
  have hm := (C_len hr).2
  clear hr
  cases hroom : roomB b with
  | false =>
    have HE := Aside0.mk (makeE_room (l := l) hroom)
    go_enter Try.func11, Try.ntmps11
    go_wp2_with (go_at_call 42; refine (size_calls b _).mono ?_; rintro e w' ⟨rfl, rfl⟩)
    go_ret2
    exact ⟨_, ret_pair HE.out.symm, by rw [makeA_bad (by rw [HE.out]; decide)]; exact RA_nil _, Below.refl _ _⟩
  | true =>
    have HRM := Aside0.mk hroom
    have hbb : Aside0 (2 ≤ b ∧ b ≤ 50) := ⟨of_decide_eq_true hroom⟩
    go_enter Try.func11, Try.ntmps11
    go_wp2_with (go_at_call 42; refine (size_calls b _).mono ?_; rintro e w' ⟨rfl, rfl⟩)
    clear hroom
    go_loopg [6] l.length (fun g v6 wr => ∃ (i : Nat), g = l.length - i ∧ i ≤ l.length ∧ v6 = .int .i64 i ∧ Aside0 (GoodL (l.take i)) ∧ Below w.heap.size w wr)
    case atStart => exact ⟨0, rfl, Nat.zero_le _, rfl, ⟨by simp [GoodL]⟩, Below.refl _ _⟩
    case round =>
      obtain ⟨i, hg, hi, rfl, HGd, hdr⟩ := hrel
      have hbel := hdr
      have HG := Aside0.mk hg
      clear hg
      by_cases hlt : i < l.length
      · obtain ⟨ad2, x, hA2, hdrop2, hcell2⟩ := C_int HR.out i hlt
        replace hcell2 := pw_cell_below hbel hcell2
        have HRr := Aside0.mk (Kd.C_below HR.out hbel)
        subst hA2
        have HD2 := Aside0.mk hdrop2
        have hix := idxF_lt hdrop2
        clear hdrop2
        cases hkey : keyB x with
        | false =>
          have HE := Aside0.mk (makeE_bad (b := b) (good_take HD2.out (.inl hkey)))
          clear hix
          go_wp2_with (go_at_call 43; refine (Key_calls x _).mono ?_; rintro e w' ⟨rfl, rfl⟩)
          go_ret2
          exact ⟨_, ret_pair HE.out.symm, by rw [makeA_bad (by rw [HE.out]; decide)]; exact RA_nil _, hbel⟩
        | true =>
          have hk0 := Aside0.mk hkey
          by_cases hx : x ∈ l.take i
          · have HE := Aside0.mk (makeE_bad (b := b) (good_take HD2.out (.inr hx)))
            rw [decide_eq_true hx] at hix
            have hix' := of_decide_eq_true hix
            clear hx hix
            go_wp2_with (first | (go_at_call 43; go_must (refine (Key_calls x _).mono ?_; rintro e w' ⟨rfl, rfl⟩)) | (go_at_call 44; go_must (refine (Index_calls _ _ _ _ _ HRr.out).mono ?_; rintro e w' ⟨rfl, ⟨m2, rfl⟩⟩)))
            go_ret2
            exact ⟨_, ret_pair HE.out.symm, by rw [makeA_bad (by rw [HE.out]; decide)]; exact RA_nil _, pw_below_drewN hbel _⟩
          · rw [decide_eq_false hx] at hix
            have hix' := of_decide_eq_false hix
            have HX := Aside0.mk hx
            clear hx hix
            go_wp2_with (first | (go_at_call 43; go_must (refine (Key_calls x _).mono ?_; rintro e w' ⟨rfl, rfl⟩)) | (go_at_call 44; go_must (refine (Index_calls _ _ _ _ _ HRr.out).mono ?_; rintro e w' ⟨rfl, ⟨m2, rfl⟩⟩)))
            go_roundg (l.length - (i + 1))
            case measure => have := HG.out; omega
            case rel =>
              exact ⟨i + 1, rfl, by omega, by go_num, ⟨good_step HD2.out HGd.out hk0.out HX.out⟩, pw_below_drewN hbel _⟩
      · have hgood : GoodL l := by have := HGd.out; rwa [List.take_of_length_le (by omega)] at this
        have HGL := Aside0.mk hgood
        clear hgood HGd
        by_cases hl5 : l.length ≤ 500
        · have HE := Aside0.mk (makeE_ok HGL.out HRM.out hl5)
          have hl6 : ¬ (500 < (l.length : Int)) := by omega
          go_wp2
          go_loopg [7, 8] l.length (fun g v7 v8 wr => ∃ (i : Nat), g = l.length - i ∧ i ≤ l.length ∧ v8 = .int .i64 i ∧ (∃ A1 c1, v7 = .slice A1 (makeN b l i).length c1 ∧ (makeN b l i).length ≤ c1 ∧ Aside0 (Kd.C (Kd.slice 3 (Kd.int .i64)) wr A1 (makeN b l i).length (makeN b l i))) ∧ Below w.heap.size w wr)
          case atStart => exact ⟨0, rfl, Nat.zero_le _, rfl, ⟨none, 0, rfl, Nat.le_refl _, ⟨Kd.C_nil _ _⟩⟩, hbel⟩
          case round =>
            obtain ⟨i, hg, hi, rfl, ⟨A1, c1, rfl, hc1, HC1⟩, hbel2⟩ := hrel
            have HG2 := Aside0.mk hg
            clear hg
            by_cases hlt : i < l.length
            · obtain ⟨ad2, x, hA2, hdrop2, hcell2⟩ := C_int HR.out i hlt
              replace hcell2 := pw_cell_below hbel2 hcell2
              subst hA2
              have hxi : l.getD i 0 = x := by
                have := List.drop_eq_getElem_cons hlt
                rw [this] at hdrop2
                injection hdrop2 with h1 _
                simp [List.getD_eq_getElem?_getD, List.getElem?_eq_getElem hlt, h1]
              obtain ⟨hi1, hi2⟩ := makeN_inv hbb.out.1 l i (by omega)
              have hfl : (makeN b l i).flatten.length = i := by rw [hi1, List.length_take]; omega
              have hcon := Aside0.mk (put_calls b i x A1 c1 (makeN b l i) wr HC1.out hc1 hbb.out (by omega) (by have := rows_len hi2; omega) (by omega))
              have HI := Aside0.mk (And.intro hxi hfl)
              clear hdrop2 hxi hi1 hi2 hfl
              go_wp2_with (go_at_call 45; go_must (refine hcon.out.mono ?_; rintro e w1 ⟨v', rfl, hra, hb1⟩; have HO1 := Aside0.mk hra; clear hra))
              go_roundg (l.length - (i + 1))
              case measure => have := HG2.out; omega
              case rel =>
                refine ⟨i + 1, rfl, by omega, by go_num, ?_, hbel2.trans (hb1.mono hbel2.size)⟩
                obtain ⟨A2, c2, e2, h2, h3⟩ := HO1.out
                rw [makeN, HI.out.1]
                exact ⟨A2, c2, e2, h2, ⟨h3⟩⟩
            · have hil : i = l.length := by omega
              subst hil
              go_wp2
              go_ret2
              refine ⟨_, ret_pair HE.out.symm, ?_, hbel2⟩
              rw [makeA_ok HE.out]
              exact ⟨A1, c1, rfl, hc1, HC1.out⟩
        · have HE := Aside0.mk (makeE_many HGL.out HRM.out hl5)
          have hl6 : 500 < (l.length : Int) := by omega
          go_wp2
          go_ret2
          exact ⟨_, ret_pair HE.out.symm, by rw [makeA_bad (by rw [HE.out]; decide)]; exact RA_nil _, hbel⟩
end Go.Proofs.Ytjpobhdgfdeenaa.A

/- The law ArrayMakes. -/
set_option linter.unusedVariables false
set_option linter.unusedSimpArgs false
namespace Go.Proofs.Ytjpobhdgfdeenaa.A
open Go.RowKit Go.Proofs.YtjpobhdgfdeenaaW.PrintWords Go.Maps

theorem makeE_zero {b : Int} {l : List Int} (h : makeE b l = 0) : GoodL l ∧ roomB b = true ∧ l.length ≤ 500 := by
  unfold makeE at h
  split at h
  · rename_i h1
    split at h
    · exact ⟨h1.1, h1.2, by assumption⟩
    · cases h
  · cases h
theorem make_arr {b : Int} {l : List Int} (h : makeE b l = 0) : Arr b (makeA b l) ∧ (makeA b l).flatten = l := by
  obtain ⟨h1, h2, h3⟩ := makeE_zero h
  have hb : 2 ≤ b ∧ b ≤ 50 := of_decide_eq_true h2
  obtain ⟨h4, h5⟩ := makeN_inv hb.1 l l.length (Nat.le_refl _)
  rw [List.take_length] at h4
  rw [makeA_ok h]
  exact ⟨⟨hb, h5, by rw [h4]; exact h1.1, by rw [h4]; exact h1.2, by rw [h4]; exact h3⟩, h4⟩
set_option maxHeartbeats 2000000 in
theorem lawMakes_row (w : World) (b : Int) (_ : (Lit.int .i64 b).wf = true) (A : Option Addr) (c : Nat) (l : List Int) (hr : Kd.C (Kd.int .i64) w A l.length l) (_ : ∀ n ∈ l, (Lit.int .i64 n).wf = true) :
    Calls Try.prog 3 #[.int .i64 b, .slice A l.length c] w fun e w' => e = .returned (.bool true) ∧ Below w.heap.size w w' := by
  have HR := Aside0.mk hr
  have hm := (C_len hr).2
  by_cases h150 : 150 < l.length
  · have h151 : 150 < (l.length : Int) := by omega
    clear hr
    go_enter Try.func3, Try.ntmps3
    go_wp2_with (go_at_call 9; go_must (refine (awake_calls _).mono ?_; rintro e w2 ⟨rfl, hb2⟩))
    go_ret
    exact ⟨rfl, hb2⟩
  · have h151 : ¬ (150 < (l.length : Int)) := by omega
    have HM := Aside0.mk (Make_calls b A c l w hr (by omega))
    have HRM := fun W h => Aside0.mk (rMake_calls b A c l W h (by omega))
    clear hr
    by_cases hE : makeE b l = 0
    · obtain ⟨harr, hflat⟩ := make_arr hE
      have hv := (validB_iff b _).2 harr
      have hkf : keysF b (makeA b l) = l := by unfold keysF; rw [if_pos hv, hflat]
      rw [hE] at HM HRM
      generalize makeA b l = a at HM HRM hv hkf
      have HK := fun A1 c1 W h => Aside0.mk (Keys_calls b A1 c1 a W h)
      rw [hv, hkf] at HK
      have HV := Aside0.mk hv
      clear hv hkf hE harr hflat h150
      go_enter Try.func3, Try.ntmps3
      go_wp2_with (first | (go_at_call 10; go_must (refine HM.out.mono ?_; rintro e w1 ⟨v1, rfl, ⟨A1, c1, rfl, hc1, hC1⟩, hb1⟩; have HC1 := Aside0.mk hC1; clear hC1)) | (go_at_call 11; go_must (refine (HRM _ (Kd.C_below HR.out hb1)).out.mono ?_; rintro e w2 ⟨v2, rfl, ⟨A2, c2, rfl, hc2, hC2⟩, hb2'⟩; have HC2 := Aside0.mk hC2; have HC12 := Aside0.mk (Kd.C_below HC1.out hb2'); have hb2 := hb1.trans (hb2'.mono hb1.size); clear hC2 hb2')) | (go_at_call 12; go_must (refine (SameBlocks_calls _ _ _ _ _ _ _ HC12.out HC2.out).mono ?_; rintro e w3 ⟨rfl, ⟨m3, rfl⟩⟩; have HC13 := Aside0.mk (Kd.C_drewN HC12.out m3); have hb3 := pw_below_drewN hb2 m3)) | (go_at_call 13; go_must (refine (HK _ _ _ HC13.out).out.mono ?_; rintro e w4 ⟨v4, rfl, ho4, hb4'⟩; have hb4 := hb3.trans (hb4'.mono hb3.size); have HC14 := Aside0.mk (Kd.C_below HC13.out hb4'); obtain ⟨A4, c4, e4, _, hC4⟩ := OI_reads ho4; subst e4; have HC4 := Aside0.mk hC4; clear hC4 ho4 hb4')) | (go_at_call 14; go_must (refine (SameInts_calls _ _ _ _ _ _ _ HC4.out (Kd.C_below HR.out hb4)).mono ?_; rintro e w5 ⟨rfl, ⟨m5, rfl⟩⟩; have HC15 := Aside0.mk (Kd.C_drewN HC14.out m5); have hb5 := pw_below_drewN hb4 m5)) | (go_at_call 15; go_must (refine (valid_is HV.out _ _ _ HC15.out).mono ?_; rintro e w6 ⟨rfl, hb6'⟩; have hb6 := hb5.trans (hb6'.mono hb5.size); clear hb6')) | (go_at_call 9; go_must (refine (awake_calls _).mono ?_; rintro e w7 ⟨rfl, hb7⟩)))
      go_ret
      exact ⟨rfl, hb6.trans (hb7.mono hb6.size)⟩
    · have hE2 : ¬ (makeE b l = 0) := hE
      have hE3 : (makeE b l == 0) = false := by simpa using hE
      generalize makeE b l = E at HM HRM hE2 hE3
      generalize makeA b l = a at HM HRM
      clear hE h150 hE2
      go_enter Try.func3, Try.ntmps3
      go_wp2_with (first | (go_at_call 10; go_must (refine HM.out.mono ?_; rintro e w1 ⟨v1, rfl, ⟨A1, c1, rfl, hc1, hC1⟩, hb1⟩; have HC1 := Aside0.mk hC1; clear hC1)) | (go_at_call 11; go_must (refine (HRM _ (Kd.C_below HR.out hb1)).out.mono ?_; rintro e w2 ⟨v2, rfl, ⟨A2, c2, rfl, hc2, hC2⟩, hb2'⟩; have HC2 := Aside0.mk hC2; have HC12 := Aside0.mk (Kd.C_below HC1.out hb2'); have hb2 := hb1.trans (hb2'.mono hb1.size); clear hC2 hb2')) | (go_at_call 12; go_must (refine (SameBlocks_calls _ _ _ _ _ _ _ HC12.out HC2.out).mono ?_; rintro e w3 ⟨rfl, ⟨m3, rfl⟩⟩; have hb3 := pw_below_drewN hb2 m3)) | (go_at_call 9; go_must (refine (awake_calls _).mono ?_; rintro e w7 ⟨rfl, hb7⟩)))
      go_ret
      exact ⟨rfl, hb3.trans (hb7.mono hb3.size)⟩
end Go.Proofs.Ytjpobhdgfdeenaa.A
