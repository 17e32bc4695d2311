/- slices.Insert of one value into a row of whole numbers that the call owns: four ways. -/
import Derived.Below
import Derived.Deep.Draws
import Derived.Deep.AppendLies
import Derived.Maps.AppendAt
import Derived.Maps.OwnSet
import Derived.OwnWalk
import Derived.Laws.BytesArg
import Derived.Laws.MakeOwn
import Derived.Laws.OwnMore
import Derived.Deep.OwnRows
import Derived.Tactics
import Derived.Laws.Slices
import Derived.WalkKit
import Derived.KernelRfl
import Derived.RowKit3
import Derived.Deep.LoopGhost
import Derived.Deep.QuietTactic
import Derived.BigQuiet
import Derived.WideLaws
import Derived.Deep.DeepCutAuto
import Derived.Deep.CutBlock
import Derived.Deep.RegionHeld3
import Derived.Laws.Rows
import Derived.ArgAppend
import Derived.Laws.IdiomCopy
import Derived.OrdersHeld
import Derived.Laws.BitsLemmas
import Derived.Outline
import Derived.WalkSpells
import Derived.Lib.Hide
import Derived.RowKit
import Derived.Deep.DeepMust
import Derived.Shelf.Spec.SlicesInsert
import Derived.Lib.AppendZerosOnto
import Derived.Lib.Overlaps
import Derived.Laws.Externs
import Derived.Laws.CopyOwn
import Derived.StillTailTactics
import Derived.Test.YtjpobhdgfdeenaaProg
import Derived.Test.YtjpobhdgfdeenaaM1
namespace Go.Proofs.Ytjpobhdgfdeenaa.A
open Go.RowKit Go.Lib Go.Proofs.YtjpobhdgfdeenaaW.PrintWords Go.Maps

/-- Block g of w is a row of type e whose cells are cur. -/
abbrev Blk (w : World) (g : Nat) (e : TypeId) (cur : List Value) : Prop := w.heap[g]? = some (.cells cur.toArray e (0, 0))
theorem blk_cell {w : World} {g : Nat} {e : TypeId} {cur : List Value} (h : Blk w g e cur) (j : Nat) : w.cell? ⟨g, j, none⟩ = cur[j]? := by
  simp [World.cell?, h]
theorem blk_free {w : World} {g : Nat} {e : TypeId} {cur : List Value} (h : Blk w g e cur) (j : Nat) : w.frozen? ⟨g, j, none⟩ = false := by simp [World.frozen?, h]
theorem blk_lt {w : World} {g : Nat} {e : TypeId} {cur : List Value} (h : Blk w g e cur) : g < w.heap.size := (Array.getElem?_eq_some_iff.1 h).1
/-- What a slice of n values at the head of block g, of room c, holds. -/
structure Holds (w : World) (g : Nat) (e : TypeId) (n c : Nat) (xs : List Value) : Prop where
  out : ∃ cur, Blk w g e cur ∧ xs.length = n ∧ n ≤ c ∧ c ≤ cur.length ∧ cur.length ≤ 9223372036854775807 ∧ cur.take n = xs ∧ 0 < c
theorem setRow_grown (w : World) (g : Nat) (cs : Array Value) : w.grownBy (w.setRow g cs) (some g) :=
  ⟨rfl, rfl, rfl, by simp [World.setRow], fun k _ hk => setRow_other w g k _ (fun e => hk (by rw [e]))⟩
theorem drew_grown {w w' : World} {r : Option Nat} (h : w.grownBy w' r) : w.grownBy w'.drew r := ⟨h.os, h.tape, h.output, h.size, h.block⟩
theorem drewN_grown {w w' : World} {r : Option Nat} (h : w.grownBy w' r) (n : Nat) : w.grownBy (w'.drewN n) r := ⟨h.os, h.tape, h.output, h.size, h.block⟩
theorem grown_trans {a b c : World} {r : Option Nat} (h : a.grownBy b r) (k : b.grownBy c r) : a.grownBy c r :=
  ⟨k.os.trans h.os, k.tape.trans h.tape, k.output.trans h.output, Nat.le_trans h.size k.size, fun i hi hn => (k.block i (Nat.lt_of_lt_of_le hi h.size) hn).trans (h.block i hi hn)⟩

theorem grown_new {a b c : World} {k : Nat} (h : a.grownBy b none) (hk : b.grownBy c (some k)) (hn : a.heap.size ≤ k := by exact Nat.le_refl _) : a.grownBy c none :=
  ⟨hk.os.trans h.os, hk.tape.trans h.tape, hk.output.trans h.output, Nat.le_trans h.size hk.size, fun i hi hne => (hk.block i (Nat.lt_of_lt_of_le hi h.size) (fun e => by injection e; omega)).trans (h.block i hi hne)⟩

theorem zero3 : Try.prog.info? 3 ≠ none := by
  intro h
  have := infoA3
  rw [h] at this
  cases this
/-- One value more behind the last one, in place. -/
theorem ins60_end_room (g n c vb : Nat) (cur : List Value) (u : Value) (w : World) (hg : Blk w g 3 cur) (hnc : n + 1 ≤ c) (hcs : c ≤ cur.length) (hmx : cur.length ≤ 9223372036854775807) (hv : Blk w vb 3 [u]) (hu : u.oneCell' = true) :
    Calls Try.prog 60 #[.slice (some ⟨g, 0, none⟩) n c, .int .i64 n, .slice (some ⟨vb, 0, none⟩) 1 1] w fun e w' =>
      e = .returned (.slice (some ⟨g, 0, none⟩) (n + 1) c) ∧ w' = w.setRow g (cur.take n ++ [u] ++ cur.drop (n + 1)).toArray := by
  obtain ⟨i0, hi0, hz0, hzs, hzb⟩ := info_parts infoA3
  have hrun : ∀ ty, (Builtin.append_ #[22, 22] ty #[.slice (some ⟨g, 0, none⟩) n c, .slice (some ⟨vb, 0, none⟩) 1 1]).run Try.prog w = .ok (.slice (some ⟨g, 0, none⟩) (n + 1) c) (w.setRow g (cur.take n ++ [u] ++ cur.drop (n + 1)).toArray) := fun ty => by
    have h := run_append_room (P := Try.prog) w 22 ty 3 i0 Try.underlying22 hi0 g n c cur.toArray hg ⟨vb, 0, none⟩ 1 1 [u] (by rw [hzs]; rfl) (fun j x hj => by rw [Addr.add_lit, Nat.zero_add, blk_cell hv]; exact hj) (by simpa using hu) hnc (by rw [hzs]; simp; omega)
    rw [hzs] at h
    simpa using h
  have hn1 : (n : Int) ≤ 9223372036854775807 := by omega
  have hcn : ¬ (c = n) := by omega
  go_enter Try.func60, Try.ntmps60
  go_wp2_with (at_builtin; refine Lib.wpList_append_run _ rfl _ _ _ _ rfl _ _ rfl rfl _ _ (hrun _) ?_)
  go_ret
  exact ⟨rfl, by simp⟩
/-- .. in a new row. -/
theorem ins60_end_grow (g n c vb : Nat) (cur : List Value) (u : Value) (w : World) (hg : Blk w g 3 cur) (h0 : 0 < c) (hnc : n ≤ c) (hroom : c < n + 1) (hcs : c ≤ cur.length) (hsm : n ≤ 1000000) (hv : Blk w vb 3 [u]) :
    Calls Try.prog 60 #[.slice (some ⟨g, 0, none⟩) n c, .int .i64 n, .slice (some ⟨vb, 0, none⟩) 1 1] w fun e w' => ∃ G rest,
      e = .returned (.slice (some ⟨w.heap.size, 0, none⟩) (n + 1) G) ∧ n + 1 ≤ G ∧ G ≤ 9223372036854775807 ∧ (cur.take n ++ [u] ++ rest).length = G ∧ w' = w.drew.alloc (.cells (cur.take n ++ [u] ++ rest).toArray 3) := by
  obtain ⟨i0, hi0, hz0, hzs, hzb⟩ := info_parts infoA3
  obtain ⟨G, hG⟩ : ∃ G, G = grownCap w (n + 1) c 3 := ⟨_, rfl⟩
  have hGn : n + 1 ≤ G := by rw [hG]; exact grownCap_ge w _ _ _
  have hG63 : G ≤ 9223372036854775807 := by
    have := grownCap_le_maxLen w (n + 1) c 3 (by unfold maxLen; omega)
    rw [← hG] at this
    unfold maxLen at this
    omega
  obtain ⟨rest, hrest⟩ : ∃ rest : List Value, rest = (Builtin.zeroCells (Value.int .i64 0).cells (G - (n + 1))).toList := ⟨_, rfl⟩
  have hrl : rest.length = G - (n + 1) := by
    rw [hrest]
    simp [Builtin.zeroCells, Value.cells]
  have hrun : ∀ ty, (Builtin.append_ #[22, 22] ty #[.slice (some ⟨g, 0, none⟩) n c, .slice (some ⟨vb, 0, none⟩) 1 1]).run Try.prog w = .ok (.slice (some ⟨w.heap.size, 0, none⟩) (n + 1) G) (w.drew.alloc (.cells (cur.take n ++ [u] ++ rest).toArray 3)) := fun ty => by
    have h := run_append_grow (P := Try.prog) w 22 ty 3 i0 _ Try.underlying22 hi0 hz0 ⟨g, 0, none⟩ n c (cur.take n) (by rw [hzs, List.length_take]; omega) (fun j x hj => by
      rw [Addr.add_lit, Nat.zero_add, blk_cell hg]
      rw [List.getElem?_take] at hj
      split at hj
      · exact hj
      · cases hj) ⟨vb, 0, none⟩ 1 1 [u] (by rw [hzs]; rfl) (fun j x hj => by rw [Addr.add_lit, Nat.zero_add, blk_cell hv]; exact hj) hroom (by omega) (growslice_fits hroom (by rw [hzb]; omega))
    rw [← hG] at h
    rw [h, hrest]
    congr 3
    apply Array.ext'
    simp
  have hn1 : (n : Int) ≤ 9223372036854775807 := by omega
  clear hG hrest
  go_enter Try.func60, Try.ntmps60
  go_wp2_with (at_builtin; refine Lib.wpList_append_run _ rfl _ _ _ _ rfl _ _ rfl rfl _ _ (hrun _) ?_)
  all_goals
    go_ret
    exact ⟨G, rest, rfl, hGn, hG63, by simp [hrl]; omega, by simp only [List.append_assoc, List.singleton_append]; rfl⟩
theorem hsz3 : (Try.prog.info? 3).map (·.size) = some 1 := by
  obtain ⟨i0, hi0, h0, h1, h2⟩ := info_parts infoA3
  rw [hi0]; simp [h1]
theorem size3 (w : World) : (sizeOf 3).run Try.prog w = .ok 1 w := by kernel_rfl
theorem shift_list {α : Type} (cur mid C1 C2 : List α) (u : α) (n i : Nat) (hi : i < n) (hn : n + 1 ≤ cur.length) (hM : mid = (cur.take n).drop i)
    (h1 : C1 = cur.take (i + 1) ++ (mid ++ cur.drop (i + 1 + mid.length))) (h2 : C2 = C1.take i ++ ([u] ++ C1.drop (i + 1))) :
    C2.take (n + 1) = (cur.take n).take i ++ u :: (cur.take n).drop i := by
  have hml : mid.length = n - i := by rw [hM]; simp; omega
  have e1 : C1.take i = cur.take i := by
    rw [h1, List.take_append_of_le_length (by simp; omega), List.take_take, Nat.min_eq_left (by omega)]
  have e2 : C1.drop (i + 1) = mid ++ cur.drop (i + 1 + mid.length) := by
    rw [h1]
    exact List.drop_left' (by simp; omega)
  rw [h2, e1, e2, List.take_append, List.take_of_length_le (by simp; omega), List.take_take, Nat.min_eq_left (by omega), ← hM]
  congr 1
  have e3 : n + 1 - (cur.take i).length = (n - i) + 1 := by simp; omega
  rw [e3, List.singleton_append, List.take_succ_cons, List.take_left' hml]
/-- One value between others, in place. -/
theorem ins60_shift (g n c i vb : Nat) (cur : List Value) (u : Value) (w : World) (hg : Blk w g 3 cur) (hi : i < n) (hnc : n + 1 ≤ c) (hcs : c ≤ cur.length) (hmx : cur.length ≤ 9223372036854775807) (hv : Blk w vb 3 [u]) (hvb : vb ≠ g) (hu : u.oneCell' = true) (h1 : ∀ x ∈ cur.take n, x.oneCell' = true) :
    Calls Try.prog 60 #[.slice (some ⟨g, 0, none⟩) n c, .int .i64 i, .slice (some ⟨vb, 0, none⟩) 1 1] w fun e w' => ∃ cur',
      e = .returned (.slice (some ⟨g, 0, none⟩) (n + 1) c) ∧ cur'.length = cur.length ∧ cur'.take (n + 1) = (cur.take n).take i ++ u :: (cur.take n).drop i ∧ w.grownBy w' (some g) ∧ Blk w' g 3 cur' := by
  have hz2 : ¬ ((i : Int) = (n : Int)) := by omega
  have hov : ∀ lb cb, (callFunc 71 #[.slice (some ⟨vb, 0, none⟩) 1 1, .slice (some ⟨g, i + 1, none⟩) lb cb]).run Try.prog w = .ok (.value (.bool false)) w := fun lb cb => by
    rw [run_callFunc_extern Try.func71 (by kernel_rfl) (by kernel_rfl) (by kernel_rfl) (e := Extern.SlicesOverlaps.overlaps #[22, 22] #[4]) (by kernel_rfl),
      Lib.run_overlaps_apart w 22 4 3 Try.underlying22 1 size3 ⟨vb, 0, none⟩ ⟨g, i + 1, none⟩ 1 1 lb cb hvb 3 3 1 cur.length (by simp [World.shape?, hv]) (by simp [World.shape?, hg]) (by omega) (blk_free hv _) (blk_free hv _)]
    rfl
  obtain ⟨mid, hmid⟩ : ∃ mid : List Value, mid = (cur.take n).drop i := ⟨_, rfl⟩
  have hml : mid.length = n - i := by rw [hmid]; simp; omega
  obtain ⟨C1, hC1⟩ : ∃ C1 : List Value, C1 = cur.take (i + 1) ++ (mid ++ cur.drop (i + 1 + mid.length)) := ⟨_, rfl⟩
  obtain ⟨C2, hC2⟩ : ∃ C2 : List Value, C2 = C1.take i ++ ([u] ++ C1.drop (i + 1)) := ⟨_, rfl⟩
  have hl1 : C1.length = cur.length := by rw [hC1]; simp; omega
  have hl2 : C2.length = cur.length := by rw [hC2]; simp; omega
  have hlaw1 : ∀ (W : World), Blk W g 3 cur → ∀ j v, mid[j]? = some v → W.cell? ((⟨g, i, none⟩ : Addr).add j) = some v := fun W hW j x hj => by
    rw [Addr.add_lit, blk_cell hW]
    rw [hmid, List.getElem?_drop, List.getElem?_take] at hj
    split at hj
    · exact hj
    · cases hj
  have hlaw2 : ∀ (W : World), Blk W vb 3 [u] → ∀ j v, [u][j]? = some v → W.cell? ((⟨vb, 0, none⟩ : Addr).add j) = some v := fun W hW j x hj => by rw [Addr.add_lit, Nat.zero_add, blk_cell hW]; exact hj
  have hn1 : (n : Int) + 1 ≤ (c : Int) := by omega
  have hc1 : (c : Int) ≤ 9223372036854775807 := by omega
  have hb3 : (i : Int) + 1 ≤ (n : Int) + 1 := by omega
  have hb4 : ¬ (c = i) := by omega
  have hb5 : ¬ (c = i + 1) := by omega
  have hw1 : IntKind.i64.wrap ((i : Int) + 1) = (i : Int) + 1 := by rw [IntKind.wrap_i64]; omega
  have h0i : (0 : Int) ≤ (i : Int) + 1 := by omega
  have htn : ((i : Int) + 1).toNat = i + 1 := by omega
  have hin : (i : Int) ≤ (n : Int) + 1 := by omega
  have HC1 := Aside0.mk hC1
  have HC2 := Aside0.mk hC2
  have HM := Aside0.mk hmid
  have HML := Aside0.mk hml
  have HL1 := Aside0.mk hl1
  have HL2 := Aside0.mk hl2
  clear hC1 hC2 hmid hml hl1 hl2
  go_enter Try.func60, Try.ntmps60
  go_wp2_with (simp only [hov])
  go_still_tail 8, (by kernel_rfl)
  change wpList _ _ _ _ _ w.drew
  go_wp2_with (first | ((with_reducible refine at_b (b := .copy) (xs := #[.tmp 73, .tmp 76]) rfl ?_); go_must (refine wpList_copy_own rfl _ _ 22 22 rfl 3 Try.underlying22 hsz3 g (i + 1) _ _ ⟨g, i, none⟩ _ _ rfl rfl cur.toArray 3 hg mid (by have := HML.out; simp only [Nat.min_def]; split <;> omega) (hlaw1 _ hg) (by have := HML.out; simp; omega) (fun x hx => h1 x (List.mem_of_mem_drop (HM.out ▸ hx))) ?_; generalize hW1 : World.setRow _ _ _ = W1; have hB1 : Blk W1 g 3 C1 := (by rw [← hW1, HC1.out]; exact setRow_heap w.drew g _ _ 3 _ hg); have hBv : Blk W1 vb 3 [u] := (by rw [← hW1]; exact (setRow_other w.drew g vb _ hvb).trans hv); have hg1 : w.grownBy W1 (some g) := (by rw [← hW1]; exact grown_trans (drew_grown (World.grownBy.refl w _)) (setRow_grown w.drew g _)); clear hW1)) | ((with_reducible refine at_b (b := .copy) (xs := #[.tmp 80, .tmp 81]) rfl ?_); go_must (refine wpList_copy_own rfl _ _ 22 22 rfl 3 Try.underlying22 hsz3 g i _ _ ⟨vb, 0, none⟩ _ _ rfl rfl C1.toArray 3 hB1 [u] (by simp only [Nat.min_def]; split <;> simp; omega) (hlaw2 _ hBv) (by have := HL1.out; simp; omega) (by simpa using hu) ?_; generalize hW2 : World.setRow _ _ _ = W2; have hB2 : Blk W2 g 3 C2 := (by rw [← hW2, HC2.out]; exact setRow_heap W1 g _ _ 3 _ hB1); have hg2 : w.grownBy W2 (some g) := (by rw [← hW2]; exact grown_trans hg1 (setRow_grown W1 g _)); clear hW2)))
  go_ret
  refine ⟨C2, rfl, HL2.out, ?_, hg2, hB2⟩
  · exact shift_list cur mid C1 C2 u n i hi (by omega) HM.out HC1.out HC2.out
end Go.Proofs.Ytjpobhdgfdeenaa.A

/- slices.Insert of one value between others into a row of whole numbers, in a new row. -/
namespace Go.Proofs.Ytjpobhdgfdeenaa.A
open Go.RowKit Go.Lib Go.Proofs.YtjpobhdgfdeenaaW.PrintWords Go.Maps

theorem ins60_grow (g n c i vb : Nat) (cur : List Value) (u : Value) (w : World) (hg : Blk w g 3 cur) (hi : i < n) (hnc : n ≤ c) (hroom : c < n + 1) (hcs : c ≤ cur.length) (hmx : cur.length ≤ 9223372036854775807) (hsm : n ≤ 1000000) (hv : Blk w vb 3 [u]) (_hvb : vb ≠ g) (hu : u.oneCell' = true) (h1 : ∀ x ∈ cur.take n, x.oneCell' = true) :
    Calls Try.prog 60 #[.slice (some ⟨g, 0, none⟩) n c, .int .i64 i, .slice (some ⟨vb, 0, none⟩) 1 1] w fun e w' => ∃ G cur',
      e = .returned (.slice (some ⟨w.heap.size, 0, none⟩) (n + 1) G) ∧ n + 1 ≤ G ∧ cur'.length = G ∧ G ≤ 9223372036854775807 ∧ cur'.take (n + 1) = (cur.take n).take i ++ u :: (cur.take n).drop i ∧ w.grownBy w' none ∧ Blk w' w.heap.size 3 cur' := by
  have hz2 : ¬ ((i : Int) = (n : Int)) := by omega
  have hz3 : (c : Int) < (n : Int) + 1 := by omega
  obtain ⟨i0, hi0, hz0, hzs, hzb⟩ := info_parts infoA3
  have hgw := blk_lt hg
  have hvw := blk_lt hv
  obtain ⟨G, hG⟩ : ∃ G, G = grownCap w (n + 1) c 3 := ⟨_, rfl⟩
  have hGn : n + 1 ≤ G := by rw [hG]; exact grownCap_ge w _ _ _
  have hG63 : G ≤ 9223372036854775807 := by
    have := grownCap_le_maxLen w (n + 1) c 3 (by unfold maxLen; omega)
    rw [← hG] at this
    unfold maxLen at this
    omega
  obtain ⟨C0, hC0⟩ : ∃ C0 : List Value, C0 = cur.take i ++ ((Builtin.zeroCells (Value.int .i64 0).cells (n + 1 - i)).toList ++ (Builtin.zeroCells (Value.int .i64 0).cells (G - (n + 1))).toList) := ⟨_, rfl⟩
  have hl0 : C0.length = G := by
    rw [hC0]
    simp [Builtin.zeroCells, Value.cells]
    omega
  have hkk : (n : Int) + 1 - (i : Int) = ((n + 1 - i : Nat) : Int) := by omega
  have hik : i + (n + 1 - i) = n + 1 := by omega
  have hold : (Builtin.firstCells i0.size i (.slice (some ⟨g, 0, none⟩) i c)).run Try.prog w.drew = .ok (cur.take i).toArray w.drew := by
    rw [hzs]
    exact run_firstCells_some w.drew 1 i ⟨g, 0, none⟩ i c (cur.take i) (by rw [List.length_take]; omega) (fun j v hj => by
      rw [Addr.add_lit, Nat.zero_add]
      have := blk_cell (show Blk w.drew g 3 cur from hg) j
      rw [this]
      rw [List.getElem?_take] at hj
      split at hj
      · exact hj
      · cases hj)
  have hrz : ∀ ty, (Builtin.append_ #[22, 3] ty #[.slice (some ⟨g, 0, none⟩) i c, .int .i64 ((n : Int) + 1 - (i : Int))]).run Try.prog w =
      .ok (.slice (some ⟨w.heap.size, 0, none⟩) (n + 1) G) (w.drew.alloc (.cells C0.toArray 3)) := fun ty => by
    have h := Lib.run_append_grow_zeros w 22 3 ty 3 i0 _ .i64 .i64 Try.underlying22 Try.underlying3 hi0 hz0 (some ⟨g, 0, none⟩) i c (cur.take i) hold (n + 1 - i) (by omega) (by omega) (by omega) (by omega) (by rw [hzb]; omega) (by rw [hzb, hik]; exact growslice_fits hroom (by omega))
    rw [hik, ← hG] at h
    rw [hkk, h, hC0]
    congr 3
    apply Array.ext'
    simp
  obtain ⟨mid, hmid⟩ : ∃ mid : List Value, mid = (cur.take n).drop i := ⟨_, rfl⟩
  have hml : mid.length = n - i := by rw [hmid]; simp; omega
  obtain ⟨C1, hC1⟩ : ∃ C1 : List Value, C1 = C0.take i ++ ([u] ++ C0.drop (i + 1)) := ⟨_, rfl⟩
  obtain ⟨C2, hC2⟩ : ∃ C2 : List Value, C2 = C1.take (i + 1) ++ (mid ++ C1.drop (i + 1 + mid.length)) := ⟨_, rfl⟩
  have hl1 : C1.length = G := by rw [hC1]; simp; omega
  have hl2 : C2.length = G := by rw [hC2]; simp; omega
  have hlaw1 : ∀ (W : World), Blk W g 3 cur → ∀ j v, mid[j]? = some v → W.cell? ((⟨g, i, none⟩ : Addr).add j) = some v := fun W hW j x hj => by
    rw [Addr.add_lit, blk_cell hW]
    rw [hmid, List.getElem?_drop, List.getElem?_take] at hj
    split at hj
    · exact hj
    · cases hj
  have hlaw2 : ∀ (W : World), Blk W vb 3 [u] → ∀ j v, [u][j]? = some v → W.cell? ((⟨vb, 0, none⟩ : Addr).add j) = some v := fun W hW j x hj => by rw [Addr.add_lit, Nat.zero_add, blk_cell hW]; exact hj
  have hfin : C2.take (n + 1) = (cur.take n).take i ++ u :: (cur.take n).drop i := by
    have e0 : C1.take (i + 1) = cur.take i ++ [u] := by
      rw [hC1, List.take_append, List.take_of_length_le (by simp; omega)]
      have e1 : i + 1 - (C0.take i).length = 1 := by simp; omega
      rw [e1, hC0, List.take_append_of_le_length (by simp; omega), List.take_take, Nat.min_self]
      rfl
    rw [hC2, e0, List.take_append, List.take_of_length_le (by simp; omega), List.take_take, Nat.min_eq_left (by omega), ← hmid]
    have e3 : n + 1 - (cur.take i ++ [u]).length = n - i := by simp; omega
    rw [e3, List.take_left' hml]
    simp
  have hc1 : (c : Int) ≤ 9223372036854775807 := by omega
  have hb3 : (i : Int) + 1 ≤ (n : Int) + 1 := by omega
  have hGi : ¬ (G = i) := by omega
  have hGim : ¬ (G = i + 1) := by omega
  have hci : ¬ (c = i) := by omega
  have hw1 : IntKind.i64.wrap ((i : Int) + 1) = (i : Int) + 1 := by rw [IntKind.wrap_i64]; omega
  have h0i : (0 : Int) ≤ (i : Int) + 1 := by omega
  have htn : ((i : Int) + 1).toNat = i + 1 := by omega
  have hin : (i : Int) ≤ (n : Int) := by omega
  have hnG : (n : Int) + 1 ≤ (G : Int) := by omega
  have hGI : (G : Int) ≤ 9223372036854775807 := by omega
  have HC1 := Aside0.mk hC1
  have HC2 := Aside0.mk hC2
  have HM := Aside0.mk hmid
  have HML := Aside0.mk hml
  have HL0 := Aside0.mk hl0
  have HL1 := Aside0.mk hl1
  have HL2 := Aside0.mk hl2
  have HF := Aside0.mk hfin
  clear hC0 hC1 hC2 hmid hml hl0 hl1 hl2 hfin hkk hik hold hG
  go_enter Try.func60, Try.ntmps60
  go_wp2_with (first | ((with_reducible refine at_b (b := .append) (xs := #[.tmp 34, .tmp 39]) rfl ?_); go_must (refine Lib.wpList_append_run _ rfl _ _ _ _ rfl _ _ rfl rfl _ _ (hrz _) ?_; generalize hW0 : World.alloc _ _ = W0; have hB0 : Blk W0 w.heap.size 3 C0 := (by rw [← hW0]; exact heap_alloc_new w.drew _); have hBv : Blk W0 vb 3 [u] := (by rw [← hW0]; exact (Below.heap_alloc w.drew _ vb hvw).trans hv); have hBg : Blk W0 g 3 cur := (by rw [← hW0]; exact (Below.heap_alloc w.drew _ g hgw).trans hg); have hg0 : w.grownBy W0 none := (by rw [← hW0]; exact grown_trans (drew_grown (World.grownBy.refl w _)) (World.grownBy_alloc w.drew _ none)); clear hW0)) | ((with_reducible refine at_b (b := .copy) (xs := #[.tmp 43, .tmp 44]) rfl ?_); go_must (refine wpList_copy_own rfl _ _ 22 22 rfl 3 Try.underlying22 hsz3 w.heap.size i _ _ ⟨vb, 0, none⟩ _ _ rfl rfl C0.toArray 3 hB0 [u] (by simp only [Nat.min_def]; split <;> simp; omega) (hlaw2 _ hBv) (by have := HL0.out; simp; omega) (by simpa using hu) ?_; generalize hW1 : World.setRow _ _ _ = W1; have hB1 : Blk W1 w.heap.size 3 C1 := (by rw [← hW1, HC1.out]; exact setRow_heap W0 _ _ _ 3 _ hB0); have hBg1 : Blk W1 g 3 cur := (by rw [← hW1]; exact (setRow_other W0 w.heap.size g _ (by omega)).trans hBg); have hg1 : w.grownBy W1 none := (by rw [← hW1]; exact grown_new hg0 (setRow_grown W0 w.heap.size _)); clear hW1)))
  go_simp
  go_still_tail 8, (by kernel_rfl)
  change wpList _ _ _ _ _ W1.drew
  go_wp2_with (first | ((with_reducible refine at_b (b := .copy) (xs := #[.tmp 50, .tmp 53]) rfl ?_); go_must (refine wpList_copy_own rfl _ _ 22 22 rfl 3 Try.underlying22 hsz3 w.heap.size (i + 1) _ _ ⟨g, i, none⟩ _ _ rfl rfl C1.toArray 3 (show Blk W1.drew w.heap.size 3 C1 from hB1) mid (by have := HML.out; simp only [Nat.min_def]; split <;> omega) (hlaw1 _ hBg1) (by have := HML.out; have := HL1.out; simp; omega) (fun x hx => h1 x (List.mem_of_mem_drop (HM.out ▸ hx))) ?_; generalize hW2 : World.setRow _ _ _ = W2; have hB2 : Blk W2 w.heap.size 3 C2 := (by rw [← hW2, HC2.out]; exact setRow_heap W1.drew _ _ _ 3 _ hB1); have hg2 : w.grownBy W2 none := (by rw [← hW2]; exact grown_new (drew_grown hg1) (setRow_grown W1.drew w.heap.size _)); clear hW2)))
  go_ret
  exact ⟨G, C2, rfl, hGn, HL2.out, hG63, HF.out, hg2, hB2⟩

/-- A slice of the call's own at the head of a block of type e: what it holds. -/
def OwnS (w : World) (base : Nat) (e : TypeId) (v : Value) (xs : List Value) : Prop :=
  ∃ g c cur, v = .slice (some ⟨g, 0, none⟩) xs.length c ∧ base ≤ g ∧ Blk w g e cur ∧ xs.length ≤ c ∧ c ≤ cur.length ∧ cur.length ≤ 9223372036854775807 ∧ cur.take xs.length = xs ∧ 0 < c ∧ ∀ x ∈ xs, x.oneCell' = true
theorem ins_len {α : Type} (xs : List α) (i : Nat) (hi : i ≤ xs.length) (u : α) : (xs.take i ++ u :: xs.drop i).length = xs.length + 1 := by
  simp
  omega
theorem ins_mem {xs : List Value} {i : Nat} {u : Value} (hu : u.oneCell' = true) (h : ∀ x ∈ xs, x.oneCell' = true) : ∀ x ∈ xs.take i ++ u :: xs.drop i, x.oneCell' = true := by
  intro x hx
  rcases List.mem_append.1 hx with hx | hx
  · exact h x (List.mem_of_mem_take hx)
  · rcases List.mem_cons.1 hx with rfl | hx
    · exact hu
    · exact h x (List.mem_of_mem_drop hx)
/-- slices.Insert of one value into a row of the call's own. -/
theorem ins60 {base : Nat} {v : Value} {xs : List Value} {w : World} (h : OwnS w base 3 v xs) (i vb : Nat) (hi : i ≤ xs.length) (u : Value) (hsm : xs.length ≤ 1000000) (hv : Blk w vb 3 [u]) (hvb : some vb ≠ v.ownBlock) (hu : u.oneCell' = true) (hb : base ≤ w.heap.size) :
    Calls Try.prog 60 #[v, .int .i64 i, .slice (some ⟨vb, 0, none⟩) 1 1] w fun e w' => ∃ v', e = .returned v' ∧ OwnS w' base 3 v' (xs.take i ++ u :: xs.drop i) ∧ w.grownBy w' v.ownBlock ∧ (v'.ownBlock = v.ownBlock ∨ ∃ b, v'.ownBlock = some b ∧ w.heap.size ≤ b) := by
  obtain ⟨g, c, cur, rfl, hbg, hB, hc1, hc2, hc3, htk, hc0, h1⟩ := h
  have hvb' : vb ≠ g := fun e => hvb (by rw [e]; rfl)
  have hil := ins_len xs i hi u
  have h1' := ins_mem (i := i) hu h1
  rw [← htk] at h1
  by_cases hin : i = xs.length
  · subst hin
    have e0 : cur.take xs.length ++ [u] = xs.take xs.length ++ u :: xs.drop xs.length := by rw [htk]; simp
    by_cases hr : xs.length + 1 ≤ c
    · refine (ins60_end_room g xs.length c vb cur u w hB hr hc2 hc3 hv hu).mono ?_
      rintro e w' ⟨rfl, rfl⟩
      refine ⟨_, rfl, ⟨g, c, cur.take xs.length ++ [u] ++ cur.drop (xs.length + 1), by rw [hil], hbg, setRow_heap w g _ _ 3 _ hB, by rw [hil]; exact hr, by simp; omega, by simp; omega, ?_, hc0, h1'⟩, setRow_grown w g _, .inl rfl⟩
      rw [hil, e0]
      exact List.take_left' hil
    · refine (ins60_end_grow g xs.length c vb cur u w hB hc0 hc1 (by omega) hc2 hsm hv).mono ?_
      rintro e w' ⟨G, rest, rfl, hG1, hG2, hGl, rfl⟩
      refine ⟨_, rfl, ⟨w.heap.size, G, cur.take xs.length ++ [u] ++ rest, by rw [hil], hb, heap_alloc_new w.drew _, by rw [hil]; exact hG1, by omega, by omega, ?_, by omega, h1'⟩, grown_trans (drew_grown (World.grownBy.refl w _)) (World.grownBy_alloc w.drew _ _), .inr ⟨_, rfl, Nat.le_refl _⟩⟩
      rw [hil, e0]
      exact List.take_left' hil
  · by_cases hr : xs.length + 1 ≤ c
    · refine (ins60_shift g xs.length c i vb cur u w hB (by omega) hr hc2 hc3 hv hvb' hu h1).mono ?_
      rintro e w' ⟨cur', rfl, hl, ht, hg, hB'⟩
      rw [htk] at ht
      exact ⟨_, rfl, ⟨g, c, cur', by rw [hil], hbg, hB', by rw [hil]; exact hr, by omega, by omega, by rw [hil]; exact ht, hc0, h1'⟩, hg, .inl rfl⟩
    · refine (ins60_grow g xs.length c i vb cur u w hB (by omega) hc1 (by omega) hc2 hc3 hsm hv hvb' hu h1).mono ?_
      rintro e w' ⟨G, cur', rfl, hG1, hl, hG2, ht, hg, hB'⟩
      rw [htk] at ht
      exact ⟨_, rfl, ⟨w.heap.size, G, cur', by rw [hil], hb, hB', by rw [hil]; exact hG1, by omega, by omega, by rw [hil]; exact ht, by omega, h1'⟩, ⟨hg.os, hg.tape, hg.output, hg.size, fun k hk _ => hg.block k hk (by simp)⟩, .inr ⟨_, rfl, Nat.le_refl _⟩⟩
end Go.Proofs.Ytjpobhdgfdeenaa.A

/- slices.Insert of one row into a row of rows that the call owns. -/
namespace Go.Proofs.Ytjpobhdgfdeenaa.A
open Go.RowKit Go.Lib Go.Proofs.YtjpobhdgfdeenaaW.PrintWords Go.Maps

/-- One value more behind the last one, in place. -/
theorem ins62_end_room (g n c vb : Nat) (cur : List Value) (u : Value) (w : World) (hg : Blk w g 22 cur) (hnc : n + 1 ≤ c) (hcs : c ≤ cur.length) (hmx : cur.length ≤ 9223372036854775807) (hv : Blk w vb 22 [u]) (hu : u.oneCell' = true) :
    Calls Try.prog 62 #[.slice (some ⟨g, 0, none⟩) n c, .int .i64 n, .slice (some ⟨vb, 0, none⟩) 1 1] w fun e w' =>
      e = .returned (.slice (some ⟨g, 0, none⟩) (n + 1) c) ∧ w' = w.setRow g (cur.take n ++ [u] ++ cur.drop (n + 1)).toArray := by
  obtain ⟨i0, hi0, hz0, hzs, hzb⟩ := info_parts infoA22
  have hrun : ∀ ty, (Builtin.append_ #[24, 24] ty #[.slice (some ⟨g, 0, none⟩) n c, .slice (some ⟨vb, 0, none⟩) 1 1]).run Try.prog w = .ok (.slice (some ⟨g, 0, none⟩) (n + 1) c) (w.setRow g (cur.take n ++ [u] ++ cur.drop (n + 1)).toArray) := fun ty => by
    have h := run_append_room (P := Try.prog) w 24 ty 22 i0 Try.underlying24 hi0 g n c cur.toArray hg ⟨vb, 0, none⟩ 1 1 [u] (by rw [hzs]; rfl) (fun j x hj => by rw [Addr.add_lit, Nat.zero_add, blk_cell hv]; exact hj) (by simpa using hu) hnc (by rw [hzs]; simp; omega)
    rw [hzs] at h
    simpa using h
  have hn1 : (n : Int) ≤ 9223372036854775807 := by omega
  have hcn : ¬ (c = n) := by omega
  go_enter Try.func62, Try.ntmps62
  go_wp2_with (at_builtin; refine Lib.wpList_append_run _ rfl _ _ _ _ rfl _ _ rfl rfl _ _ (hrun _) ?_)
  go_ret
  exact ⟨rfl, by simp⟩
/-- .. in a new row. -/
theorem ins62_end_grow (g n c vb : Nat) (cur : List Value) (u : Value) (w : World) (hg : Blk w g 22 cur) (h0 : 0 < c) (hnc : n ≤ c) (hroom : c < n + 1) (hcs : c ≤ cur.length) (hsm : n ≤ 1000000) (hv : Blk w vb 22 [u]) :
    Calls Try.prog 62 #[.slice (some ⟨g, 0, none⟩) n c, .int .i64 n, .slice (some ⟨vb, 0, none⟩) 1 1] w fun e w' => ∃ G rest,
      e = .returned (.slice (some ⟨w.heap.size, 0, none⟩) (n + 1) G) ∧ n + 1 ≤ G ∧ G ≤ 9223372036854775807 ∧ (cur.take n ++ [u] ++ rest).length = G ∧ w' = w.drew.alloc (.cells (cur.take n ++ [u] ++ rest).toArray 22) := by
  obtain ⟨i0, hi0, hz0, hzs, hzb⟩ := info_parts infoA22
  obtain ⟨G, hG⟩ : ∃ G, G = grownCap w (n + 1) c 22 := ⟨_, rfl⟩
  have hGn : n + 1 ≤ G := by rw [hG]; exact grownCap_ge w _ _ _
  have hG63 : G ≤ 9223372036854775807 := by
    have := grownCap_le_maxLen w (n + 1) c 22 (by unfold maxLen; omega)
    rw [← hG] at this
    unfold maxLen at this
    omega
  obtain ⟨rest, hrest⟩ : ∃ rest : List Value, rest = (Builtin.zeroCells (Value.slice none 0 0).cells (G - (n + 1))).toList := ⟨_, rfl⟩
  have hrl : rest.length = G - (n + 1) := by
    rw [hrest]
    simp [Builtin.zeroCells, Value.cells]
  have hrun : ∀ ty, (Builtin.append_ #[24, 24] ty #[.slice (some ⟨g, 0, none⟩) n c, .slice (some ⟨vb, 0, none⟩) 1 1]).run Try.prog w = .ok (.slice (some ⟨w.heap.size, 0, none⟩) (n + 1) G) (w.drew.alloc (.cells (cur.take n ++ [u] ++ rest).toArray 22)) := fun ty => by
    have h := run_append_grow (P := Try.prog) w 24 ty 22 i0 _ Try.underlying24 hi0 hz0 ⟨g, 0, none⟩ n c (cur.take n) (by rw [hzs, List.length_take]; omega) (fun j x hj => by
      rw [Addr.add_lit, Nat.zero_add, blk_cell hg]
      rw [List.getElem?_take] at hj
      split at hj
      · exact hj
      · cases hj) ⟨vb, 0, none⟩ 1 1 [u] (by rw [hzs]; rfl) (fun j x hj => by rw [Addr.add_lit, Nat.zero_add, blk_cell hv]; exact hj) hroom (by omega) (growslice_fits hroom (by rw [hzb]; omega))
    rw [← hG] at h
    rw [h, hrest]
    congr 3
    apply Array.ext'
    simp
  have hn1 : (n : Int) ≤ 9223372036854775807 := by omega
  clear hG hrest
  go_enter Try.func62, Try.ntmps62
  go_wp2_with (at_builtin; refine Lib.wpList_append_run _ rfl _ _ _ _ rfl _ _ rfl rfl _ _ (hrun _) ?_)
  all_goals
    go_ret
    exact ⟨G, rest, rfl, hGn, hG63, by simp [hrl]; omega, by simp only [List.append_assoc, List.singleton_append]; rfl⟩
theorem hsz22 : (Try.prog.info? 22).map (·.size) = some 1 := by
  obtain ⟨i0, hi0, h0, h1, h2⟩ := info_parts infoA22
  rw [hi0]; simp [h1]
theorem size22 (w : World) : (sizeOf 22).run Try.prog w = .ok 1 w := by kernel_rfl
/-- One value between others, in place. -/
theorem ins62_shift (g n c i vb : Nat) (cur : List Value) (u : Value) (w : World) (hg : Blk w g 22 cur) (hi : i < n) (hnc : n + 1 ≤ c) (hcs : c ≤ cur.length) (hmx : cur.length ≤ 9223372036854775807) (hv : Blk w vb 22 [u]) (hvb : vb ≠ g) (hu : u.oneCell' = true) (h1 : ∀ x ∈ cur.take n, x.oneCell' = true) :
    Calls Try.prog 62 #[.slice (some ⟨g, 0, none⟩) n c, .int .i64 i, .slice (some ⟨vb, 0, none⟩) 1 1] w fun e w' => ∃ cur',
      e = .returned (.slice (some ⟨g, 0, none⟩) (n + 1) c) ∧ cur'.length = cur.length ∧ cur'.take (n + 1) = (cur.take n).take i ++ u :: (cur.take n).drop i ∧ w.grownBy w' (some g) ∧ Blk w' g 22 cur' := by
  have hz2 : ¬ ((i : Int) = (n : Int)) := by omega
  have hov : ∀ lb cb, (callFunc 73 #[.slice (some ⟨vb, 0, none⟩) 1 1, .slice (some ⟨g, i + 1, none⟩) lb cb]).run Try.prog w = .ok (.value (.bool false)) w := fun lb cb => by
    rw [run_callFunc_extern Try.func73 (by kernel_rfl) (by kernel_rfl) (by kernel_rfl) (e := Extern.SlicesOverlaps.overlaps #[24, 24] #[4]) (by kernel_rfl),
      Lib.run_overlaps_apart w 24 4 22 Try.underlying24 1 size22 ⟨vb, 0, none⟩ ⟨g, i + 1, none⟩ 1 1 lb cb hvb 22 22 1 cur.length (by simp [World.shape?, hv]) (by simp [World.shape?, hg]) (by omega) (blk_free hv _) (blk_free hv _)]
    rfl
  obtain ⟨mid, hmid⟩ : ∃ mid : List Value, mid = (cur.take n).drop i := ⟨_, rfl⟩
  have hml : mid.length = n - i := by rw [hmid]; simp; omega
  obtain ⟨C1, hC1⟩ : ∃ C1 : List Value, C1 = cur.take (i + 1) ++ (mid ++ cur.drop (i + 1 + mid.length)) := ⟨_, rfl⟩
  obtain ⟨C2, hC2⟩ : ∃ C2 : List Value, C2 = C1.take i ++ ([u] ++ C1.drop (i + 1)) := ⟨_, rfl⟩
  have hl1 : C1.length = cur.length := by rw [hC1]; simp; omega
  have hl2 : C2.length = cur.length := by rw [hC2]; simp; omega
  have hlaw1 : ∀ (W : World), Blk W g 22 cur → ∀ j v, mid[j]? = some v → W.cell? ((⟨g, i, none⟩ : Addr).add j) = some v := fun W hW j x hj => by
    rw [Addr.add_lit, blk_cell hW]
    rw [hmid, List.getElem?_drop, List.getElem?_take] at hj
    split at hj
    · exact hj
    · cases hj
  have hlaw2 : ∀ (W : World), Blk W vb 22 [u] → ∀ j v, [u][j]? = some v → W.cell? ((⟨vb, 0, none⟩ : Addr).add j) = some v := fun W hW j x hj => by rw [Addr.add_lit, Nat.zero_add, blk_cell hW]; exact hj
  have hn1 : (n : Int) + 1 ≤ (c : Int) := by omega
  have hc1 : (c : Int) ≤ 9223372036854775807 := by omega
  have hb3 : (i : Int) + 1 ≤ (n : Int) + 1 := by omega
  have hb4 : ¬ (c = i) := by omega
  have hb5 : ¬ (c = i + 1) := by omega
  have hw1 : IntKind.i64.wrap ((i : Int) + 1) = (i : Int) + 1 := by rw [IntKind.wrap_i64]; omega
  have h0i : (0 : Int) ≤ (i : Int) + 1 := by omega
  have htn : ((i : Int) + 1).toNat = i + 1 := by omega
  have hin : (i : Int) ≤ (n : Int) + 1 := by omega
  have HC1 := Aside0.mk hC1
  have HC2 := Aside0.mk hC2
  have HM := Aside0.mk hmid
  have HML := Aside0.mk hml
  have HL1 := Aside0.mk hl1
  have HL2 := Aside0.mk hl2
  clear hC1 hC2 hmid hml hl1 hl2
  go_enter Try.func62, Try.ntmps62
  go_wp2_with (simp only [hov])
  go_still_tail 8, (by kernel_rfl)
  change wpList _ _ _ _ _ w.drew
  go_wp2_with (first | ((with_reducible refine at_b (b := .copy) (xs := #[.tmp 73, .tmp 76]) rfl ?_); go_must (refine wpList_copy_own rfl _ _ 24 24 rfl 22 Try.underlying24 hsz22 g (i + 1) _ _ ⟨g, i, none⟩ _ _ rfl rfl cur.toArray 22 hg mid (by have := HML.out; simp only [Nat.min_def]; split <;> omega) (hlaw1 _ hg) (by have := HML.out; simp; omega) (fun x hx => h1 x (List.mem_of_mem_drop (HM.out ▸ hx))) ?_; generalize hW1 : World.setRow _ _ _ = W1; have hB1 : Blk W1 g 22 C1 := (by rw [← hW1, HC1.out]; exact setRow_heap w.drew g _ _ 22 _ hg); have hBv : Blk W1 vb 22 [u] := (by rw [← hW1]; exact (setRow_other w.drew g vb _ hvb).trans hv); have hg1 : w.grownBy W1 (some g) := (by rw [← hW1]; exact grown_trans (drew_grown (World.grownBy.refl w _)) (setRow_grown w.drew g _)); clear hW1)) | ((with_reducible refine at_b (b := .copy) (xs := #[.tmp 80, .tmp 81]) rfl ?_); go_must (refine wpList_copy_own rfl _ _ 24 24 rfl 22 Try.underlying24 hsz22 g i _ _ ⟨vb, 0, none⟩ _ _ rfl rfl C1.toArray 22 hB1 [u] (by simp only [Nat.min_def]; split <;> simp; omega) (hlaw2 _ hBv) (by have := HL1.out; simp; omega) (by simpa using hu) ?_; generalize hW2 : World.setRow _ _ _ = W2; have hB2 : Blk W2 g 22 C2 := (by rw [← hW2, HC2.out]; exact setRow_heap W1 g _ _ 22 _ hB1); have hg2 : w.grownBy W2 (some g) := (by rw [← hW2]; exact grown_trans hg1 (setRow_grown W1 g _)); clear hW2)))
  go_ret
  refine ⟨C2, rfl, HL2.out, ?_, hg2, hB2⟩
  · exact shift_list cur mid C1 C2 u n i hi (by omega) HM.out HC1.out HC2.out
theorem ins62_grow (g n c i vb : Nat) (cur : List Value) (u : Value) (w : World) (hg : Blk w g 22 cur) (hi : i < n) (hnc : n ≤ c) (hroom : c < n + 1) (hcs : c ≤ cur.length) (hmx : cur.length ≤ 9223372036854775807) (hsm : n ≤ 1000000) (hv : Blk w vb 22 [u]) (_hvb : vb ≠ g) (hu : u.oneCell' = true) (h1 : ∀ x ∈ cur.take n, x.oneCell' = true) :
    Calls Try.prog 62 #[.slice (some ⟨g, 0, none⟩) n c, .int .i64 i, .slice (some ⟨vb, 0, none⟩) 1 1] w fun e w' => ∃ G cur',
      e = .returned (.slice (some ⟨w.heap.size, 0, none⟩) (n + 1) G) ∧ n + 1 ≤ G ∧ cur'.length = G ∧ G ≤ 9223372036854775807 ∧ cur'.take (n + 1) = (cur.take n).take i ++ u :: (cur.take n).drop i ∧ w.grownBy w' none ∧ Blk w' w.heap.size 22 cur' := by
  have hz2 : ¬ ((i : Int) = (n : Int)) := by omega
  have hz3 : (c : Int) < (n : Int) + 1 := by omega
  obtain ⟨i0, hi0, hz0, hzs, hzb⟩ := info_parts infoA22
  have hgw := blk_lt hg
  have hvw := blk_lt hv
  obtain ⟨G, hG⟩ : ∃ G, G = grownCap w (n + 1) c 22 := ⟨_, rfl⟩
  have hGn : n + 1 ≤ G := by rw [hG]; exact grownCap_ge w _ _ _
  have hG63 : G ≤ 9223372036854775807 := by
    have := grownCap_le_maxLen w (n + 1) c 22 (by unfold maxLen; omega)
    rw [← hG] at this
    unfold maxLen at this
    omega
  obtain ⟨C0, hC0⟩ : ∃ C0 : List Value, C0 = cur.take i ++ ((Builtin.zeroCells (Value.slice none 0 0).cells (n + 1 - i)).toList ++ (Builtin.zeroCells (Value.slice none 0 0).cells (G - (n + 1))).toList) := ⟨_, rfl⟩
  have hl0 : C0.length = G := by
    rw [hC0]
    simp [Builtin.zeroCells, Value.cells]
    omega
  have hkk : (n : Int) + 1 - (i : Int) = ((n + 1 - i : Nat) : Int) := by omega
  have hik : i + (n + 1 - i) = n + 1 := by omega
  have hold : (Builtin.firstCells i0.size i (.slice (some ⟨g, 0, none⟩) i c)).run Try.prog w.drew = .ok (cur.take i).toArray w.drew := by
    rw [hzs]
    exact run_firstCells_some w.drew 1 i ⟨g, 0, none⟩ i c (cur.take i) (by rw [List.length_take]; omega) (fun j v hj => by
      rw [Addr.add_lit, Nat.zero_add]
      have := blk_cell (show Blk w.drew g 22 cur from hg) j
      rw [this]
      rw [List.getElem?_take] at hj
      split at hj
      · exact hj
      · cases hj)
  have hrz : ∀ ty, (Builtin.append_ #[24, 3] ty #[.slice (some ⟨g, 0, none⟩) i c, .int .i64 ((n : Int) + 1 - (i : Int))]).run Try.prog w =
      .ok (.slice (some ⟨w.heap.size, 0, none⟩) (n + 1) G) (w.drew.alloc (.cells C0.toArray 22)) := fun ty => by
    have h := Lib.run_append_grow_zeros w 24 3 ty 22 i0 _ .i64 .i64 Try.underlying24 Try.underlying3 hi0 hz0 (some ⟨g, 0, none⟩) i c (cur.take i) hold (n + 1 - i) (by omega) (by omega) (by omega) (by omega) (by rw [hzb]; omega) (by rw [hzb, hik]; exact growslice_fits hroom (by omega))
    rw [hik, ← hG] at h
    rw [hkk, h, hC0]
    congr 3
    apply Array.ext'
    simp
  obtain ⟨mid, hmid⟩ : ∃ mid : List Value, mid = (cur.take n).drop i := ⟨_, rfl⟩
  have hml : mid.length = n - i := by rw [hmid]; simp; omega
  obtain ⟨C1, hC1⟩ : ∃ C1 : List Value, C1 = C0.take i ++ ([u] ++ C0.drop (i + 1)) := ⟨_, rfl⟩
  obtain ⟨C2, hC2⟩ : ∃ C2 : List Value, C2 = C1.take (i + 1) ++ (mid ++ C1.drop (i + 1 + mid.length)) := ⟨_, rfl⟩
  have hl1 : C1.length = G := by rw [hC1]; simp; omega
  have hl2 : C2.length = G := by rw [hC2]; simp; omega
  have hlaw1 : ∀ (W : World), Blk W g 22 cur → ∀ j v, mid[j]? = some v → W.cell? ((⟨g, i, none⟩ : Addr).add j) = some v := fun W hW j x hj => by
    rw [Addr.add_lit, blk_cell hW]
    rw [hmid, List.getElem?_drop, List.getElem?_take] at hj
    split at hj
    · exact hj
    · cases hj
  have hlaw2 : ∀ (W : World), Blk W vb 22 [u] → ∀ j v, [u][j]? = some v → W.cell? ((⟨vb, 0, none⟩ : Addr).add j) = some v := fun W hW j x hj => by rw [Addr.add_lit, Nat.zero_add, blk_cell hW]; exact hj
  have hfin : C2.take (n + 1) = (cur.take n).take i ++ u :: (cur.take n).drop i := by
    have e0 : C1.take (i + 1) = cur.take i ++ [u] := by
      rw [hC1, List.take_append, List.take_of_length_le (by simp; omega)]
      have e1 : i + 1 - (C0.take i).length = 1 := by simp; omega
      rw [e1, hC0, List.take_append_of_le_length (by simp; omega), List.take_take, Nat.min_self]
      rfl
    rw [hC2, e0, List.take_append, List.take_of_length_le (by simp; omega), List.take_take, Nat.min_eq_left (by omega), ← hmid]
    have e3 : n + 1 - (cur.take i ++ [u]).length = n - i := by simp; omega
    rw [e3, List.take_left' hml]
    simp
  have hc1 : (c : Int) ≤ 9223372036854775807 := by omega
  have hb3 : (i : Int) + 1 ≤ (n : Int) + 1 := by omega
  have hGi : ¬ (G = i) := by omega
  have hGim : ¬ (G = i + 1) := by omega
  have hci : ¬ (c = i) := by omega
  have hw1 : IntKind.i64.wrap ((i : Int) + 1) = (i : Int) + 1 := by rw [IntKind.wrap_i64]; omega
  have h0i : (0 : Int) ≤ (i : Int) + 1 := by omega
  have htn : ((i : Int) + 1).toNat = i + 1 := by omega
  have hin : (i : Int) ≤ (n : Int) := by omega
  have hnG : (n : Int) + 1 ≤ (G : Int) := by omega
  have hGI : (G : Int) ≤ 9223372036854775807 := by omega
  have HC1 := Aside0.mk hC1
  have HC2 := Aside0.mk hC2
  have HM := Aside0.mk hmid
  have HML := Aside0.mk hml
  have HL0 := Aside0.mk hl0
  have HL1 := Aside0.mk hl1
  have HL2 := Aside0.mk hl2
  have HF := Aside0.mk hfin
  clear hC0 hC1 hC2 hmid hml hl0 hl1 hl2 hfin hkk hik hold hG
  go_enter Try.func62, Try.ntmps62
  go_wp2_with (first | ((with_reducible refine at_b (b := .append) (xs := #[.tmp 34, .tmp 39]) rfl ?_); go_must (refine Lib.wpList_append_run _ rfl _ _ _ _ rfl _ _ rfl rfl _ _ (hrz _) ?_; generalize hW0 : World.alloc _ _ = W0; have hB0 : Blk W0 w.heap.size 22 C0 := (by rw [← hW0]; exact heap_alloc_new w.drew _); have hBv : Blk W0 vb 22 [u] := (by rw [← hW0]; exact (Below.heap_alloc w.drew _ vb hvw).trans hv); have hBg : Blk W0 g 22 cur := (by rw [← hW0]; exact (Below.heap_alloc w.drew _ g hgw).trans hg); have hg0 : w.grownBy W0 none := (by rw [← hW0]; exact grown_trans (drew_grown (World.grownBy.refl w _)) (World.grownBy_alloc w.drew _ none)); clear hW0)) | ((with_reducible refine at_b (b := .copy) (xs := #[.tmp 43, .tmp 44]) rfl ?_); go_must (refine wpList_copy_own rfl _ _ 24 24 rfl 22 Try.underlying24 hsz22 w.heap.size i _ _ ⟨vb, 0, none⟩ _ _ rfl rfl C0.toArray 22 hB0 [u] (by simp only [Nat.min_def]; split <;> simp; omega) (hlaw2 _ hBv) (by have := HL0.out; simp; omega) (by simpa using hu) ?_; generalize hW1 : World.setRow _ _ _ = W1; have hB1 : Blk W1 w.heap.size 22 C1 := (by rw [← hW1, HC1.out]; exact setRow_heap W0 _ _ _ 22 _ hB0); have hBg1 : Blk W1 g 22 cur := (by rw [← hW1]; exact (setRow_other W0 w.heap.size g _ (by omega)).trans hBg); have hg1 : w.grownBy W1 none := (by rw [← hW1]; exact grown_new hg0 (setRow_grown W0 w.heap.size _)); clear hW1)))
  go_simp
  go_still_tail 8, (by kernel_rfl)
  change wpList _ _ _ _ _ W1.drew
  go_wp2_with (first | ((with_reducible refine at_b (b := .copy) (xs := #[.tmp 50, .tmp 53]) rfl ?_); go_must (refine wpList_copy_own rfl _ _ 24 24 rfl 22 Try.underlying24 hsz22 w.heap.size (i + 1) _ _ ⟨g, i, none⟩ _ _ rfl rfl C1.toArray 22 (show Blk W1.drew w.heap.size 22 C1 from hB1) mid (by have := HML.out; simp only [Nat.min_def]; split <;> omega) (hlaw1 _ hBg1) (by have := HML.out; have := HL1.out; simp; omega) (fun x hx => h1 x (List.mem_of_mem_drop (HM.out ▸ hx))) ?_; generalize hW2 : World.setRow _ _ _ = W2; have hB2 : Blk W2 w.heap.size 22 C2 := (by rw [← hW2, HC2.out]; exact setRow_heap W1.drew _ _ _ 22 _ hB1); have hg2 : w.grownBy W2 none := (by rw [← hW2]; exact grown_new (drew_grown hg1) (setRow_grown W1.drew w.heap.size _)); clear hW2)))
  go_ret
  exact ⟨G, C2, rfl, hGn, HL2.out, hG63, HF.out, hg2, hB2⟩

/-- slices.Insert of one value into a row of the call's own. -/
theorem ins62 {base : Nat} {v : Value} {xs : List Value} {w : World} (h : OwnS w base 22 v xs) (i vb : Nat) (hi : i ≤ xs.length) (u : Value) (hsm : xs.length ≤ 1000000) (hv : Blk w vb 22 [u]) (hvb : some vb ≠ v.ownBlock) (hu : u.oneCell' = true) (hb : base ≤ w.heap.size) :
    Calls Try.prog 62 #[v, .int .i64 i, .slice (some ⟨vb, 0, none⟩) 1 1] w fun e w' => ∃ v', e = .returned v' ∧ OwnS w' base 22 v' (xs.take i ++ u :: xs.drop i) ∧ w.grownBy w' v.ownBlock ∧ (v'.ownBlock = v.ownBlock ∨ ∃ b, v'.ownBlock = some b ∧ w.heap.size ≤ b) := by
  obtain ⟨g, c, cur, rfl, hbg, hB, hc1, hc2, hc3, htk, hc0, h1⟩ := h
  have hvb' : vb ≠ g := fun e => hvb (by rw [e]; rfl)
  have hil := ins_len xs i hi u
  have h1' := ins_mem (i := i) hu h1
  rw [← htk] at h1
  by_cases hin : i = xs.length
  · subst hin
    have e0 : cur.take xs.length ++ [u] = xs.take xs.length ++ u :: xs.drop xs.length := by rw [htk]; simp
    by_cases hr : xs.length + 1 ≤ c
    · refine (ins62_end_room g xs.length c vb cur u w hB hr hc2 hc3 hv hu).mono ?_
      rintro e w' ⟨rfl, rfl⟩
      refine ⟨_, rfl, ⟨g, c, cur.take xs.length ++ [u] ++ cur.drop (xs.length + 1), by rw [hil], hbg, setRow_heap w g _ _ 22 _ hB, by rw [hil]; exact hr, by simp; omega, by simp; omega, ?_, hc0, h1'⟩, setRow_grown w g _, .inl rfl⟩
      rw [hil, e0]
      exact List.take_left' hil
    · refine (ins62_end_grow g xs.length c vb cur u w hB hc0 hc1 (by omega) hc2 hsm hv).mono ?_
      rintro e w' ⟨G, rest, rfl, hG1, hG2, hGl, rfl⟩
      refine ⟨_, rfl, ⟨w.heap.size, G, cur.take xs.length ++ [u] ++ rest, by rw [hil], hb, heap_alloc_new w.drew _, by rw [hil]; exact hG1, by omega, by omega, ?_, by omega, h1'⟩, grown_trans (drew_grown (World.grownBy.refl w _)) (World.grownBy_alloc w.drew _ _), .inr ⟨_, rfl, Nat.le_refl _⟩⟩
      rw [hil, e0]
      exact List.take_left' hil
  · by_cases hr : xs.length + 1 ≤ c
    · refine (ins62_shift g xs.length c i vb cur u w hB (by omega) hr hc2 hc3 hv hvb' hu h1).mono ?_
      rintro e w' ⟨cur', rfl, hl, ht, hg, hB'⟩
      rw [htk] at ht
      exact ⟨_, rfl, ⟨g, c, cur', by rw [hil], hbg, hB', by rw [hil]; exact hr, by omega, by omega, by rw [hil]; exact ht, hc0, h1'⟩, hg, .inl rfl⟩
    · refine (ins62_grow g xs.length c i vb cur u w hB (by omega) hc1 (by omega) hc2 hc3 hsm hv hvb' hu h1).mono ?_
      rintro e w' ⟨G, cur', rfl, hG1, hl, hG2, ht, hg, hB'⟩
      rw [htk] at ht
      exact ⟨_, rfl, ⟨w.heap.size, G, cur', by rw [hil], hb, hB', by rw [hil]; exact hG1, by omega, by omega, by rw [hil]; exact ht, by omega, h1'⟩, ⟨hg.os, hg.tape, hg.output, hg.size, fun k hk _ => hg.block k hk (by simp)⟩, .inr ⟨_, rfl, Nat.le_refl _⟩⟩
end Go.Proofs.Ytjpobhdgfdeenaa.A
