/- slices.Insert of one value between others into a row of whole numbers, in a new row. -/
import Derived.Test.YtjpobhdgfdeenaaProg
import Derived.Below
import Derived.Deep.Draws
import Derived.Deep.AppendLies
import Derived.Maps.AppendAt
import Derived.Maps.OwnSet
import Derived.OwnWalk
import Derived.Laws.BytesArg
import Derived.Laws.MakeOwn
import Derived.Laws.OwnMore
import Derived.Deep.OwnRows
import Derived.Tactics
import Derived.Laws.Slices
import Derived.WalkKit
import Derived.KernelRfl
import Derived.RowKit3
import Derived.Deep.LoopGhost
import Derived.Deep.QuietTactic
import Derived.BigQuiet
import Derived.WideLaws
import Derived.Deep.DeepCutAuto
import Derived.Deep.CutBlock
import Derived.Deep.RegionHeld3
import Derived.Laws.Rows
import Derived.ArgAppend
import Derived.Laws.IdiomCopy
import Derived.OrdersHeld
import Derived.Laws.BitsLemmas
import Derived.Outline
import Derived.WalkSpells
import Derived.Lib.Hide
import Derived.RowKit
import Derived.Deep.DeepMust
import Derived.Test.YtjpobhdgfdeenaaS3
namespace Go.Proofs.Ytjpobhdgfdeenaa.A
open Go.RowKit Go.Lib Go.Proofs.YtjpobhdgfdeenaaW.PrintWords Go.Maps

theorem ins60_grow (g n c i vb : Nat) (cur : List Value) (u : Value) (w : World) (hg : Blk w g 3 cur) (hi : i < n) (hnc : n ≤ c) (hroom : c < n + 1) (hcs : c ≤ cur.length) (hmx : cur.length ≤ 9223372036854775807) (hsm : n ≤ 1000000) (hv : Blk w vb 3 [u]) (_hvb : vb ≠ g) (hu : u.oneCell' = true) (h1 : ∀ x ∈ cur.take n, x.oneCell' = true) :
    Calls Try.prog 60 #[.slice (some ⟨g, 0, none⟩) n c, .int .i64 i, .slice (some ⟨vb, 0, none⟩) 1 1] w fun e w' => ∃ G cur',
      e = .returned (.slice (some ⟨w.heap.size, 0, none⟩) (n + 1) G) ∧ n + 1 ≤ G ∧ cur'.length = G ∧ G ≤ 9223372036854775807 ∧ cur'.take (n + 1) = (cur.take n).take i ++ u :: (cur.take n).drop i ∧ w.grownBy w' none ∧ Blk w' w.heap.size 3 cur' := by
  have hz2 : ¬ ((i : Int) = (n : Int)) := by omega
  have hz3 : (c : Int) < (n : Int) + 1 := by omega
  obtain ⟨i0, hi0, hz0, hzs, hzb⟩ := info_parts infoA3
  have hgw := blk_lt hg
  have hvw := blk_lt hv
  obtain ⟨G, hG⟩ : ∃ G, G = grownCap w (n + 1) c 3 := ⟨_, rfl⟩
  have hGn : n + 1 ≤ G := by rw [hG]; exact grownCap_ge w _ _ _
  have hG63 : G ≤ 9223372036854775807 := by
    have := grownCap_le_maxLen w (n + 1) c 3 (by unfold maxLen; omega)
    rw [← hG] at this
    unfold maxLen at this
    omega
  obtain ⟨C0, hC0⟩ : ∃ C0 : List Value, C0 = cur.take i ++ ((Builtin.zeroCells (Value.int .i64 0).cells (n + 1 - i)).toList ++ (Builtin.zeroCells (Value.int .i64 0).cells (G - (n + 1))).toList) := ⟨_, rfl⟩
  have hl0 : C0.length = G := by
    rw [hC0]
    simp [Builtin.zeroCells, Value.cells]
    omega
  have hkk : (n : Int) + 1 - (i : Int) = ((n + 1 - i : Nat) : Int) := by omega
  have hik : i + (n + 1 - i) = n + 1 := by omega
  have hold : (Builtin.firstCells i0.size i (.slice (some ⟨g, 0, none⟩) i c)).run Try.prog w.drew = .ok (cur.take i).toArray w.drew := by
    rw [hzs]
    exact run_firstCells_some w.drew 1 i ⟨g, 0, none⟩ i c (cur.take i) (by rw [List.length_take]; omega) (fun j v hj => by
      rw [Addr.add_lit, Nat.zero_add]
      have := blk_cell (show Blk w.drew g 3 cur from hg) j
      rw [this]
      rw [List.getElem?_take] at hj
      split at hj
      · exact hj
      · cases hj)
  have hrz : ∀ ty, (Builtin.append_ #[22, 3] ty #[.slice (some ⟨g, 0, none⟩) i c, .int .i64 ((n : Int) + 1 - (i : Int))]).run Try.prog w =
      .ok (.slice (some ⟨w.heap.size, 0, none⟩) (n + 1) G) (w.drew.alloc (.cells C0.toArray 3)) := fun ty => by
    have h := Lib.run_append_grow_zeros w 22 3 ty 3 i0 _ .i64 .i64 Try.underlying22 Try.underlying3 hi0 hz0 (some ⟨g, 0, none⟩) i c (cur.take i) hold (n + 1 - i) (by omega) (by omega) (by omega) (by omega) (by rw [hzb]; omega) (by rw [hzb, hik]; exact growslice_fits hroom (by omega))
    rw [hik, ← hG] at h
    rw [hkk, h, hC0]
    congr 3
    apply Array.ext'
    simp
  obtain ⟨mid, hmid⟩ : ∃ mid : List Value, mid = (cur.take n).drop i := ⟨_, rfl⟩
  have hml : mid.length = n - i := by rw [hmid]; simp; omega
  obtain ⟨C1, hC1⟩ : ∃ C1 : List Value, C1 = C0.take i ++ ([u] ++ C0.drop (i + 1)) := ⟨_, rfl⟩
  obtain ⟨C2, hC2⟩ : ∃ C2 : List Value, C2 = C1.take (i + 1) ++ (mid ++ C1.drop (i + 1 + mid.length)) := ⟨_, rfl⟩
  have hl1 : C1.length = G := by rw [hC1]; simp; omega
  have hl2 : C2.length = G := by rw [hC2]; simp; omega
  have hlaw1 : ∀ (W : World), Blk W g 3 cur → ∀ j v, mid[j]? = some v → W.cell? ((⟨g, i, none⟩ : Addr).add j) = some v := fun W hW j x hj => by
    rw [Addr.add_lit, blk_cell hW]
    rw [hmid, List.getElem?_drop, List.getElem?_take] at hj
    split at hj
    · exact hj
    · cases hj
  have hlaw2 : ∀ (W : World), Blk W vb 3 [u] → ∀ j v, [u][j]? = some v → W.cell? ((⟨vb, 0, none⟩ : Addr).add j) = some v := fun W hW j x hj => by rw [Addr.add_lit, Nat.zero_add, blk_cell hW]; exact hj
  have hfin : C2.take (n + 1) = (cur.take n).take i ++ u :: (cur.take n).drop i := by
    have e0 : C1.take (i + 1) = cur.take i ++ [u] := by
      rw [hC1, List.take_append, List.take_of_length_le (by simp; omega)]
      have e1 : i + 1 - (C0.take i).length = 1 := by simp; omega
      rw [e1, hC0, List.take_append_of_le_length (by simp; omega), List.take_take, Nat.min_self]
      rfl
    rw [hC2, e0, List.take_append, List.take_of_length_le (by simp; omega), List.take_take, Nat.min_eq_left (by omega), ← hmid]
    have e3 : n + 1 - (cur.take i ++ [u]).length = n - i := by simp; omega
    rw [e3, List.take_left' hml]
    simp
  have hc1 : (c : Int) ≤ 9223372036854775807 := by omega
  have hb3 : (i : Int) + 1 ≤ (n : Int) + 1 := by omega
  have hGi : ¬ (G = i) := by omega
  have hGim : ¬ (G = i + 1) := by omega
  have hci : ¬ (c = i) := by omega
  have hw1 : IntKind.i64.wrap ((i : Int) + 1) = (i : Int) + 1 := by rw [IntKind.wrap_i64]; omega
  have h0i : (0 : Int) ≤ (i : Int) + 1 := by omega
  have htn : ((i : Int) + 1).toNat = i + 1 := by omega
  have hin : (i : Int) ≤ (n : Int) := by omega
  have hnG : (n : Int) + 1 ≤ (G : Int) := by omega
  have hGI : (G : Int) ≤ 9223372036854775807 := by omega
  have HC1 := Aside0.mk hC1
  have HC2 := Aside0.mk hC2
  have HM := Aside0.mk hmid
  have HML := Aside0.mk hml
  have HL0 := Aside0.mk hl0
  have HL1 := Aside0.mk hl1
  have HL2 := Aside0.mk hl2
  have HF := Aside0.mk hfin
  clear hC0 hC1 hC2 hmid hml hl0 hl1 hl2 hfin hkk hik hold hG
  go_enter Try.func60, Try.ntmps60
  go_wp2_with (first | ((with_reducible refine at_b (b := .append) (xs := #[.tmp 34, .tmp 39]) rfl ?_); go_must (refine Lib.wpList_append_run _ rfl _ _ _ _ rfl _ _ rfl rfl _ _ (hrz _) ?_; generalize hW0 : World.alloc _ _ = W0; have hB0 : Blk W0 w.heap.size 3 C0 := (by rw [← hW0]; exact heap_alloc_new w.drew _); have hBv : Blk W0 vb 3 [u] := (by rw [← hW0]; exact (Below.heap_alloc w.drew _ vb hvw).trans hv); have hBg : Blk W0 g 3 cur := (by rw [← hW0]; exact (Below.heap_alloc w.drew _ g hgw).trans hg); have hg0 : w.grownBy W0 none := (by rw [← hW0]; exact grown_trans (drew_grown (World.grownBy.refl w _)) (World.grownBy_alloc w.drew _ none)); clear hW0)) | ((with_reducible refine at_b (b := .copy) (xs := #[.tmp 43, .tmp 44]) rfl ?_); go_must (refine wpList_copy_own rfl _ _ 22 22 rfl 3 Try.underlying22 hsz3 w.heap.size i _ _ ⟨vb, 0, none⟩ _ _ rfl rfl C0.toArray 3 hB0 [u] (by simp only [Nat.min_def]; split <;> simp; omega) (hlaw2 _ hBv) (by have := HL0.out; simp; omega) (by simpa using hu) ?_; generalize hW1 : World.setRow _ _ _ = W1; have hB1 : Blk W1 w.heap.size 3 C1 := (by rw [← hW1, HC1.out]; exact setRow_heap W0 _ _ _ 3 _ hB0); have hBg1 : Blk W1 g 3 cur := (by rw [← hW1]; exact (setRow_other W0 w.heap.size g _ (by omega)).trans hBg); have hg1 : w.grownBy W1 none := (by rw [← hW1]; exact grown_new hg0 (setRow_grown W0 w.heap.size _)); clear hW1)))
  go_simp
  go_still_tail 8, (by kernel_rfl)
  change wpList _ _ _ _ _ W1.drew
  go_wp2_with (first | ((with_reducible refine at_b (b := .copy) (xs := #[.tmp 50, .tmp 53]) rfl ?_); go_must (refine wpList_copy_own rfl _ _ 22 22 rfl 3 Try.underlying22 hsz3 w.heap.size (i + 1) _ _ ⟨g, i, none⟩ _ _ rfl rfl C1.toArray 3 (show Blk W1.drew w.heap.size 3 C1 from hB1) mid (by have := HML.out; simp only [Nat.min_def]; split <;> omega) (hlaw1 _ hBg1) (by have := HML.out; have := HL1.out; simp; omega) (fun x hx => h1 x (List.mem_of_mem_drop (HM.out ▸ hx))) ?_; generalize hW2 : World.setRow _ _ _ = W2; have hB2 : Blk W2 w.heap.size 3 C2 := (by rw [← hW2, HC2.out]; exact setRow_heap W1.drew _ _ _ 3 _ hB1); have hg2 : w.grownBy W2 none := (by rw [← hW2]; exact grown_new (drew_grown hg1) (setRow_grown W1.drew w.heap.size _)); clear hW2)))
  go_ret
  exact ⟨G, C2, rfl, hGn, HL2.out, hG63, HF.out, hg2, hB2⟩

/-- A slice of the call's own at the head of a block of type e: what it holds. -/
def OwnS (w : World) (base : Nat) (e : TypeId) (v : Value) (xs : List Value) : Prop :=
  ∃ g c cur, v = .slice (some ⟨g, 0, none⟩) xs.length c ∧ base ≤ g ∧ Blk w g e cur ∧ xs.length ≤ c ∧ c ≤ cur.length ∧ cur.length ≤ 9223372036854775807 ∧ cur.take xs.length = xs ∧ 0 < c ∧ ∀ x ∈ xs, x.oneCell' = true
theorem ins_len {α : Type} (xs : List α) (i : Nat) (hi : i ≤ xs.length) (u : α) : (xs.take i ++ u :: xs.drop i).length = xs.length + 1 := by
  simp
  omega
theorem ins_mem {xs : List Value} {i : Nat} {u : Value} (hu : u.oneCell' = true) (h : ∀ x ∈ xs, x.oneCell' = true) : ∀ x ∈ xs.take i ++ u :: xs.drop i, x.oneCell' = true := by
  intro x hx
  rcases List.mem_append.1 hx with hx | hx
  · exact h x (List.mem_of_mem_take hx)
  · rcases List.mem_cons.1 hx with rfl | hx
    · exact hu
    · exact h x (List.mem_of_mem_drop hx)
/-- slices.Insert of one value into a row of the call's own. -/
theorem ins60 {base : Nat} {v : Value} {xs : List Value} {w : World} (h : OwnS w base 3 v xs) (i vb : Nat) (hi : i ≤ xs.length) (u : Value) (hsm : xs.length ≤ 1000000) (hv : Blk w vb 3 [u]) (hvb : some vb ≠ v.ownBlock) (hu : u.oneCell' = true) (hb : base ≤ w.heap.size) :
    Calls Try.prog 60 #[v, .int .i64 i, .slice (some ⟨vb, 0, none⟩) 1 1] w fun e w' => ∃ v', e = .returned v' ∧ OwnS w' base 3 v' (xs.take i ++ u :: xs.drop i) ∧ w.grownBy w' v.ownBlock ∧ (v'.ownBlock = v.ownBlock ∨ ∃ b, v'.ownBlock = some b ∧ w.heap.size ≤ b) := by
  obtain ⟨g, c, cur, rfl, hbg, hB, hc1, hc2, hc3, htk, hc0, h1⟩ := h
  have hvb' : vb ≠ g := fun e => hvb (by rw [e]; rfl)
  have hil := ins_len xs i hi u
  have h1' := ins_mem (i := i) hu h1
  rw [← htk] at h1
  by_cases hin : i = xs.length
  · subst hin
    have e0 : cur.take xs.length ++ [u] = xs.take xs.length ++ u :: xs.drop xs.length := by rw [htk]; simp
    by_cases hr : xs.length + 1 ≤ c
    · refine (ins60_end_room g xs.length c vb cur u w hB hr hc2 hc3 hv hu).mono ?_
      rintro e w' ⟨rfl, rfl⟩
      refine ⟨_, rfl, ⟨g, c, cur.take xs.length ++ [u] ++ cur.drop (xs.length + 1), by rw [hil], hbg, setRow_heap w g _ _ 3 _ hB, by rw [hil]; exact hr, by simp; omega, by simp; omega, ?_, hc0, h1'⟩, setRow_grown w g _, .inl rfl⟩
      rw [hil, e0]
      exact List.take_left' hil
    · refine (ins60_end_grow g xs.length c vb cur u w hB hc0 hc1 (by omega) hc2 hsm hv).mono ?_
      rintro e w' ⟨G, rest, rfl, hG1, hG2, hGl, rfl⟩
      refine ⟨_, rfl, ⟨w.heap.size, G, cur.take xs.length ++ [u] ++ rest, by rw [hil], hb, heap_alloc_new w.drew _, by rw [hil]; exact hG1, by omega, by omega, ?_, by omega, h1'⟩, grown_trans (drew_grown (World.grownBy.refl w _)) (World.grownBy_alloc w.drew _ _), .inr ⟨_, rfl, Nat.le_refl _⟩⟩
      rw [hil, e0]
      exact List.take_left' hil
  · by_cases hr : xs.length + 1 ≤ c
    · refine (ins60_shift g xs.length c i vb cur u w hB (by omega) hr hc2 hc3 hv hvb' hu h1).mono ?_
      rintro e w' ⟨cur', rfl, hl, ht, hg, hB'⟩
      rw [htk] at ht
      exact ⟨_, rfl, ⟨g, c, cur', by rw [hil], hbg, hB', by rw [hil]; exact hr, by omega, by omega, by rw [hil]; exact ht, hc0, h1'⟩, hg, .inl rfl⟩
    · refine (ins60_grow g xs.length c i vb cur u w hB (by omega) hc1 (by omega) hc2 hc3 hsm hv hvb' hu h1).mono ?_
      rintro e w' ⟨G, cur', rfl, hG1, hl, hG2, ht, hg, hB'⟩
      rw [htk] at ht
      exact ⟨_, rfl, ⟨w.heap.size, G, cur', by rw [hil], hb, hB', by rw [hil]; exact hG1, by omega, by omega, by rw [hil]; exact ht, by omega, h1'⟩, ⟨hg.os, hg.tape, hg.output, hg.size, fun k hk _ => hg.block k hk (by simp)⟩, .inr ⟨_, rfl, Nat.le_refl _⟩⟩
end Go.Proofs.Ytjpobhdgfdeenaa.A
