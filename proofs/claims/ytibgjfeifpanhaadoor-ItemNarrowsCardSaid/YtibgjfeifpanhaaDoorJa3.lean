/- Texts of the proof, joined, what is not named cut out: P4, P5, V1, P6, V2, V3, V4, R2, N3, N0, N5, N6, N1, N8, N9, L2, L4. -/
import Derived.Below
import Derived.Deep.Draws
import Derived.Deep.AppendLies
import Derived.Maps.AppendAt
import Derived.Maps.OwnSet
import Derived.OwnWalk
import Derived.Laws.BytesArg
import Derived.Laws.MakeOwn
import Derived.Laws.OwnMore
import Derived.Deep.OwnRows
import Derived.Tactics
import Derived.Laws.Slices
import Derived.WalkKit
import Derived.KernelRfl
import Derived.RowKit3
import Derived.Deep.LoopGhost
import Derived.Deep.QuietTactic
import Derived.BigQuiet
import Derived.WideLaws
import Derived.Deep.DeepCutAuto
import Derived.Deep.CutBlock
import Derived.Deep.RegionHeld3
import Derived.Laws.Rows
import Derived.ArgAppend
import Derived.Laws.IdiomCopy
import Derived.OrdersHeld
import Derived.Laws.BitsLemmas
import Derived.Outline
import Derived.WalkSpells
import Derived.Lib.Hide
import Derived.RowKit
import Derived.Deep.DeepMust
import Derived.Laws.EntriesVeiled
import Derived.StringKeys
import Derived.Test.YtibgjfeifpanhaaDoorProg
import Derived.Test.YtibgjfeifpanhaaDoorJa2

set_option linter.unusedVariables false
set_option linter.unusedSimpArgs false
namespace Go.Proofs.YtibgjfeifpanhaaDoor.B
open Go.RowKit Go.Proofs.YtibgjfeifpanhaaDoorW.PrintWords PItemValid

def shortV (x : S29) : Bool := decide (x.f2.size ≤ 200)
def okLenB (l : List S29) : Bool := decide (l.length ≤ 20) && l.all shortV
theorem okLenB_iff (l : List S29) : okLenB l = true ↔ okLen l := by
  unfold okLenB okLen shortV
  simp
def rowsF (ls : List (List S29)) : Bool := ls.all okLenB
theorem rd4_get (l : List (List S29)) (i : Nat) (h : i < l.length) : rd_L4 l (i : Int) = l[i] := by
  simp [rd_L4, List.getD_eq_getElem?_getD, List.getElem?_eq_getElem h]
theorem rows_in (x0 : List (List S29)) (hl : x0.length ≤ 1000) (i : Nat) (hi : i < x0.length) (z : Nat) (h20 : x0[i].length ≤ 20)
    (hnext : ∀ k, z ≤ k → ringworklaw01_Rows.l0 k x0 ((i + 1 : Nat) : Int) = some (rowsF (x0.drop (i + 1)))) (n : Nat) : ∀ (j k : Nat), x0[i].length - j ≤ n → j ≤ x0[i].length → n + 1 + z ≤ k →
    ringworklaw01_Rows.l1 k x0 (i : Int) (j : Int) = some ((x0[i].drop j).all shortV && rowsF (x0.drop (i + 1))) := by
  induction n with
  | zero =>
    intro j k hn hj hk
    obtain ⟨k', rfl⟩ : ∃ k', k = k' + 1 := ⟨k - 1, by omega⟩
    unfold ringworklaw01_Rows.l1
    rw [if_pos (by omega), if_pos (by omega), rd4_get x0 i hi, if_neg (by omega), w64 (by omega) (by omega), List.drop_eq_nil_of_le (by omega)]
    simpa using hnext k' (by omega)
  | succ n IH =>
    intro j k hn hj hk
    obtain ⟨k', rfl⟩ : ∃ k', k = k' + 1 := ⟨k - 1, by omega⟩
    unfold ringworklaw01_Rows.l1
    rw [if_pos (by omega), if_pos (by omega), rd4_get x0 i hi]
    by_cases h1 : j < x0[i].length
    · rw [if_pos (by omega), if_pos (by omega), rd_get _ j h1, List.drop_eq_getElem_cons h1, List.all_cons]
      by_cases h2 : ((x0[i][j].f2.size : Int) > 200)
      · rw [if_pos h2, show shortV x0[i][j] = false from decide_eq_false (by omega)]
        simp
      · rw [if_neg h2, show shortV x0[i][j] = true from decide_eq_true (by omega), w64 (by omega) (by omega)]
        have := IH (j + 1) k' (by omega) (by omega) (by omega)
        simpa using this
    · rw [if_neg (by omega), w64 (by omega) (by omega), List.drop_eq_nil_of_le (by omega)]
      simpa using hnext k' (by omega)
theorem rows_out (x0 : List (List S29)) (hl : x0.length ≤ 1000) (n : Nat) : ∀ (i k : Nat), x0.length - i ≤ n → i ≤ x0.length → 22 * n + 1 ≤ k → ringworklaw01_Rows.l0 k x0 (i : Int) = some (rowsF (x0.drop i)) := by
  induction n with
  | zero =>
    intro i k hn hi hk
    obtain ⟨k', rfl⟩ : ∃ k', k = k' + 1 := ⟨k - 1, by omega⟩
    unfold ringworklaw01_Rows.l0
    rw [if_neg (by omega), List.drop_eq_nil_of_le (by omega)]
    rfl
  | succ n IH =>
    intro i k hn hi hk
    obtain ⟨k', rfl⟩ : ∃ k', k = k' + 1 := ⟨k - 1, by omega⟩
    unfold ringworklaw01_Rows.l0
    by_cases h1 : i < x0.length
    · rw [if_pos (by omega), if_pos (by omega), rd4_get x0 i h1, List.drop_eq_getElem_cons h1]
      have e : rowsF (x0[i] :: x0.drop (i + 1)) = (okLenB x0[i] && rowsF (x0.drop (i + 1))) := List.all_cons
      rw [e]
      by_cases h2 : ((x0[i].length : Int) > 20)
      · rw [if_pos h2]
        have : okLenB x0[i] = false := by unfold okLenB; rw [decide_eq_false (by omega)]; rfl
        rw [this]; rfl
      · rw [if_neg h2]
        have h3 := rows_in x0 hl i h1 (22 * n + 1) (by omega) (fun k hk => IH (i + 1) k (by omega) (by omega) hk) 20 0 k' (by omega) (by omega) (by omega)
        have h4 : okLenB x0[i] = (x0[i]).all shortV := by unfold okLenB; rw [decide_eq_true (by omega)]; rfl
        rw [h4]
        simpa using h3
    · rw [if_neg (by omega), List.drop_eq_nil_of_le (by omega)]
      rfl
theorem Rows_is {ls : List (List S29)} {r : Bool} (h : rowsF ls = r) (hl : ls.length ≤ 4) (A : Option Addr) (c : Nat) (w : World) (hr : Kd.C (Kd.slice 29 k29) w A ls.length ls) (hc : ls.length ≤ c) :
    Calls Tryd.prog 10 #[.slice A ls.length c] w fun e w' => e = .returned (.bool r) ∧ Drawn0 w w' := by
  subst h
  refine ringworklaw01_Rows.calls 100 A c ls _ w hr hc ?_
  have := rows_out ls (by omega) 4 0 100 (by omega) (by omega) (by omega)
  simpa [ringworklaw01_Rows.f] using this
end Go.Proofs.YtibgjfeifpanhaaDoor.B

set_option linter.unusedVariables false
set_option linter.unusedSimpArgs false
namespace Go.Proofs.YtibgjfeifpanhaaDoor.B
open Go.RowKit Go.Proofs.YtibgjfeifpanhaaDoorW.PrintWords PItemValid

def smI (c : Int) : Bool := decide (97 ≤ c) && decide (c ≤ 122)
def inI (c : Int) : Bool := smI c || (decide (48 ≤ c) && decide (c ≤ 57)) || (c == 95)
def inB (c : UInt8) : Bool := inI (c.toNat : Int)
def smB (c : UInt8) : Bool := smI (c.toNat : Int)
def nameF : List UInt8 → Bool
  | [] => false
  | c :: r => decide ((c :: r).length ≤ 16) && smB c && (c :: r).all inB
theorem small_is (c : Int) : item_small.f c = some (smI c) := by
  unfold item_small.f smI
  by_cases h : c ≥ 97
  · rw [if_pos h, show decide (97 ≤ c) = true from decide_eq_true h]; simp
  · rw [if_neg h, show decide (97 ≤ c) = false from decide_eq_false h]; simp
theorem inner_is (c : Int) : item_inner.f c = some (inI c) := by
  unfold item_inner.f inI
  rw [small_is]
  simp only [Option.bind_some]
  cases smI c with
  | true => simp
  | false =>
    by_cases h : c ≥ 48
    · by_cases h2 : c ≤ 57
      · simp [h, h2]
      · simp [h, h2]
    · have : ¬ 48 ≤ c := h
      simp [h]
theorem sm_in (c : UInt8) (h : smB c = true) : inB c = true := by
  unfold inB inI
  unfold smB at h
  rw [h]; rfl
theorem name_loop (s : ByteArray) (hs : s.size ≤ 1000000) (n : Nat) : ∀ (i k : Nat), s.size - i ≤ n → i ≤ s.size → n + 1 ≤ k → item_Name.l0 k s (s.size : Int) (i : Int) = some ((s.data.toList.drop i).all inB) := by
  have ls : s.data.toList.length = s.size := rfl
  induction n with
  | zero =>
    intro i k hn hi hk
    obtain ⟨k', rfl⟩ : ∃ k', k = k' + 1 := ⟨k - 1, by omega⟩
    unfold item_Name.l0
    rw [if_neg (by omega), List.drop_eq_nil_of_le (by omega)]
    rfl
  | succ n IH =>
    intro i k hn hi hk
    obtain ⟨k', rfl⟩ : ∃ k', k = k' + 1 := ⟨k - 1, by omega⟩
    unfold item_Name.l0
    by_cases h1 : i < s.size
    · rw [if_pos (by omega), if_pos (by omega), if_pos (by omega), bt_get s i (by omega), inner_is, List.drop_eq_getElem_cons (show i < s.data.toList.length by omega), List.all_cons, w64 (by omega) (by omega)]
      simp only [Option.bind_some]
      have e : inI ((s.data.toList[i]).toNat : Int) = inB s.data.toList[i] := rfl
      rw [e]
      cases inB s.data.toList[i] with
      | true =>
        rw [if_pos rfl]
        have := IH (i + 1) k' (by omega) (by omega) (by omega)
        simpa using this
      | false => rw [if_neg (by simp)]; rfl
    · rw [if_neg (by omega), List.drop_eq_nil_of_le (by omega)]
      rfl
theorem nameF_list : ∀ (l : List UInt8) (h : 0 < l.length), nameF l = (decide (l.length ≤ 16) && smB (l[0]'h) && l.all inB)
  | [], h => absurd h (by simp)
  | _ :: _, _ => rfl
theorem nameF_of (s : ByteArray) (h : 0 < s.size) : nameF s.data.toList = (decide (s.size ≤ 16) && smB (s.data.toList[0]'h) && s.data.toList.all inB) := nameF_list s.data.toList h
theorem item_Name_is (s : ByteArray) : item_Name.f 40 s = some (nameF s.data.toList) := by
  have ls : s.data.toList.length = s.size := rfl
  unfold item_Name.f
  rw [ByteArray.toList_eq]
  by_cases h0 : s.data.toList = []
  · rw [if_pos h0, h0]
    rfl
  · have hp : 0 < s.size := by
      have := List.length_pos_iff.2 h0
      omega
    rw [if_neg h0, nameF_of s hp]
    by_cases h1 : (s.size : Int) > 16
    · rw [if_pos h1, show decide (s.size ≤ 16) = false from decide_eq_false (by omega)]
      rfl
    · have hb := bt_get s 0 (by omega)
      rw [if_neg h1, if_pos (by omega), small_is]
      simp only [Option.bind_some]
      rw [show bt s 0 = ((s.data.toList[0]'(by omega)).toNat : Int) from hb]
      rw [show decide (s.size ≤ 16) = true from decide_eq_true (by omega)]
      have e : smI ((s.data.toList[0]'(by omega)).toNat : Int) = smB (s.data.toList[0]'(by omega)) := rfl
      rw [e]
      cases smB (s.data.toList[0]'(by omega)) with
      | false => rfl
      | true =>
        have := name_loop s (by omega) 20 0 39 (by omega) (by omega) (by omega)
        simpa [item_Name.j0] using this
theorem refname_step (s : ByteArray) (hs : s.size ≤ 16) (k i : Nat) (h1 : i < s.size) : ringworkref01_Name.l0 (k + 1) s (i : Int) = if (smB (s.data.toList[i]'h1) = true ∨ (i ≠ 0 ∧ inB (s.data.toList[i]'h1) = true)) then ringworkref01_Name.l0 k s ((i + 1 : Nat) : Int) else some false := by
  conv => lhs; unfold ringworkref01_Name.l0
  rw [if_pos (by omega), if_pos (by omega), bt_get s i h1, w64 (by omega) (by omega)]
  unfold smB inB inI smI
  generalize ((s.data.toList[i]'h1).toNat : Int) = c
  rw [show ((i + 1 : Nat) : Int) = (i : Int) + 1 by omega]
  by_cases a1 : c ≥ 97
  · by_cases a2 : c ≤ 122
    · rw [if_pos a1, if_pos a2, if_pos (.inl (by simp; omega))]
    · rw [if_pos a1, if_neg a2]
      by_cases a3 : i = 0
      · rw [if_pos (by omega), if_neg (by simp; omega)]
      · rw [if_neg (by omega)]
        have hc : ¬ c = 95 := by omega
        rw [if_neg hc, if_neg (by omega), if_pos (by omega), if_neg (by simp; omega)]
  · rw [if_neg a1]
    by_cases a3 : i = 0
    · rw [if_pos (by omega), if_neg (by simp; omega)]
    · rw [if_neg (by omega)]
      by_cases hc : c = 95
      · rw [if_pos hc, if_pos (.inr ⟨a3, by simp [hc]⟩)]
      · rw [if_neg hc]
        by_cases a4 : c < 48
        · rw [if_pos a4, if_neg (by simp; omega)]
        · rw [if_neg a4]
          by_cases a5 : c > 57
          · rw [if_pos a5, if_neg (by simp; omega)]
          · rw [if_neg a5, if_pos (.inr ⟨a3, by simp; omega⟩)]
theorem refname_loop (s : ByteArray) (hs : s.size ≤ 16) (n : Nat) : ∀ (i k : Nat), s.size - i ≤ n → 1 ≤ i → i ≤ s.size → n + 1 ≤ k → ringworkref01_Name.l0 k s (i : Int) = some ((s.data.toList.drop i).all inB) := by
  have ls : s.data.toList.length = s.size := rfl
  induction n with
  | zero =>
    intro i k hn h1 hi hk
    obtain ⟨k', rfl⟩ : ∃ k', k = k' + 1 := ⟨k - 1, by omega⟩
    unfold ringworkref01_Name.l0
    rw [if_neg (by omega), List.drop_eq_nil_of_le (by omega)]
    rfl
  | succ n IH =>
    intro i k hn h1 hi hk
    obtain ⟨k', rfl⟩ : ∃ k', k = k' + 1 := ⟨k - 1, by omega⟩
    by_cases h2 : i < s.size
    · rw [refname_step s hs k' i h2, List.drop_eq_getElem_cons (show i < s.data.toList.length by omega), List.all_cons]
      cases hb : inB (s.data.toList[i]'h2) with
      | true => rw [if_pos (.inr ⟨by omega, rfl⟩), IH (i + 1) k' (by omega) (by omega) (by omega) (by omega)]; rfl
      | false =>
        rw [if_neg (by
          rintro (h | h)
          · rw [sm_in _ h] at hb; cases hb
          · exact absurd h.2 (by simp))]
        rfl
    · unfold ringworkref01_Name.l0
      rw [if_neg (by omega), List.drop_eq_nil_of_le (by omega)]
      rfl
theorem ref_Name_is (s : ByteArray) : ringworkref01_Name.f 40 s = some (nameF s.data.toList) := by
  have ls : s.data.toList.length = s.size := rfl
  unfold ringworkref01_Name.f
  by_cases h0 : s.size = 0
  · have e : s.data.toList = [] := List.eq_nil_of_length_eq_zero (by omega)
    rw [if_pos (by omega), e]
    rfl
  · have hp : 0 < s.size := by omega
    rw [if_neg (by omega), nameF_of s hp]
    by_cases h1 : (s.size : Int) > 16
    · rw [show decide ((s.size : Int) > 16) = true from decide_eq_true h1, show decide (s.size ≤ 16) = false from decide_eq_false (by omega)]
      rfl
    · rw [show decide ((s.size : Int) > 16) = false from decide_eq_false h1, show decide (s.size ≤ 16) = true from decide_eq_true (by omega)]
      show ringworkref01_Name.l0 (38 + 1) s ((0 : Nat) : Int) = _
      rw [refname_step s (by omega) 38 0 hp]
      cases hb : smB (s.data.toList[0]'hp) with
      | false => rw [if_neg (by simp)]; rfl
      | true =>
        rw [if_pos (.inl rfl), refname_loop s (by omega) 20 1 38 (by omega) (by omega) (by omega) (by omega)]
        have e := List.drop_eq_getElem_cons (show 0 < s.data.toList.length from hp)
        rw [List.drop_zero] at e
        have e2 : s.data.toList.all inB = (inB (s.data.toList[0]'hp) && (s.data.toList.drop 1).all inB) := by conv => lhs; rw [e]; rw [List.all_cons]
        rw [e2, sm_in _ hb]
        simp
end Go.Proofs.YtibgjfeifpanhaaDoor.B

set_option linter.unusedVariables false
set_option linter.unusedSimpArgs false
namespace Go.Proofs.YtibgjfeifpanhaaDoor.B
open Go.RowKit Go.Proofs.YtibgjfeifpanhaaDoorW.PrintWords Go.Maps PItemValid

theorem law9 : Keyed Tryd.prog 9 := string_keyed Tryd.underlying9
theorem zero4 (w : World) : (zeroValue 4).run Tryd.prog w = .ok (.bool false) w := by kernel_rfl
theorem plainElem_bool_inv {e : TypeId} (he : Tryd.prog.underlying e = some .bool) {v : Value} {z : DataW Unit × List MemPlace} (h : plainElem Tryd.prog e v = some z) : ∃ a, v = .bool a ∧ z = (.lit (.bool a), []) := by
  unfold plainElem at h
  rw [he] at h
  cases v <;> simp at h
  exact ⟨_, rfl, h.symm⟩
abbrev nmL (s : ByteArray) : List UInt8 := s.data.toList
/-- Block b is a map whose keys are S, each with true. -/
def Met (w : World) (b : Nat) (S : List (List UInt8)) : Prop :=
  ∃ D : DataW Unit, w.ownsMap Tryd.prog 9 (plainElem Tryd.prog 4) b S.length D ∧ Maps.size D = S.length ∧ ∀ x : ByteArray, x.size ≤ 1000000 → D.atKey (.string (nmL x)) (.lit (.bool false)) = .lit (.bool (decide (nmL x ∈ S))) ∧ Maps.has D (.string (nmL x)) = decide (nmL x ∈ S)
theorem met_made (w : World) : Met (w.alloc (.map #[] 0)) w.heap.size [] :=
  ⟨.map [], World.ownsMap_made _ _ _ _, rfl, fun x _ => by simp [DataW.atKey, Maps.has]⟩
theorem Met.lt {w : World} {b : Nat} {S : List (List UInt8)} (h : Met w b S) : b < w.heap.size := by
  obtain ⟨D, h1, _⟩ := h
  exact h1.lt
theorem Met.kept {w w' : World} {b : Nat} {S : List (List UInt8)} {row : Option Nat} (h : Met w b S) (hg : w.grownBy w' row) (hne : some b ≠ row) : Met w' b S := by
  obtain ⟨D, h1, h2⟩ := h
  exact ⟨D, h1.kept hg hne, h2⟩
theorem Met.below {w w' : World} {b : Nat} {S : List (List UInt8)} (h : Met w b S) (hb : Below w.heap.size w w') : Met w' b S := h.kept (grown_of_below hb none) (by simp)
theorem keyOf_name {x : ByteArray} (h : x.size ≤ 1000000) : keyOf Tryd.prog 9 (.string x) = some (.string (nmL x)) := by
  exact Go.WideMaps.keyOf_string_mk Tryd.underlying9 (by unfold maxLen; omega)
set_option maxRecDepth 100000 in
theorem Met.look {w : World} {b : Nat} {S : List (List UInt8)} (h : Met w b S) {x : ByteArray} (hx : x.size ≤ 1000000) : (Instr.lookup 69 (.map (some b)) (.string x) false).run Tryd.prog w = .ok (.bool (decide (nmL x ∈ S))) w := by
  obtain ⟨D, h1, h2, h3⟩ := h
  obtain ⟨v, ps, hrun, hv⟩ := h1.lookup law9 Tryd.underlying69 (zero4 w) (plainElem_bool Tryd.underlying4 false) (keyOf_name hx)
  rw [(h3 x hx).1] at hv
  obtain ⟨a, rfl, ha⟩ := plainElem_bool_inv Tryd.underlying4 hv
  injection ha with ha
  injection ha with ha
  injection ha with ha
  rw [hrun, ha]
set_option maxRecDepth 100000 in
theorem Met.put {w : World} {b : Nat} {S : List (List UInt8)} (h : Met w b S) {x : ByteArray} (hx : x.size ≤ 1000000) (hn : nmL x ∉ S) (hm : S.length < maxLen) :
    ∃ w', (Instr.mapUpdate 69 (.map (some b)) (.string x) (.bool true)).run Tryd.prog w = .ok () w' ∧ Met w' b (S ++ [nmL x]) ∧ w.grownBy w' (some b) := by
  obtain ⟨D, h1, h2, h3⟩ := h
  obtain ⟨w', hr, hw, hg⟩ := h1.update law9 Tryd.underlying69 hm (keyOf_name hx) (plainElem_bool Tryd.underlying4 true)
  have hk : WideAt.IsKeyLit (.string (nmL x)) := trivial
  refine ⟨w', hr, ⟨_, by simpa using hw, ?_, fun y hy => ?_⟩, hg⟩
  · rw [size_put (h1.tidy law9), (h3 x hx).2, h2]
    simp [hn]
  · by_cases e : nmL y = nmL x
    · rw [e, atKey_put_same h1.isMap hk, has_put_same h1.isMap hk]
      simp
    · have e' : Lit.string (nmL y) ≠ Lit.string (nmL x) := fun h => e (by injection h)
      rw [atKey_put_other e', has_put_other e', (h3 y hy).1, (h3 y hy).2]
      simp [e]
end Go.Proofs.YtibgjfeifpanhaaDoor.B

set_option linter.unusedVariables false
set_option linter.unusedSimpArgs false
namespace Go.Proofs.YtibgjfeifpanhaaDoor.B
open Go.RowKit Go.Proofs.YtibgjfeifpanhaaDoorW.PrintWords PItemValid

def nmI (x : S32) : List UInt8 := x.f0.data.toList
def okI (x : S32) : Bool := nameF (nmI x) && (if x.f1 = 1 then (decide (x.f2 ≤ x.f3) && decide (-1000000000 ≤ x.f2) && decide (x.f3 ≤ 1000000000) && (x.f4 == 0)) else if x.f1 = 2 then (decide (1 ≤ x.f4) && decide (x.f4 ≤ 40) && (x.f2 == 0) && (x.f3 == 0)) else false)
theorem item_ValidItem_is (x : S32) : item_ValidItem.f 40 x.f0 x.f1 x.f2 x.f3 x.f4 = some (okI x) := by
  unfold item_ValidItem.f okI nmI
  rw [item_Name_is]
  simp only [Option.bind_some]
  cases nameF x.f0.data.toList with
  | false => rfl
  | true =>
    unfold item_within.f
    simp only [if_true, Bool.true_and]
    by_cases k1 : x.f1 = 1
    · rw [if_pos k1, if_pos k1]
      by_cases a : x.f2 ≤ x.f3 <;> by_cases b : x.f2 ≥ (-1000000000) <;> by_cases c : x.f3 ≤ 1000000000 <;> simp [a, b, c] <;> omega
    · rw [if_neg k1, if_neg k1]
      by_cases k2 : x.f1 = 2
      · rw [if_pos k2, if_pos k2]
        by_cases a : x.f4 ≥ 1 <;> by_cases b : x.f4 ≤ 40 <;> by_cases c : x.f2 = 0 <;> simp [a, b, c] <;> omega
      · rw [if_neg k2, if_neg k2]
theorem ref_ValidItem40 (x : S32) : ringworkref01_ValidItem.f 40 x.f0 x.f1 x.f2 x.f3 x.f4 = some (okI x) := by
  unfold ringworkref01_ValidItem.f okI nmI
  rw [ref_Name_is]
  simp only [Option.bind_some]
  cases nameF x.f0.data.toList with
  | false => rfl
  | true =>
    simp only [if_true, Bool.true_and]
    by_cases k1 : x.f1 = 1
    · rw [if_pos k1, if_pos k1]
      by_cases a : x.f2 ≤ x.f3 <;> by_cases b : (-1000000000) ≤ x.f2 <;> by_cases c : x.f4 = 0 <;> simp [a, b, c] <;> omega
    · rw [if_neg k1, if_neg k1]
      by_cases k2 : x.f1 = 2
      · rw [if_pos k2, if_pos k2]
        by_cases a : 1 ≤ x.f4 <;> by_cases b : x.f2 = 0 <;> by_cases c : x.f3 = 0 <;> simp [a, b, c] <;> omega
      · rw [if_neg k2, if_neg k2]
theorem ref_ValidItem_is (x : S32) (j : Nat) : ringworkref01_ValidItem.f (40 + j) x.f0 x.f1 x.f2 x.f3 x.f4 = some (okI x) := by
  induction j with
  | zero => exact ref_ValidItem40 x
  | succ j ih => exact ringworkref01_ValidItem.mono _ _ _ _ _ _ _ ih
theorem rd32_get (l : List S32) (i : Nat) (h : i < l.length) : rd_T32 l (i : Int) = l[i] := by
  simp [rd_T32, List.getD_eq_getElem?_getD, List.getElem?_eq_getElem h]
def idxN (nm : List UInt8) : Nat → List S32 → Int
  | _, [] => -1
  | i, x :: r => if nmI x = nm then i else idxN nm (i + 1) r
theorem ref_index_loop (l : List S32) (hl : l.length ≤ 20) (a : ByteArray) (n : Nat) : ∀ (i k : Nat), l.length - i ≤ n → i ≤ l.length → n + 1 ≤ k → ringworkref01_index.l0 k l a (i : Int) = some (idxN a.data.toList i (l.drop i)) := by
  induction n with
  | zero =>
    intro i k hn hi hk
    obtain ⟨k', rfl⟩ : ∃ k', k = k' + 1 := ⟨k - 1, by omega⟩
    unfold ringworkref01_index.l0
    rw [if_neg (by omega), List.drop_eq_nil_of_le (by omega)]
    rfl
  | succ n IH =>
    intro i k hn hi hk
    obtain ⟨k', rfl⟩ : ∃ k', k = k' + 1 := ⟨k - 1, by omega⟩
    unfold ringworkref01_index.l0
    by_cases h1 : i < l.length
    · rw [if_pos (by omega), if_pos (by omega), rd32_get l i h1, List.drop_eq_getElem_cons h1, idxN, ByteArray.toList_eq, ByteArray.toList_eq, w64 (by omega) (by omega)]
      rw [show l[i].f0.data.toList = nmI l[i] from rfl]
      by_cases e : nmI l[i] = a.data.toList
      · rw [if_pos e, if_pos e]
      · rw [if_neg e, if_neg e]
        have := IH (i + 1) k' (by omega) (by omega) (by omega)
        simpa using this
    · rw [if_neg (by omega), List.drop_eq_nil_of_le (by omega)]
      rfl
theorem ref_index_is (l : List S32) (hl : l.length ≤ 20) (a : ByteArray) (k : Nat) (hk : 21 ≤ k) : ringworkref01_index.f k l a = some (idxN a.data.toList 0 l) := by
  unfold ringworkref01_index.f
  have := ref_index_loop l hl a 20 0 k (by omega) (by omega) (by omega)
  simpa using this
/-- All are valid and none has the name of one before it. -/
def seenL : List (List UInt8) → List S32 → Bool
  | _, [] => true
  | S, x :: r => okI x && !decide (nmI x ∈ S) && seenL (S ++ [nmI x]) r
def validF (l : List S32) : Bool := decide (1 ≤ (l.length : Int)) && decide ((l.length : Int) ≤ 8) && seenL [] l
theorem idxN_here (x : S32) (r : List S32) : ∀ (pre : List S32) (i : Nat), (idxN (nmI x) i (pre ++ x :: r) = ((i + pre.length : Nat) : Int)) ↔ nmI x ∉ pre.map nmI
  | [], i => by simp [idxN]
  | y :: pre, i => by
    rw [List.cons_append, idxN]
    by_cases e : nmI y = nmI x
    · rw [if_pos e]
      simp [e]
      omega
    · rw [if_neg e]
      have := idxN_here x r pre (i + 1)
      rw [show (i + (y :: pre).length : Nat) = i + 1 + pre.length by simp; omega, this]
      simp [Ne.symm e]
theorem known_loop (l : List S32) (hl : l.length ≤ 20) (z : Nat) (hz : 40 ≤ z) (n : Nat) : ∀ (i k : Nat), l.length - i ≤ n → i ≤ l.length → n + 1 + z ≤ k → ringworkref01_Known.l0 k l (i : Int) = some (seenL ((l.take i).map nmI) (l.drop i) && decide ((l.length : Int) ≤ 8)) := by
  induction n with
  | zero =>
    intro i k hn hi hk
    obtain ⟨k', rfl⟩ : ∃ k', k = k' + 1 := ⟨k - 1, by omega⟩
    unfold ringworkref01_Known.l0
    rw [if_neg (by omega), List.drop_eq_nil_of_le (by omega)]
    rfl
  | succ n IH =>
    intro i k hn hi hk
    obtain ⟨k', rfl⟩ : ∃ k', k = k' + 1 := ⟨k - 1, by omega⟩
    unfold ringworkref01_Known.l0
    by_cases h1 : i < l.length
    · obtain ⟨j, rfl⟩ : ∃ j, k' = 40 + j := ⟨k' - 40, by omega⟩
      rw [if_pos (by omega), if_pos (by omega), rd32_get l i h1, ref_ValidItem_is, List.drop_eq_getElem_cons h1, seenL]
      simp only [Option.bind_some]
      cases okI l[i] with
      | false => rw [if_neg (by simp)]; rfl
      | true =>
        rw [if_pos rfl, ref_index_is l hl _ _ (by omega), w64 (by omega) (by omega), show l[i].f0.data.toList = nmI l[i] from rfl]
        simp only [Option.bind_some]
        have hh := idxN_here l[i] (l.drop (i + 1)) (l.take i) 0
        rw [← List.drop_eq_getElem_cons h1, List.take_append_drop, List.length_take, Nat.min_eq_left (by omega), Nat.zero_add] at hh
        have hT : (l.take (i + 1)).map nmI = (l.take i).map nmI ++ [nmI l[i]] := by rw [List.take_succ_eq_append_getElem h1, List.map_append]; rfl
        by_cases e : nmI l[i] ∈ (l.take i).map nmI
        · rw [if_neg (fun h => (hh.1 h) e), decide_eq_true e]
          rfl
        · rw [if_pos (hh.2 e), decide_eq_false e, ← hT]
          have := IH (i + 1) (40 + j) (by omega) (by omega) (by omega)
          simpa using this
    · rw [if_neg (by omega), List.drop_eq_nil_of_le (by omega)]
      rfl
theorem ref_ValidItems_is (l : List S32) (hl : l.length ≤ 20) (k : Nat) (hk : 61 ≤ k) : ringworkref01_ValidItems.f k l = some (validF l) := by
  unfold ringworkref01_ValidItems.f ringworkref01_Known.f validF
  have := known_loop l hl 40 (by omega) 20 0 k (by omega) (by omega) (by omega)
  have h2 : ringworkref01_Known.l0 k l 0 = some (seenL [] l && decide ((l.length : Int) ≤ 8)) := by simpa using this
  by_cases h : (l.length : Int) > 0
  · rw [if_pos h, h2, show decide (1 ≤ (l.length : Int)) = true from decide_eq_true (by omega)]
    simp only [Option.bind_some, Bool.true_and, Bool.and_comm]
  · rw [if_neg h, show decide (1 ≤ (l.length : Int)) = false from decide_eq_false (by omega)]
    rfl
end Go.Proofs.YtibgjfeifpanhaaDoor.B

set_option linter.unusedVariables false
set_option linter.unusedSimpArgs false
namespace Go.Proofs.YtibgjfeifpanhaaDoor.B
open Go.RowKit Go.Proofs.YtibgjfeifpanhaaDoorW.PrintWords Go.Maps PItemValid

/-- An item as the program holds it. -/
def vI (x : S32) : Value := .agg #[.string x.f0, .int .i64 x.f1, .int .i64 x.f2, .int .i64 x.f3, .int .i64 x.f4]
theorem C_item {w : World} {A : Option Addr} {n : Nat} {xs : List S32} (h : Kd.C k32 w A n xs) (i : Nat) (h1 : i < n) :
    ∃ ad x, A = some ad ∧ xs.drop i = x :: xs.drop (i + 1) ∧ w.cell? (ad.add (i * 5)) = some (.string x.f0) ∧ w.cell? ⟨(ad.add (i * 5)).block, (ad.add (i * 5)).off + 1, none⟩ = some (.int .i64 x.f1) ∧ w.cell? ⟨(ad.add (i * 5)).block, (ad.add (i * 5)).off + 2, none⟩ = some (.int .i64 x.f2) ∧ w.cell? ⟨(ad.add (i * 5)).block, (ad.add (i * 5)).off + 3, none⟩ = some (.int .i64 x.f3) ∧ w.cell? ⟨(ad.add (i * 5)).block, (ad.add (i * 5)).off + 4, none⟩ = some (.int .i64 x.f4) := by
  obtain ⟨ad, e, c0, c1, c2, c3, c4⟩ := at_T32 h i (by omega) (by omega)
  have hn : xs.length = n := h.1
  have e1 : rd_T32 xs (i : Int) = xs[i]'(by omega) := rd32_get xs i (by omega)
  rw [e1] at c0 c1 c2 c3 c4
  exact ⟨ad, xs[i]'(by omega), e, List.drop_eq_getElem_cons (by omega), c0, c1, c2, c3, c4⟩
theorem ValidItem_is {x : S32} {r : Bool} (h : okI x = r) (w : World) : Calls Tryd.prog 14 #[vI x] w fun e w' => e = .returned (.bool r) ∧ Below w.heap.size w w' := by
  subst h
  refine (item_ValidItem.calls 40 x.f0 x.f1 x.f2 x.f3 x.f4 _ w (item_ValidItem_is x)).mono ?_
  rintro e w' ⟨rfl, hd⟩
  exact ⟨rfl, by first | exact hd | exact hd.below⟩
theorem okI_len {x : S32} (h : okI x = true) : x.f0.size ≤ 16 := by
  unfold okI nmI at h
  rw [Bool.and_eq_true] at h
  have h1 := h.1
  by_cases h0 : 0 < x.f0.size
  · rw [nameF_of x.f0 h0] at h1
    simp at h1
    exact h1.1.1
  · omega
set_option maxRecDepth 100000 in
set_option maxHeartbeats 4000000 in
theorem ValidItems_calls (A : Option Addr) (c : Nat) (l : List S32) (w : World) (hl : l.length ≤ 20) (hr : Kd.C k32 w A l.length l) :
    Calls Tryd.prog 20 #[.slice A l.length c] w fun e w' => e = .returned (.bool (validF l)) ∧ Below w.heap.size w w' := by
  have HR := Aside0.mk hr
  clear hr
  have hmm := @run_makeMap Tryd.prog
  have HV : Aside0 (validF l = ((decide (1 ≤ (l.length : Int)) && decide ((l.length : Int) ≤ 8)) && seenL [] (l.drop 0))) := ⟨rfl⟩
  go_enter Tryd.func20, Tryd.ntmps20
  go_wp2
  go_loopg [9] l.length (fun g v9 wr => ∃ (i : Nat) (S : List (List UInt8)), g = l.length - i ∧ i ≤ l.length ∧ v9 = .int .i64 i ∧ Aside0 (validF l = ((decide (1 ≤ (l.length : Int)) && decide ((l.length : Int) ≤ 8)) && seenL S (l.drop i))) ∧ Aside0 (S.length ≤ i) ∧ Met wr w.heap.size S ∧ Below w.heap.size w wr)
  case atStart => exact ⟨0, [], rfl, Nat.zero_le _, rfl, HV, ⟨Nat.le_refl _⟩, met_made w, (Below.refl _ _).alloc (Nat.le_refl _) _⟩
  case round =>
    obtain ⟨i, S, hg, hi, rfl, HT, HSL, hmet, hbel⟩ := hrel
    have HG := Aside0.mk hg
    clear hg HV
    by_cases hlt : i < l.length
    · obtain ⟨ad, x, hA, hdx, c0, c1, c2, c3, c4⟩ := C_item HR.out i hlt
      subst hA
      replace c0 := pw_cell_below hbel c0
      replace c1 := pw_cell_below hbel c1
      replace c2 := pw_cell_below hbel c2
      replace c3 := pw_cell_below hbel c3
      replace c4 := pw_cell_below hbel c4
      have HD := Aside0.mk hdx
      clear hdx
      have hb2 := below_alloc hbel (.cells #[.string x.f0, .int .i64 x.f1, .int .i64 x.f2, .int .i64 x.f3, .int .i64 x.f4] 32)
      have hmet2 := hmet.below (below_alloc (Below.refl _ wr) (.cells #[.string x.f0, .int .i64 x.f1, .int .i64 x.f2, .int .i64 x.f3, .int .i64 x.f4] 32))
      cases hok : okI x with
      | false =>
        have HC := fun W => Aside0.mk (ValidItem_is hok W)
        unfold vI at HC
        have HOK := Aside0.mk hok
        clear hok
        go_wp2_with (go_at_call 14; go_must (refine (HC _).out.mono ?_; rintro e w2 ⟨rfl, hd⟩))
        go_ret
        exact ⟨ret_bool (by rw [HT.out, HD.out, seenL, HOK.out]; simp), below_then hb2 hd⟩
      | true =>
        have HC := fun W => Aside0.mk (ValidItem_is hok W)
        unfold vI at HC
        have HOK := Aside0.mk hok
        have hsz : x.f0.size ≤ 1000000 := by have := okI_len hok; omega
        have HSZ := Aside0.mk hsz
        clear hok hsz
        have hbx : (wr.alloc (.cells #[.string x.f0, .int .i64 x.f1, .int .i64 x.f2, .int .i64 x.f3, .int .i64 x.f4] 32)).cell? ⟨wr.heap.size, 0, none⟩ = some (.string x.f0) := by simp
        by_cases hin : nmL x.f0 ∈ S
        · have HIN := Aside0.mk hin
          clear hin
          go_wp2_with (go_at_call 14; go_must (refine (HC _).out.mono ?_; rintro e w2 ⟨rfl, hd⟩; have hlook := (hmet2.below hd).look HSZ.out; rw [decide_eq_true HIN.out] at hlook; have hbx2 := pw_cell_below hd hbx))
          go_ret
          exact ⟨ret_bool (by rw [HT.out, HD.out, seenL, decide_eq_true (show nmI x ∈ S from HIN.out)]; simp), below_then hb2 hd⟩
        · have HIN := Aside0.mk hin
          clear hin
          have hs8 : S.length < maxLen := by have := HSL.out; unfold maxLen; omega
          have HS8 := Aside0.mk hs8
          clear hs8
          go_wp2_with (go_at_call 14; go_must (refine (HC _).out.mono ?_; rintro e w2 ⟨rfl, hd⟩; have hlook := (hmet2.below hd).look HSZ.out; rw [decide_eq_false HIN.out] at hlook; have hbx2 := pw_cell_below hd hbx; obtain ⟨w3, hput, hmet3, hgr⟩ := (hmet2.below hd).put HSZ.out HIN.out HS8.out; have hb3 := below_then hb2 hd))
          go_roundg (l.length - (i + 1))
          case measure => have := HG.out; omega
          case rel => exact ⟨i + 1, S ++ [nmL x.f0], rfl, by omega, by go_num, ⟨by rw [HT.out, HD.out, seenL, HOK.out, decide_eq_false (show nmI x ∉ S from HIN.out)]; rfl⟩, ⟨by have := HSL.out; simp; omega⟩, hmet3, hb3.grown hgr hb3.size (fun j hj => by cases hj; exact Nat.le_refl _)⟩
    · have HE : Aside0 (validF l = (decide (1 ≤ (l.length : Int)) && decide ((l.length : Int) ≤ 8))) := ⟨by rw [HT.out, List.drop_eq_nil_of_le (by omega), seenL, Bool.and_true]⟩
      go_wp2_with (go_at_call 54; go_must (refine (within_calls _ _ _ _).mono ?_; rintro e w2 ⟨rfl, hd⟩))
      go_ret
      exact ⟨ret_bool HE.out.symm, below_then hbel hd.below⟩
end Go.Proofs.YtibgjfeifpanhaaDoor.B

set_option linter.unusedVariables false
set_option linter.unusedSimpArgs false
namespace Go.Proofs.YtibgjfeifpanhaaDoor.B
open Go.RowKit Go.Proofs.YtibgjfeifpanhaaDoorW.PrintWords Go.Maps PItemValid

def holdsF (x : S32) (v : S29) : Bool := okV v && (v.f0 == x.f1) && (if v.f0 = 1 then decide (x.f2 ≤ v.f1) && decide (v.f1 ≤ x.f3) else decide ((v.f2.size : Int) ≤ x.f4))
def fitsL : List S32 → List S29 → Bool
  | x :: r, v :: s => holdsF x v && fitsL r s
  | _, _ => true
def eqF (l : List S32) (r : List S29) : Bool := decide (l.length = r.length) && fitsL l r
def fitsF (l : List S32) (r : List S29) : Bool := validF l && eqF l r
theorem okV_kind {v : S29} (h : okV v = true) : v.f0 = 1 ∨ v.f0 = 2 := by
  unfold okV at h
  split at h
  · exact .inl ‹_›
  · split at h
    · exact .inr ‹_›
    · cases h
theorem valid_is {v : S29} {r : Bool} (h : okV v = r) (w : World) : Calls Tryd.prog 12 #[vV v] w fun e w' => e = .returned (.bool r) ∧ Below w.heap.size w w' := by
  subst h
  exact ValidValue_calls v w
set_option maxRecDepth 100000 in
set_option maxHeartbeats 4000000 in
theorem takes_is {x : S32} {v : S29} {r : Bool} (h : holdsF x v = r) (w : World) : Calls Tryd.prog 62 #[vI x, vV v] w fun e w' => e = .returned (.bool r) ∧ Below w.heap.size w w' := by
  subst h
  have hb1 : Below w.heap.size w ((w.alloc (.cells #[.string x.f0, .int .i64 x.f1, .int .i64 x.f2, .int .i64 x.f3, .int .i64 x.f4] 32)).alloc (.cells #[.int .i64 v.f0, .int .i64 v.f1, .string v.f2] 29)) := below_alloc (below_alloc (Below.refl _ _) _) _
  have X : ∀ (j : Nat) u, (#[.string x.f0, .int .i64 x.f1, .int .i64 x.f2, .int .i64 x.f3, .int .i64 x.f4] : Array Value)[j]? = some u → ((w.alloc (.cells #[.string x.f0, .int .i64 x.f1, .int .i64 x.f2, .int .i64 x.f3, .int .i64 x.f4] 32)).alloc (.cells #[.int .i64 v.f0, .int .i64 v.f1, .string v.f2] 29)).cell? ⟨w.heap.size, j, none⟩ = some u := fun j u hu => by
    exact pw_cell_below (below_alloc (Below.refl _ _) _) (by rw [World.cell?_alloc_new]; exact hu)
  have V : ∀ (j : Nat) u, (#[.int .i64 v.f0, .int .i64 v.f1, .string v.f2] : Array Value)[j]? = some u → ((w.alloc (.cells #[.string x.f0, .int .i64 x.f1, .int .i64 x.f2, .int .i64 x.f3, .int .i64 x.f4] 32)).alloc (.cells #[.int .i64 v.f0, .int .i64 v.f1, .string v.f2] 29)).cell? ⟨w.heap.size + 1, j, none⟩ = some u := fun j u hu => by
    have := World.cell?_alloc_new (w := w.alloc (.cells #[.string x.f0, .int .i64 x.f1, .int .i64 x.f2, .int .i64 x.f3, .int .i64 x.f4] 32)) #[.int .i64 v.f0, .int .i64 v.f1, .string v.f2] 29 j
    rw [World.size_alloc] at this
    exact this.trans hu
  have x1 := X 1 _ rfl
  have x2 := X 2 _ rfl
  have x3 := X 3 _ rfl
  have x4 := X 4 _ rfl
  have v0 := V 0 _ rfl
  have v1 := V 1 _ rfl
  have v2 := V 2 _ rfl
  clear X V
  cases hok : okV v with
  | false =>
    have HC := fun W => Aside0.mk (valid_is hok W)
    have HF : Aside0 (holdsF x v = false) := ⟨by unfold holdsF; rw [hok]; rfl⟩
    clear hok x1 x2 x3 x4 v0 v1 v2
    unfold vV vI at *
    go_enter Tryd.func62, Tryd.ntmps62
    go_wp2_with (go_at_call 12; go_must (refine (HC _).out.mono ?_; rintro e w2 ⟨rfl, hd⟩))
    go_ret
    exact ⟨ret_bool HF.out.symm, below_then hb1 hd⟩
  | true =>
    have HC := fun W => Aside0.mk (valid_is hok W)
    cases hk : (v.f0 == x.f1) with
    | false =>
      have HF : Aside0 (holdsF x v = false) := ⟨by unfold holdsF; rw [hok, hk]; rfl⟩
      clear hok x2 x3 x4 v1 v2
      unfold vV vI at *
      go_enter Tryd.func62, Tryd.ntmps62
      go_wp2_with (go_at_call 12; go_must (refine (HC _).out.mono ?_; rintro e w2 ⟨rfl, hd⟩; have x1' := pw_cell_below hd x1; have v0' := pw_cell_below hd v0))
      go_ret
      exact ⟨ret_bool HF.out.symm, below_then hb1 hd⟩
    | true =>
      rcases okV_kind hok with h1 | h1
      · have k2 : (v.f0 == 2) = false := by rw [h1]; rfl
        have k1 : (v.f0 == 1) = true := by rw [h1]; rfl
        have HF : Aside0 (holdsF x v = (decide (x.f2 ≤ v.f1) && decide (v.f1 ≤ x.f3))) := ⟨by unfold holdsF; rw [hok, hk, if_pos h1]; rfl⟩
        clear hok h1 x4 v2
        unfold vV vI at *
        go_enter Tryd.func62, Tryd.ntmps62
        go_wp2_with (first | (go_at_call 12; go_must (refine (HC _).out.mono ?_; rintro e w2 ⟨rfl, hd⟩; have x1' := pw_cell_below hd x1; have x2' := pw_cell_below hd x2; have x3' := pw_cell_below hd x3; have v0' := pw_cell_below hd v0; have v1' := pw_cell_below hd v1)) | (go_at_call 54; go_must (refine (within_calls _ _ _ _).mono ?_; rintro e w3 ⟨rfl, hd3⟩)))
        go_ret
        exact ⟨ret_bool (by first | (rw [HF.out]; done) | (rw [HF.out]; simp)), below_then (below_then hb1 hd) hd3.below⟩
      · have k2 : (v.f0 == 2) = true := by rw [h1]; rfl
        have k1 : (v.f0 == 1) = false := by rw [h1]; rfl
        have HF : Aside0 (holdsF x v = decide ((v.f2.size : Int) ≤ x.f4)) := ⟨by unfold holdsF; rw [hok, hk, if_neg (by omega)]; rfl⟩
        clear hok h1 x2 x3 v1
        unfold vV vI at *
        cases hs : decide ((v.f2.size : Int) ≤ x.f4) with
        | false =>
          go_enter Tryd.func62, Tryd.ntmps62
          go_wp2_with (go_at_call 12; go_must (refine (HC _).out.mono ?_; rintro e w2 ⟨rfl, hd⟩; have x1' := pw_cell_below hd x1; have x4' := pw_cell_below hd x4; have v0' := pw_cell_below hd v0; have v2' := pw_cell_below hd v2))
          go_ret
          exact ⟨ret_bool (by rw [HF.out, hs]), below_then hb1 hd⟩
        | true =>
          go_enter Tryd.func62, Tryd.ntmps62
          go_wp2_with (go_at_call 12; go_must (refine (HC _).out.mono ?_; rintro e w2 ⟨rfl, hd⟩; have x1' := pw_cell_below hd x1; have x4' := pw_cell_below hd x4; have v0' := pw_cell_below hd v0; have v2' := pw_cell_below hd v2))
          go_ret
          exact ⟨ret_bool (by rw [HF.out, hs]), below_then hb1 hd⟩
end Go.Proofs.YtibgjfeifpanhaaDoor.B

set_option linter.unusedVariables false
set_option linter.unusedSimpArgs false
namespace Go.Proofs.YtibgjfeifpanhaaDoor.B
open Go.RowKit Go.Proofs.YtibgjfeifpanhaaDoorW.PrintWords Go.Maps PItemValid

set_option maxRecDepth 100000 in
set_option maxHeartbeats 4000000 in
theorem EqualFunc_calls (A : Option Addr) (c : Nat) (a : List S32) (A' : Option Addr) (c' : Nat) (b : List S29) (w : World) (hx : Kd.C k32 w A a.length a) (hy : Kd.C k29 w A' b.length b) :
    Calls Tryd.prog 61 #[.slice A a.length c, .slice A' b.length c', .func (.func 62) #[] #[]] w fun e w' => e = .returned (.bool (eqF a b)) ∧ Below w.heap.size w w' := by
  have HX := Aside0.mk hx
  have HY := Aside0.mk hy
  have hmx := (C_len hx).2
  have hmy := (C_len hy).2
  clear hx hy
  by_cases hl : a.length = b.length
  · have hl1 : ((a.length : Int) != (b.length : Int)) = false := by rw [hl]; exact bne_self_eq_false _
    have HL := Aside0.mk hl
    have HS : Aside0 (eqF a b = fitsL (a.drop 0) (b.drop 0)) := ⟨by unfold eqF; rw [decide_eq_true hl]; rfl⟩
    clear hl
    go_enter Tryd.func61, Tryd.ntmps61
    go_wp2
    go_loopg [17] a.length (fun g v17 wr => ∃ (i : Nat), g = a.length - i ∧ i ≤ a.length ∧ v17 = .int .i64 i ∧ Aside0 (eqF a b = fitsL (a.drop i) (b.drop i)) ∧ Below w.heap.size w wr)
    case atStart => exact ⟨0, rfl, Nat.zero_le _, rfl, HS, Below.refl _ _⟩
    case round =>
      obtain ⟨i, hg, hi, rfl, HT, hbel⟩ := hrel
      have HG := Aside0.mk hg
      clear hg HS
      by_cases hlt : i < a.length
      · have hlb : i < b.length := by have := HL.out; omega
        obtain ⟨ad, x, hA, hdx, c0, c1, c2, c3, c4⟩ := C_item HX.out i hlt
        subst hA
        replace c0 := pw_cell_below hbel c0
        replace c1 := pw_cell_below hbel c1
        replace c2 := pw_cell_below hbel c2
        replace c3 := pw_cell_below hbel c3
        replace c4 := pw_cell_below hbel c4
        obtain ⟨ad', y, hA', hdy, d0, d1, d2⟩ := C_val HY.out i hlb
        subst hA'
        have hbelA := below_alloc hbel (.cells #[.string x.f0, .int .i64 x.f1, .int .i64 x.f2, .int .i64 x.f3, .int .i64 x.f4] 32)
        replace d0 := pw_cell_below hbelA d0
        replace d1 := pw_cell_below hbelA d1
        replace d2 := pw_cell_below hbelA d2
        have HD := Aside0.mk hdx
        have HE := Aside0.mk hdy
        clear hdx hdy
        have hb3 := below_alloc hbelA (.cells #[.int .i64 y.f0, .int .i64 y.f1, .string y.f2] 29)
        cases hq : holdsF x y with
        | false =>
          have HC := fun W => Aside0.mk (takes_is hq W)
          have HQ := Aside0.mk hq
          unfold vV vI at HC
          clear hq
          go_wp2_with (go_at_call 62; go_must (refine (HC _).out.mono ?_; rintro e w2 ⟨rfl, hd⟩))
          go_ret
          exact ⟨ret_bool (by rw [HT.out, HD.out, HE.out, fitsL, HQ.out]; rfl), below_then hb3 hd⟩
        | true =>
          have HC := fun W => Aside0.mk (takes_is hq W)
          have HQ := Aside0.mk hq
          unfold vV vI at HC
          clear hq
          go_wp2_with (go_at_call 62; go_must (refine (HC _).out.mono ?_; rintro e w2 ⟨rfl, hd⟩))
          go_roundg (a.length - (i + 1))
          case measure => have := HG.out; omega
          case rel => exact ⟨i + 1, rfl, by omega, by go_num, ⟨by rw [HT.out, HD.out, HE.out, fitsL, HQ.out]; rfl⟩, below_then hb3 hd⟩
      · go_wp2
        go_ret
        exact ⟨ret_bool (by rw [HT.out, List.drop_eq_nil_of_le (show a.length ≤ i by omega)]; rfl), hbel⟩
  · have hl1 : ((a.length : Int) != (b.length : Int)) = true := bne_iff_ne.2 (by omega)
    have HF : Aside0 (eqF a b = false) := ⟨by unfold eqF; rw [decide_eq_false hl]; rfl⟩
    clear hl
    go_enter Tryd.func61, Tryd.ntmps61
    go_wp2
    go_ret
    exact ⟨ret_bool HF.out.symm, Below.refl _ _⟩
theorem items_is {l : List S32} {r : Bool} (h : validF l = r) (hl : l.length ≤ 20) (A : Option Addr) (c : Nat) (w : World) (hr : Kd.C k32 w A l.length l) :
    Calls Tryd.prog 20 #[.slice A l.length c] w fun e w' => e = .returned (.bool r) ∧ Below w.heap.size w w' := by
  subst h
  exact ValidItems_calls A c l w hl hr
theorem Fits_is {a : List S32} {b : List S29} {r : Bool} (h : fitsF a b = r) (hl : a.length ≤ 20) (A : Option Addr) (c : Nat) (A' : Option Addr) (c' : Nat) (w : World) (hx : Kd.C k32 w A a.length a) (hy : Kd.C k29 w A' b.length b) :
    Calls Tryd.prog 22 #[.slice A a.length c, .slice A' b.length c'] w fun e w' => e = .returned (.bool r) ∧ Below w.heap.size w w' := by
  subst h
  have HX := Aside0.mk hx
  have HY := Aside0.mk hy
  cases hv : validF a with
  | false =>
    have HF : Aside0 (fitsF a b = false) := ⟨by unfold fitsF; rw [hv]; rfl⟩
    have HC := Aside0.mk (items_is hv hl A c w hx)
    clear hv hx hy
    go_enter Tryd.func22, Tryd.ntmps22
    go_wp2_with (go_at_call 20; go_must (refine HC.out.mono ?_; rintro e w2 ⟨rfl, hd⟩))
    go_ret
    exact ⟨ret_bool HF.out.symm, hd⟩
  | true =>
    have HF : Aside0 (fitsF a b = eqF a b) := ⟨by unfold fitsF; rw [hv]; rfl⟩
    have HC := Aside0.mk (items_is hv hl A c w hx)
    have HE := fun W h => Aside0.mk (EqualFunc_calls A c a A' c' b W (Kd.C_below HX.out h) (Kd.C_below HY.out h))
    clear hv hx hy
    generalize eqF a b = q at HF HE
    go_enter Tryd.func22, Tryd.ntmps22
    go_wp2_with (first | (go_at_call 20; go_must (refine HC.out.mono ?_; rintro e w2 ⟨rfl, hd⟩)) | (go_at_call 61; go_must (refine (HE _ hd).out.mono ?_; rintro e w3 ⟨rfl, hd3⟩)))
    go_ret
    exact ⟨ret_bool (by first | (rw [HF.out]; done) | (rw [HF.out]; simp)), below_then hd hd3⟩
end Go.Proofs.YtibgjfeifpanhaaDoor.B

set_option linter.unusedVariables false
set_option linter.unusedSimpArgs false
namespace Go.Proofs.YtibgjfeifpanhaaDoor.B
open Go.RowKit Go.Deep Go.ChangeShapes Go.WideShapes Go.Proofs.YtibgjfeifpanhaaDoorW.PrintWords Go.Maps PItemValid

section
variable {H : Type} {enc : TypeId × Value → H} {W : World} {held : Bool}
set_option maxRecDepth 100000 in
theorem open_items_C {a : Option Addr} {len cap fuel : Nat} {x : DataW H × List MemPlace} (h : DataW.trod enc Tryd.prog W 0 (fun _ => true) held fuel 22 [.slice a len cap] = some x) :
    ∃ l : List S32, l.length = len ∧ len ≤ cap ∧ Kd.C k32 W a l.length l := by
  refine open_C k32 Tryd.underlying22 (by kernel_rfl) (fun n cs y hy => ?_) h
  obtain ⟨xs, m, _, _, hl, hn, hf⟩ := DataW.trod_struct Tryd.underlying32 hy
  have hc : Tryd.prog.cellsOf 32 = 5 := by kernel_rfl
  have hc3 : Tryd.prog.cellsOf 3 = 1 := by kernel_rfl
  have hc9 : Tryd.prog.cellsOf 9 = 1 := by kernel_rfl
  rw [hc] at hl
  match cs, hl with
  | [u0, u1, u2, u3, u4], _ =>
    match xs, hn with
    | [x0, x1, x2, x3, x4], _ =>
      have h0 := hf 0 _ rfl
      have h1 := hf 1 _ rfl
      have h2 := hf 2 _ rfl
      have h3 := hf 3 _ rfl
      have h4 := hf 4 _ rfl
      simp [hc3, hc9] at h0 h1 h2 h3 h4
      obtain ⟨s0, e0, _, _⟩ := DataW.trod_string Tryd.underlying9 h0
      obtain ⟨n1, e1, _, _⟩ := DataW.trod_int Tryd.underlying3 h1
      obtain ⟨n2, e2, _, _⟩ := DataW.trod_int Tryd.underlying3 h2
      obtain ⟨n3, e3, _, _⟩ := DataW.trod_int Tryd.underlying3 h3
      obtain ⟨n4, e4, _, _⟩ := DataW.trod_int Tryd.underlying3 h4
      simp at e0 e1 e2 e3 e4
      subst e0 e1 e2 e3 e4
      exact ⟨⟨s0, n1, n2, n3, n4⟩, k32_mk _ _⟩
end
theorem items_end (l : List S32) (i k : Nat) (h : 20 ≤ i ∨ l.length ≤ i) : ringworklaw01_Items.l0 (k + 2) l (i : Int) = some (decide ((l.length : Int) ≤ 20)) := by
  unfold ringworklaw01_Items.l0
  by_cases h1 : i < l.length
  · rw [if_pos (by omega), show decide ((i : Int) < 20) = false from decide_eq_false (by omega)]
    unfold ringworklaw01_Items.j1
    rw [if_neg (by simp)]
  · rw [if_neg (by omega)]
    unfold ringworklaw01_Items.j1
    rw [if_neg (by simp)]
theorem items_loop (l : List S32) (n : Nat) : ∀ (i k : Nat), 20 - i ≤ n → i ≤ 20 → 2 * n + 3 ≤ k → ∃ r, ringworklaw01_Items.l0 k l (i : Int) = some r ∧ (r = true → l.length ≤ 20) := by
  induction n with
  | zero =>
    intro i k hn hi hk
    obtain ⟨k', rfl⟩ : ∃ k', k = k' + 2 := ⟨k - 2, by omega⟩
    exact ⟨_, items_end l i k' (.inl (by omega)), fun h => by have := of_decide_eq_true h; omega⟩
  | succ n IH =>
    intro i k hn hi hk
    obtain ⟨k', rfl⟩ : ∃ k', k = k' + 2 := ⟨k - 2, by omega⟩
    by_cases h0 : 20 ≤ i ∨ l.length ≤ i
    · exact ⟨_, items_end l i k' h0, fun h => by have := of_decide_eq_true h; omega⟩
    · unfold ringworklaw01_Items.l0
      rw [if_pos (by omega), show decide ((i : Int) < 20) = true from decide_eq_true (by omega)]
      unfold ringworklaw01_Items.j1
      rw [if_pos rfl, if_pos (by omega), if_pos (by omega)]
      by_cases h1 : ((rd_T32 l (i : Int)).f0.size : Int) > 100
      · rw [if_pos h1]
        exact ⟨false, rfl, fun h => by cases h⟩
      · rw [if_neg h1, w64 (by omega) (by omega)]
        have := IH (i + 1) k' (by omega) (by omega) (by omega)
        simpa using this
theorem Items_calls (A : Option Addr) (c : Nat) (l : List S32) (w : World) (hr : Kd.C k32 w A l.length l) (hc : l.length ≤ c) :
    ∃ r, (r = true → l.length ≤ 20) ∧ Calls Tryd.prog 9 #[.slice A l.length c] w fun e w' => e = .returned (.bool r) ∧ Drawn0 w w' := by
  obtain ⟨r, h1, h2⟩ := items_loop l 20 0 60 (by omega) (by omega) (by omega)
  exact ⟨r, h2, ringworklaw01_Items.calls 60 A c l r w hr hc (by simpa [ringworklaw01_Items.f] using h1)⟩
end Go.Proofs.YtibgjfeifpanhaaDoor.B

set_option linter.unusedVariables false
set_option linter.unusedSimpArgs false
namespace Go.Proofs.YtibgjfeifpanhaaDoor.B
open Go.RowKit Go.Proofs.YtibgjfeifpanhaaDoorW.PrintWords Go.Maps PItemValid

theorem named_is {x : S32} {nm : ByteArray} {r : Bool} (h : decide (nmI x = nm.data.toList) = r) (Bx : Nat) (w : World) (hb : w.cell? ⟨Bx, 0, none⟩ = some (.string nm)) :
    Calls Tryd.prog 97 #[vI x, .pointer (some ⟨Bx, 0, none⟩)] w fun e w' => e = .returned (.bool r) ∧ Below w.heap.size w w' := by
  have hd : (x.f0.toList == nm.toList) = r := by
    rw [ByteArray.toList_eq, ByteArray.toList_eq, ← h]
    unfold nmI
    generalize x.f0.data.toList = p
    generalize nm.data.toList = q
    by_cases e : p = q <;> simp [e]
  have hb2 := pw_cell_below (below_alloc (Below.refl _ w) (.cells #[.string x.f0, .int .i64 x.f1, .int .i64 x.f2, .int .i64 x.f3, .int .i64 x.f4] 32)) hb
  clear h hb
  unfold vI
  go_enter Tryd.func97, Tryd.ntmps97
  go_wp2
  go_ret
  exact ⟨ret_bool (by first | rfl | exact hd), below_alloc (Below.refl _ _) _⟩
set_option maxHeartbeats 2000000 in
theorem IndexItem_calls (A : Option Addr) (c : Nat) (l : List S32) (Bx : Nat) (nm : ByteArray) (w : World) (hr : Kd.C k32 w A l.length l) (hb : w.cell? ⟨Bx, 0, none⟩ = some (.string nm)) :
    Calls Tryd.prog 96 #[.slice A l.length c, .func (.func 97) #[] #[.pointer (some ⟨Bx, 0, none⟩)]] w fun e w' => e = .returned (.int .i64 (idxN nm.data.toList 0 l)) ∧ Below w.heap.size w w' := by
  have HR := Aside0.mk hr
  have HBX := Aside0.mk hb
  have hmx := (C_len hr).2
  clear hr hb
  have HS : Aside0 (idxN nm.data.toList 0 l = idxN nm.data.toList 0 (l.drop 0)) := ⟨rfl⟩
  go_enter Tryd.func96, Tryd.ntmps96
  go_wp2
  go_loopg [8] l.length (fun g v8 wr => ∃ (i : Nat), g = l.length - i ∧ i ≤ l.length ∧ v8 = .int .i64 i ∧ Aside0 (idxN nm.data.toList 0 l = idxN nm.data.toList i (l.drop i)) ∧ Below w.heap.size w wr)
  case atStart => exact ⟨0, rfl, Nat.zero_le _, rfl, HS, Below.refl _ _⟩
  case round =>
    obtain ⟨i, hg, hi, rfl, HT, hbel⟩ := hrel
    have HG := Aside0.mk hg
    clear hg HS
    by_cases hlt : i < l.length
    · obtain ⟨ad, x, hA, hdx, c0, c1, c2, c3, c4⟩ := C_item HR.out i hlt
      subst hA
      replace c0 := pw_cell_below hbel c0
      replace c1 := pw_cell_below hbel c1
      replace c2 := pw_cell_below hbel c2
      replace c3 := pw_cell_below hbel c3
      replace c4 := pw_cell_below hbel c4
      have HD := Aside0.mk hdx
      have HB2 := Aside0.mk (pw_cell_below hbel HBX.out)
      clear hdx
      cases hq : decide (nmI x = nm.data.toList) with
      | true =>
        have HQ := Aside0.mk (of_decide_eq_true hq)
        have HC := Aside0.mk (named_is hq Bx wr HB2.out)
        unfold vI at HC
        clear hq
        go_wp2_with (go_at_call 97; go_must (refine HC.out.mono ?_; rintro e w2 ⟨rfl, hd⟩))
        go_ret
        exact ⟨ret_i (by rw [HT.out, HD.out, idxN, if_pos HQ.out]), below_then hbel hd⟩
      | false =>
        have HQ := Aside0.mk (of_decide_eq_false hq)
        have HC := Aside0.mk (named_is hq Bx wr HB2.out)
        unfold vI at HC
        clear hq
        go_wp2_with (go_at_call 97; go_must (refine HC.out.mono ?_; rintro e w2 ⟨rfl, hd⟩))
        go_roundg (l.length - (i + 1))
        case measure => have := HG.out; omega
        case rel => exact ⟨i + 1, rfl, by omega, by go_num, ⟨by rw [HT.out, HD.out, idxN, if_neg HQ.out]⟩, below_then hbel hd⟩
    · go_wp2
      go_ret
      exact ⟨ret_i (by rw [HT.out, List.drop_eq_nil_of_le (by omega), idxN]), hbel⟩
theorem place_calls (A : Option Addr) (c : Nat) (l : List S32) (nm : ByteArray) (w : World) (hr : Kd.C k32 w A l.length l) :
    Calls Tryd.prog 71 #[.slice A l.length c, .string nm] w fun e w' => e = .returned (.int .i64 (idxN nm.data.toList 0 l)) ∧ Below w.heap.size w w' := by
  have HC := Aside0.mk (IndexItem_calls A c l w.heap.size nm (w.alloc (.cells #[.string nm] 9)) (Kd.C_alloc hr _) (by simp))
  clear hr
  go_enter Tryd.func71, Tryd.ntmps71
  go_wp2_with (go_at_call 96; go_must (refine HC.out.mono ?_; rintro e w2 ⟨rfl, hd⟩))
  go_ret
  exact ⟨rfl, below_then (below_alloc (Below.refl _ _) _) hd⟩
end Go.Proofs.YtibgjfeifpanhaaDoor.B

namespace Go.Proofs.YtibgjfeifpanhaaDoor.PItemValid
open Go.RowKit Go.Proofs.YtibgjfeifpanhaaDoorW.PrintWords Go.Proofs.YtibgjfeifpanhaaDoorW.PrintLast Go.Proofs.YtibgjfeifpanhaaDoorW.PrintMore
attribute [local go_sem] max2_int min2_int max_two min_two max_three min_three max_four min_four   -- for this text's walks alone
set_option linter.unusedVariables false
set_option linter.unusedSimpArgs false

theorem info32 : (Tryd.prog.info? 32).map (fun i => (i.zero, i.size, i.bytes)) = some (some (.agg #[(.string ⟨#[]⟩), (.int .i64 0), (.int .i64 0), (.int .i64 0), (.int .i64 0)]), 5, 48) := by kernel_rfl
theorem info29 : (Tryd.prog.info? 29).map (fun i => (i.zero, i.size, i.bytes)) = some (some (.agg #[(.int .i64 0), (.int .i64 0), (.string ⟨#[]⟩)]), 3, 32) := by kernel_rfl
theorem eqA32 (d : Nat) (w : World) (x0 y0 : ByteArray) (x1 y1 : Int) (x2 y2 : Int) (x3 y3 : Int) (x4 y4 : Int) :
    (Op.equalIn (d + 2) 32 (.agg #[.string x0, .int .i64 x1, .int .i64 x2, .int .i64 x3, .int .i64 x4]) (.agg #[.string y0, .int .i64 y1, .int .i64 y2, .int .i64 y3, .int .i64 y4])).run Tryd.prog w = .ok (x0.toList == y0.toList && (x1 == y1 && (x2 == y2 && (x3 == y3 && (x4 == y4))))) w := by
  refine eqA_of Tryd.underlying32 (by kernel_rfl) ?_
  refine eqf_cons (by rfl) (by go_simp; rfl) (by go_simp; rfl) (by go_simp) ?_
  refine eqf_cons (by rfl) (by go_simp; rfl) (by go_simp; rfl) (by go_simp) ?_
  refine eqf_cons (by rfl) (by go_simp; rfl) (by go_simp; rfl) (by go_simp) ?_
  refine eqf_cons (by rfl) (by go_simp; rfl) (by go_simp; rfl) (by go_simp) ?_
  exact eqf_last (by rfl) (by go_simp; rfl) (by go_simp; rfl) (by go_simp)
end Go.Proofs.YtibgjfeifpanhaaDoor.PItemValid

set_option linter.unusedVariables false
set_option linter.unusedSimpArgs false
namespace Go.Proofs.YtibgjfeifpanhaaDoor.B
open Go.RowKit Go.Proofs.YtibgjfeifpanhaaDoorW.PrintWords Go.Maps PItemValid

abbrev OItm (w : World) (base : Nat) (v : Value) (xs : List S32) : Prop := Kd.R k32 32 w base Tr v xs
/-- The items of names, in their order; none if one is unknown. -/
def picks (l : List S32) : List ByteArray → Option (List S32)
  | [] => some []
  | n :: r => if idxN n.data.toList 0 l < 0 then none else (picks l r).map (l.getD (idxN n.data.toList 0 l).toNat z32 :: ·)
def narF (l : List S32) (names : List ByteArray) : List S32 × Int :=
  if validF l = true then (match picks l names with
    | none => ([], 5)
    | some out => if out = [] then ([], 11) else if validF out = true then (out, 0) else ([], 6)) else ([], 1)
theorem idxN_lt (nm : List UInt8) : ∀ (l : List S32) (i : Nat), idxN nm i l < ((i + l.length : Nat) : Int)
  | [], i => by simp [idxN]; omega
  | x :: r, i => by
    rw [idxN]
    split
    · simp; omega
    · have := idxN_lt nm r (i + 1)
      simp only [List.length_cons]
      omega
theorem picks_len (l : List S32) : ∀ (ns : List ByteArray) (out : List S32), picks l ns = some out → out.length = ns.length
  | [], out, h => by simp [picks] at h; subst h; rfl
  | n :: r, out, h => by
    rw [picks] at h
    split at h
    · cases h
    · cases hp : picks l r with
      | none => rw [hp] at h; cases h
      | some o => rw [hp] at h; simp at h; subst h; simp [picks_len l r o hp]
theorem ret_vi {v : Value} {F : List S32 × Int} {x : List S32} {y : Int} (h : F = (x, y)) : Ending.returned (.tuple #[v, .int .i64 y]) = Ending.returned (.tuple #[v, .int .i64 F.2]) := by rw [h]
set_option maxRecDepth 100000 in
set_option maxHeartbeats 4000000 in
theorem Narrow_calls (A : Option Addr) (c : Nat) (l : List S32) (A' : Option Addr) (c' : Nat) (names : List ByteArray) (w : World) (hl : l.length ≤ 20) (hn : names.length ≤ 20) (hr : Kd.C k32 w A l.length l) (hs : Kd.C Kd.string w A' names.length names) :
    Calls Tryd.prog 31 #[.slice A l.length c, .slice A' names.length c'] w fun e w' => ∃ v, e = .returned (.tuple #[v, .int .i64 (narF l names).2]) ∧ OItm w' w.heap.size v (narF l names).1 ∧ Below w.heap.size w w' := by
  have HR := Aside0.mk hr
  have HS := Aside0.mk hs
  have hmy := (C_len hs).2
  cases hv : validF l with
  | false =>
    have HC := Aside0.mk (items_is hv hl A c w hr)
    have HF : Aside0 (narF l names = ([], 1)) := ⟨by unfold narF; rw [hv]; rfl⟩
    clear hv hr hs
    go_enter Tryd.func31, Tryd.ntmps31
    go_wp2_with (go_at_call 20; go_must (refine HC.out.mono ?_; rintro e w2 ⟨rfl, hd⟩))
    go_ret2
    exact ⟨_, ret_vi HF.out, by rw [HF.out]; exact Kd.R_nil _ _ _ _ _, hd⟩
  | true =>
    have HC := Aside0.mk (items_is hv hl A c w hr)
    have HV := Aside0.mk hv
    have HP := fun W h nm => Aside0.mk (place_calls A c l nm W (Kd.C_below HR.out h))
    clear hv hr hs
    go_enter Tryd.func31, Tryd.ntmps31
    go_wp2_with (go_at_call 20; go_must (refine HC.out.mono ?_; rintro e w2 ⟨rfl, hd⟩))
    go_loopg [6, 15] names.length (fun g v6 v15 wr => ∃ (i : Nat) (acc : List S32), g = names.length - i ∧ i ≤ names.length ∧ v15 = .int .i64 i ∧ Aside0 (picks l names = (picks l (names.drop i)).map (acc ++ ·) ∧ acc.length = i) ∧ Aside0 (OItm wr w.heap.size v6 acc) ∧ Below w.heap.size w wr)
    case atStart => exact ⟨0, [], rfl, Nat.zero_le _, rfl, ⟨by simp, rfl⟩, ⟨Kd.R_nil _ _ _ _ _⟩, hd⟩
    case round =>
      clear hd
      obtain ⟨i, acc, hg, hi, rfl, HT, HO, hbel⟩ := hrel
      have HG := Aside0.mk hg
      clear hg
      by_cases hlt : i < names.length
      · obtain ⟨ad, nm, hA, hdx, k0⟩ := C_str HS.out i hlt
        subst hA
        replace k0 := pw_cell_below hbel k0
        have HD := Aside0.mk hdx
        have HPN := HP wr hbel nm
        clear hdx
        have hqlt := idxN_lt nm.data.toList l 0
        obtain ⟨q, hq⟩ : ∃ q, idxN nm.data.toList 0 l = q := ⟨_, rfl⟩
        rw [hq] at HPN hqlt
        have HQ := Aside0.mk hq
        clear hq
        by_cases hneg : q < 0
        · have HF : Aside0 (narF l names = ([], 5)) := ⟨by
            unfold narF
            rw [HV.out, HT.out.1, HD.out, picks, HQ.out, if_pos hneg]; rfl⟩
          go_wp2_with (go_at_call 71; go_must (refine HPN.out.mono ?_; rintro e w3 ⟨rfl, hd3⟩))
          go_ret2
          exact ⟨_, ret_vi HF.out, by rw [HF.out]; exact Kd.R_nil _ _ _ _ _, below_then hbel hd3⟩
        · obtain ⟨m, rfl⟩ : ∃ m : Nat, q = m := ⟨q.toNat, by omega⟩
          have hml : m < l.length := by omega
          obtain ⟨ad2, x, hA2, hdx2, c0, c1, c2, c3, c4⟩ := C_item HR.out m hml
          subst hA2
          have hxd : l.getD m z32 = x := by
            rw [List.drop_eq_getElem_cons hml] at hdx2
            injection hdx2 with h1 _
            rw [List.getD_eq_getElem?_getD, List.getElem?_eq_getElem hml, ← h1]; rfl
          have HT2 : Aside0 (picks l names = (picks l (names.drop (i + 1))).map ((acc ++ [x]) ++ ·) ∧ (acc ++ [x]).length = i + 1) := ⟨by
            refine ⟨?_, by rw [List.length_append, HT.out.2]; rfl⟩
            rw [HT.out.1, HD.out, picks, HQ.out, if_neg hneg, show ((m : Int)).toNat = m from rfl, hxd, Option.map_map]
            congr 1
            funext o
            simp⟩
          have hacc : acc.length ≤ 20 := by have := HT.out.2; omega
          have HAC := Aside0.mk hacc
          clear hdx2 hxd hacc hqlt
          go_wp2_with (first | (go_at_call 71; go_must (refine HPN.out.mono ?_; rintro e w3 ⟨rfl, hd3⟩; have hb3 := below_then hbel hd3; have c0' := pw_cell_below hb3 c0; have c1' := pw_cell_below hb3 c1; have c2' := pw_cell_below hb3 c2; have c3' := pw_cell_below hb3 c3; have c4' := pw_cell_below hb3 c4; have HO3 := Aside0.mk (Kd.R_below HO.out hd3))) | ((with_reducible refine at_b (b := .append) (xs := #[.tmp 24, .tmp 29]) rfl ?_); go_must (refine Kd.R_append k32 (w0 := w) (W := w3) w.heap.size rfl (.tmp 24) (.tmp 29) 22 32 (.agg #[(.string ⟨#[]⟩), (.int .i64 0), (.int .i64 0), (.int .i64 0), (.int .i64 0)]) 48 rfl Tryd.underlying22 info32 rfl (by decide) (by omega) u6 acc x [.string x.f0, .int .i64 x.f1, .int .i64 x.f2, .int .i64 x.f3, .int .i64 x.f4] Tr (fun _ => False) rfl rfl (k32_mkM _ _ _ x) (fun _ h => h.elim) (fun _ _ => trivial) HO3.out hb3 hb3.size ?bL ?_; (case bL => have := HAC.out; omega); intro v5 w5 ho5 hb5 hg5 hat5; have HO5 := Aside0.mk ho5; clear ho5 hg5 hat5)))
          go_roundg (names.length - (i + 1))
          case measure => have := HG.out; omega
          case rel => exact ⟨i + 1, acc ++ [x], rfl, by omega, by go_num, HT2, HO5, hb5⟩
      · obtain ⟨A9, c9, e9, _, hC9⟩ := Kd.R_reads HO.out
        subst e9
        have hpk : picks l names = some acc := by
          rw [HT.out.1, List.drop_eq_nil_of_le (by omega)]
          simp [picks]
        have hal : acc.length ≤ 20 := by have := HT.out.2; omega
        by_cases hnil : acc.length = 0
        · have hz : acc = [] := List.eq_nil_of_length_eq_zero hnil
          have HF : Aside0 (narF l names = ([], 11)) := ⟨by unfold narF; rw [HV.out, hpk]; simp [hz]⟩
          have hz2 : ((acc.length : Int) == 0) = true := by rw [hnil]; rfl
          have hz3 : ¬ 0 < acc.length := by omega
          clear hz hpk
          go_wp2
          go_ret2
          exact ⟨_, ret_vi HF.out, by rw [HF.out]; exact Kd.R_nil _ _ _ _ _, hbel⟩
        · have hz3 : 0 < acc.length := by omega
          have hz2 : ((acc.length : Int) == 0) = false := by simpa using fun h => hnil (by rw [h]; rfl)
          have hne : ¬ acc = [] := fun h => hnil (by rw [h]; rfl)
          cases hva : validF acc with
          | true =>
            have HCA := Aside0.mk (items_is hva hal A9 c9 wr hC9)
            have HF : Aside0 (narF l names = (acc, 0)) := ⟨by unfold narF; rw [HV.out, hpk]; simp [hne, hva]⟩
            clear hva hpk hne
            go_wp2_with (go_at_call 20; go_must (refine HCA.out.mono ?_; rintro e w3 ⟨rfl, hd3⟩))
            go_ret2
            exact ⟨_, ret_vi HF.out, by rw [HF.out]; exact Kd.R_below HO.out hd3, below_then hbel hd3⟩
          | false =>
            have HCA := Aside0.mk (items_is hva hal A9 c9 wr hC9)
            have HF : Aside0 (narF l names = ([], 6)) := ⟨by unfold narF; rw [HV.out, hpk]; simp [hne, hva]⟩
            clear hva hpk hne
            go_wp2_with (go_at_call 20; go_must (refine HCA.out.mono ?_; rintro e w3 ⟨rfl, hd3⟩))
            go_ret2
            exact ⟨_, ret_vi HF.out, by rw [HF.out]; exact Kd.R_nil _ _ _ _ _, below_then hbel hd3⟩
end Go.Proofs.YtibgjfeifpanhaaDoor.B

set_option linter.unusedVariables false
set_option linter.unusedSimpArgs false
namespace Go.Proofs.YtibgjfeifpanhaaDoor.B
open Go.RowKit Go.Proofs.YtibgjfeifpanhaaDoorW.PrintWords Go.Maps PItemValid

abbrev OVal (w : World) (base : Nat) (v : Value) (xs : List S29) : Prop := Kd.R k29 29 w base Tr v xs
/-- The values of names, in their order; none if one is unknown. -/
def picksV (l : List S32) (r : List S29) : List ByteArray → Option (List S29)
  | [] => some []
  | n :: ns => if idxN n.data.toList 0 l < 0 then none else (picksV l r ns).map (r.getD (idxN n.data.toList 0 l).toNat z29 :: ·)
def pickF (l : List S32) (r : List S29) (names : List ByteArray) : List S29 × Int :=
  if fitsF l r = true then (match picksV l r names with
    | none => ([], 5)
    | some out => if 8 < out.length then ([], 4) else (out, 0)) else ([], 1)
theorem ret_vv {v : Value} {F : List S29 × Int} {x : List S29} {y : Int} (h : F = (x, y)) : Ending.returned (.tuple #[v, .int .i64 y]) = Ending.returned (.tuple #[v, .int .i64 F.2]) := by rw [h]
set_option maxRecDepth 100000 in
set_option maxHeartbeats 4000000 in
theorem Pick_calls (A : Option Addr) (c : Nat) (l : List S32) (A1 : Option Addr) (c1 : Nat) (r : List S29) (A' : Option Addr) (c' : Nat) (names : List ByteArray) (w : World) (hl : l.length ≤ 20) (hn : names.length ≤ 20) (hr : Kd.C k32 w A l.length l) (h1 : Kd.C k29 w A1 r.length r) (hs : Kd.C Kd.string w A' names.length names) :
    Calls Tryd.prog 34 #[.slice A l.length c, .slice A1 r.length c1, .slice A' names.length c'] w fun e w' => ∃ v, e = .returned (.tuple #[v, .int .i64 (pickF l r names).2]) ∧ OVal w' w.heap.size v (pickF l r names).1 ∧ Below w.heap.size w w' := by
  have HR := Aside0.mk hr
  have H1 := Aside0.mk h1
  have HS := Aside0.mk hs
  have hmy := (C_len hs).2
  cases hv : fitsF l r with
  | false =>
    have HC := Aside0.mk (Fits_is hv hl A c A1 c1 w hr h1)
    have HF : Aside0 (pickF l r names = ([], 1)) := ⟨by unfold pickF; rw [hv]; rfl⟩
    clear hv hr h1 hs
    go_enter Tryd.func34, Tryd.ntmps34
    go_wp2_with (go_at_call 22; go_must (refine HC.out.mono ?_; rintro e w2 ⟨rfl, hd⟩))
    go_ret2
    exact ⟨_, ret_vv HF.out, by rw [HF.out]; exact Kd.R_nil _ _ _ _ _, hd⟩
  | true =>
    have HC := Aside0.mk (Fits_is hv hl A c A1 c1 w hr h1)
    have HV := Aside0.mk hv
    have hlr : l.length = r.length := by
      unfold fitsF eqF at hv
      simp only [Bool.and_eq_true, decide_eq_true_eq] at hv
      exact hv.2.1
    have HLR := Aside0.mk hlr
    have HP := fun W h nm => Aside0.mk (place_calls A c l nm W (Kd.C_below HR.out h))
    clear hv hr h1 hs hlr
    go_enter Tryd.func34, Tryd.ntmps34
    go_wp2_with (go_at_call 22; go_must (refine HC.out.mono ?_; rintro e w2 ⟨rfl, hd⟩))
    go_loopg [8, 18] names.length (fun g v8 v18 wr => ∃ (i : Nat) (acc : List S29), g = names.length - i ∧ i ≤ names.length ∧ v18 = .int .i64 i ∧ Aside0 (picksV l r names = (picksV l r (names.drop i)).map (acc ++ ·) ∧ acc.length = i) ∧ Aside0 (OVal wr w.heap.size v8 acc) ∧ Below w.heap.size w wr)
    case atStart => exact ⟨0, [], rfl, Nat.zero_le _, rfl, ⟨by simp, rfl⟩, ⟨Kd.R_nil _ _ _ _ _⟩, hd⟩
    case round =>
      clear hd
      obtain ⟨i, acc, hg, hi, rfl, HT, HO, hbel⟩ := hrel
      have HG := Aside0.mk hg
      clear hg
      by_cases hlt : i < names.length
      · obtain ⟨ad, nm, hA, hdx, k0⟩ := C_str HS.out i hlt
        subst hA
        replace k0 := pw_cell_below hbel k0
        have HD := Aside0.mk hdx
        have HPN := HP wr hbel nm
        clear hdx
        have hqlt := idxN_lt nm.data.toList l 0
        obtain ⟨q, hq⟩ : ∃ q, idxN nm.data.toList 0 l = q := ⟨_, rfl⟩
        rw [hq] at HPN hqlt
        have HQ := Aside0.mk hq
        clear hq
        by_cases hneg : q < 0
        · have HF : Aside0 (pickF l r names = ([], 5)) := ⟨by
            unfold pickF
            rw [HV.out, HT.out.1, HD.out, picksV, HQ.out, if_pos hneg]; rfl⟩
          go_wp2_with (go_at_call 71; go_must (refine HPN.out.mono ?_; rintro e w3 ⟨rfl, hd3⟩))
          go_ret2
          exact ⟨_, ret_vv HF.out, by rw [HF.out]; exact Kd.R_nil _ _ _ _ _, below_then hbel hd3⟩
        · obtain ⟨m, rfl⟩ : ∃ m : Nat, q = m := ⟨q.toNat, by omega⟩
          have hml : m < r.length := by have := HLR.out; omega
          obtain ⟨ad2, x, hA2, hdx2, c0, c1', c2⟩ := C_val H1.out m hml
          subst hA2
          have hxd : r.getD m z29 = x := by
            rw [List.drop_eq_getElem_cons hml] at hdx2
            injection hdx2 with h1 _
            rw [List.getD_eq_getElem?_getD, List.getElem?_eq_getElem hml, ← h1]; rfl
          have HT2 : Aside0 (picksV l r names = (picksV l r (names.drop (i + 1))).map ((acc ++ [x]) ++ ·) ∧ (acc ++ [x]).length = i + 1) := ⟨by
            refine ⟨?_, by rw [List.length_append, HT.out.2]; rfl⟩
            rw [HT.out.1, HD.out, picksV, HQ.out, if_neg hneg, show ((m : Int)).toNat = m from rfl, hxd, Option.map_map]
            congr 1
            funext o
            simp⟩
          have hacc : acc.length ≤ 20 := by have := HT.out.2; omega
          have HAC := Aside0.mk hacc
          clear hdx2 hxd hacc hqlt
          go_wp2_with (first | (go_at_call 71; go_must (refine HPN.out.mono ?_; rintro e w3 ⟨rfl, hd3⟩; have hb3 := below_then hbel hd3; have d0 := pw_cell_below hb3 c0; have d1 := pw_cell_below hb3 c1'; have d2 := pw_cell_below hb3 c2; have HO3 := Aside0.mk (Kd.R_below HO.out hd3))) | ((with_reducible refine at_b (b := .append) (xs := #[.tmp 27, .tmp 32]) rfl ?_); go_must (refine Kd.R_append k29 (w0 := w) (W := w3) w.heap.size rfl (.tmp 27) (.tmp 32) 23 29 (.agg #[(.int .i64 0), (.int .i64 0), (.string ⟨#[]⟩)]) 32 rfl Tryd.underlying23 info29 rfl (by decide) (by omega) u8 acc x [.int .i64 x.f0, .int .i64 x.f1, .string x.f2] Tr (fun _ => False) rfl rfl (k29_mkM _ _ _ x) (fun _ h => h.elim) (fun _ _ => trivial) HO3.out hb3 hb3.size ?bL ?_; (case bL => have := HAC.out; omega); intro v5 w5 ho5 hb5 hg5 hat5; have HO5 := Aside0.mk ho5; clear ho5 hg5 hat5)))
          go_roundg (names.length - (i + 1))
          case measure => have := HG.out; omega
          case rel => exact ⟨i + 1, acc ++ [x], rfl, by omega, by go_num, HT2, HO5, hb5⟩
      · obtain ⟨A9, c9, e9, _, hC9⟩ := Kd.R_reads HO.out
        subst e9
        have hpk : picksV l r names = some acc := by
          rw [HT.out.1, List.drop_eq_nil_of_le (by omega)]
          simp [picksV]
        by_cases h8 : 8 < acc.length
        · have HF : Aside0 (pickF l r names = ([], 4)) := ⟨by unfold pickF; rw [HV.out, hpk]; simp [h8]⟩
          have h82 : (8 : Int) < (acc.length : Int) := by omega
          clear hpk
          go_wp2
          go_ret2
          exact ⟨_, ret_vv HF.out, by rw [HF.out]; exact Kd.R_nil _ _ _ _ _, hbel⟩
        · have HF : Aside0 (pickF l r names = (acc, 0)) := ⟨by unfold pickF; rw [HV.out, hpk]; simp [h8]⟩
          have h82 : ¬ (8 : Int) < (acc.length : Int) := by omega
          clear hpk
          go_wp2
          go_ret2
          exact ⟨_, ret_vv HF.out, by rw [HF.out]; exact HO.out, hbel⟩
end Go.Proofs.YtibgjfeifpanhaaDoor.B

namespace Go.Proofs.YtibgjfeifpanhaaDoor.PItemValid
open Go.RowKit Go.Proofs.YtibgjfeifpanhaaDoorW.PrintWords Go.Proofs.YtibgjfeifpanhaaDoorW.PrintLast Go.Proofs.YtibgjfeifpanhaaDoorW.PrintMore
attribute [local go_sem] max2_int min2_int max_two min_two max_three min_three max_four min_four   -- for this text's walks alone
attribute [local go_sem high] eqA32
set_option linter.unusedVariables false
set_option linter.unusedSimpArgs false

/-! ### ringworklaw01_Names: function 30 -/
mutual
def ringworklaw01_Names.l0 : Nat → List ByteArray → Int → Option (Bool)
  | 0, _, _ => none
  | k + 1, x0, x3 => if x3 < (x0.length : Int) then (ringworklaw01_Names.j1 k x0 x3 (decide (x3 < 20))) else (ringworklaw01_Names.j1 k x0 x3 false)
def ringworklaw01_Names.j1 : Nat → List ByteArray → Int → Bool → Option (Bool)
  | 0, _, _, _ => none
  | k + 1, x0, x3, x11 => if x11 = true then (if 0 ≤ x3 then (if x3 < (x0.length : Int) then (if ((rdOf ByteArray.empty x0 x3).size : Int) > 100 then (some false) else (ringworklaw01_Names.l0 k x0 (wrap64 (x3 + 1)))) else (none)) else (none)) else (some (decide ((x0.length : Int) ≤ 20)))
end
def ringworklaw01_Names.f (k : Nat) (l0 : List ByteArray) : Option (Bool) := ringworklaw01_Names.l0 k l0 0
theorem ringworklaw01_Names.mono_l : ∀ k, (∀ y0 y1, LeO (ringworklaw01_Names.l0 k y0 y1) (ringworklaw01_Names.l0 (k + 1) y0 y1)) ∧ (∀ y0 y1 y2, LeO (ringworklaw01_Names.j1 k y0 y1 y2) (ringworklaw01_Names.j1 (k + 1) y0 y1 y2))
  | 0 => ⟨fun _ _ r h => by simp [ringworklaw01_Names.l0] at h, fun _ _ _ r h => by simp [ringworklaw01_Names.j1] at h⟩
  | k + 1 => by
    obtain ⟨ih0, ih1⟩ := ringworklaw01_Names.mono_l k
    refine ⟨?_, ?_⟩
    · intro y0 y1
      unfold ringworklaw01_Names.l0
      repeat' first
      | (with_reducible exact ih0 _ _)
      | (with_reducible exact ih1 _ _ _)
      | (with_reducible exact LeO.refl _)
      | (with_reducible exact LeO.none _)
      | (with_reducible refine LeO.ite ?_ ?_)
      | (with_reducible refine LeO.bind ?_ (fun _ => ?_))
      | exact ih0 _ _
      | exact ih1 _ _ _
      | exact LeO.none _
      | refine LeO.ite ?_ ?_
      | refine LeO.bind ?_ (fun _ => ?_)
    · intro y0 y1 y2
      unfold ringworklaw01_Names.j1
      repeat' first
      | (with_reducible exact ih0 _ _)
      | (with_reducible exact ih1 _ _ _)
      | (with_reducible exact LeO.refl _)
      | (with_reducible exact LeO.none _)
      | (with_reducible refine LeO.ite ?_ ?_)
      | (with_reducible refine LeO.bind ?_ (fun _ => ?_))
      | exact ih0 _ _
      | exact ih1 _ _ _
      | exact LeO.none _
      | refine LeO.ite ?_ ?_
      | refine LeO.bind ?_ (fun _ => ?_)
theorem ringworklaw01_Names.mono : ∀ a0 k, LeO (ringworklaw01_Names.f k a0) (ringworklaw01_Names.f (k + 1) a0) := by
  intro a0 k
  obtain ⟨ih0, ih1⟩ := ringworklaw01_Names.mono_l k
  unfold ringworklaw01_Names.f
  repeat' first
      | (with_reducible exact ih0 _ _)
      | (with_reducible exact ih1 _ _ _)
      | (with_reducible exact LeO.refl _)
      | (with_reducible exact LeO.none _)
      | (with_reducible refine LeO.ite ?_ ?_)
      | (with_reducible refine LeO.bind ?_ (fun _ => ?_))
      | exact ih0 _ _
      | exact ih1 _ _ _
      | exact LeO.none _
      | refine LeO.ite ?_ ?_
      | refine LeO.bind ?_ (fun _ => ?_)
set_option maxHeartbeats 8000000 in
set_option maxRecDepth 100000 in
theorem ringworklaw01_Names.calls (k : Nat) (A0 : Option Addr) (c0 : Nat) (l0 : List ByteArray) (r : Bool) (w : World) (hr0 : Kd.C Kd.string w A0 l0.length l0) (hc0 : l0.length ≤ c0) (h : ringworklaw01_Names.f k l0 = some r) :
    Calls Tryd.prog 30 #[.slice A0 l0.length c0] w fun e w' => e = .returned (.bool r) ∧ Drawn0 w w' := by
  have HR0 := Aside0.mk hr0
  have HC0 := Aside0.mk hc0
  clear hr0 hc0
  have H : (ringworklaw01_Names.l0 k l0 0) = some r := h
  clear h
  have H' := Aside0.mk H
  clear H
  go_enter Tryd.func30, Tryd.ntmps30
  go_wp2
  go_loopg [3] k (fun kq v3 w' => ∃ (x3_1 : Int), v3 = .int .i64 x3_1 ∧ Aside0 (ringworklaw01_Names.l0 kq l0 x3_1 = some r) ∧ Aside0 (kq ≤ k) ∧ Drawn0 w w')
  case atStart => exact ⟨(0), (by first | rfl | (simp; done) | (simp [*]; done)), H', ⟨Nat.le_refl _⟩, by repeat (first | exact Drawn0.refl _ | apply Drawn0.step)⟩
  case round =>
    clear H'
    obtain ⟨x3_1, rfl, HA, HK1, ⟨m1, rfl⟩⟩ := hrel
    cases gk with
    | zero => exact absurd HA.out (by simp [ringworklaw01_Names.l0])
    | succ k1 =>
      have H := HA.out
      clear HA
      simp only [ringworklaw01_Names.l0] at H
      have HC2 := Aside0.mk H
      clear H
      go_upto_region 2 with (fail)
      go_cut [11] (fun v11 wc => ∃ (kq : Nat) (x11_1 : Bool), v11 = .bool x11_1 ∧ Aside0 (ringworklaw01_Names.j1 kq l0 x3_1 x11_1 = some r) ∧ Aside0 (kq ≤ k1) ∧ Drawn0 w wc)
      case first =>
        have H := HC2.out
        clear HC2
        by_cases c3 : x3_1 < (l0.length : Int)
        · rw [if_pos c3] at H
          have c3b0 : decide (x3_1 < (l0.length : Int)) = true := decide_eq_true c3
          clear c3
          (first | rw [c3b0] | (simp only [i64_w, i32_w]; rw [c3b0]) | skip)
          have H' := Aside0.mk H
          clear H
          go_wp2
          go_meet
          case rel => exact ⟨_, (decide (x3_1 < 20)), (by first | rfl | (simp; done) | (simp [*]; done)), H', ⟨by have := HK1.out; first | omega | exact Nat.le_refl _⟩, by repeat (first | exact Drawn0.refl _ | apply Drawn0.step)⟩
        · rw [if_neg c3] at H
          have c3b0 : decide (x3_1 < (l0.length : Int)) = false := decide_eq_false c3
          clear c3
          (first | rw [c3b0] | (simp only [i64_w, i32_w]; rw [c3b0]) | skip)
          have H' := Aside0.mk H
          clear H
          go_wp2
          go_meet
          case rel => exact ⟨_, (false), (by first | rfl | (simp; done) | (simp [*]; done)), H', ⟨by have := HK1.out; first | omega | exact Nat.le_refl _⟩, by repeat (first | exact Drawn0.refl _ | apply Drawn0.step)⟩
      case rest =>
        clear HC2
        try clear p2
        try clear c3
        try clear c3b0
        obtain ⟨kq, x11_1, rfl, HA, HJ1, ⟨mc1, rfl⟩⟩ := hcut
        cases kq with
        | zero => exact absurd HA.out (by simp [ringworklaw01_Names.j1])
        | succ kj1 =>
          have H := HA.out
          clear HA
          simp only [ringworklaw01_Names.j1] at H
          by_cases c4 : x11_1 = true
          · subst c4
            have H1 : (if 0 ≤ x3_1 then (if x3_1 < (l0.length : Int) then (if ((rdOf ByteArray.empty l0 x3_1).size : Int) > 100 then (some false) else (ringworklaw01_Names.l0 kj1 l0 (wrap64 (x3_1 + 1)))) else (none)) else (none)) = some r := by rw [if_pos rfl] at H; exact H
            clear H
            have H := H1
            clear H1
            by_cases c5 : 0 ≤ x3_1
            · rw [if_pos c5] at H
              have c5b0 : decide (0 ≤ x3_1) = true := decide_eq_true c5
              clear c5
              by_cases c6 : x3_1 < (l0.length : Int)
              · rw [if_pos c6] at H
                have c6b0 : decide (x3_1 < (l0.length : Int)) = true := decide_eq_true c6
                clear c6
                by_cases c7 : ((rdOf ByteArray.empty l0 x3_1).size : Int) > 100
                · rw [if_pos c7] at H
                  have c7b0 : decide (100 < ((rdOf ByteArray.empty l0 x3_1).size : Int)) = true := decide_eq_true c7
                  have c7b1 : decide (100 < (rdOf ByteArray.empty l0 x3_1).size) = true := decide_eq_true (by omega)
                  clear c7
                  obtain rfl := Option.some.inj H
                  have p140 : 0 ≤ (x3_1 : Int) := of_decide_eq_true (by first | (with_reducible assumption) | assumption)
                  have q140 : x3_1 < (l0.length : Int) := of_decide_eq_true (by first | (with_reducible assumption) | assumption)
                  obtain ⟨ad140, e140, hx140_0⟩ := Kd.at_string HR0.out x3_1 p140 q140
                  cases e140
                  replace p140 := eq_true p140
                  replace q140 := eq_true q140
                  go_wp2
                  go_ret
                  exact ⟨by first | rfl | (simp; done) | (simp [*]; done), by repeat (first | exact Drawn0.refl _ | apply Drawn0.step)⟩
                · rw [if_neg c7] at H
                  have c7b0 : decide (100 < ((rdOf ByteArray.empty l0 x3_1).size : Int)) = false := decide_eq_false c7
                  have c7b1 : decide (100 < (rdOf ByteArray.empty l0 x3_1).size) = false := decide_eq_false (by omega)
                  clear c7
                  have H' := Aside0.mk H
                  clear H
                  have p140 : 0 ≤ (x3_1 : Int) := of_decide_eq_true (by first | (with_reducible assumption) | assumption)
                  have q140 : x3_1 < (l0.length : Int) := of_decide_eq_true (by first | (with_reducible assumption) | assumption)
                  obtain ⟨ad140, e140, hx140_0⟩ := Kd.at_string HR0.out x3_1 p140 q140
                  cases e140
                  replace p140 := eq_true p140
                  replace q140 := eq_true q140
                  go_wp2
                  go_roundg kj1
                  case measure => have := HK1.out; have := HJ1.out; omega
                  case rel => exact ⟨(wrap64 (x3_1 + 1)), (by first | rfl | (simp; done) | (simp [*]; done)), H', ⟨by have := HK1.out; have := HJ1.out; omega⟩, by repeat (first | exact Drawn0.refl _ | apply Drawn0.step)⟩
              · rw [if_neg c6] at H
                exact absurd H (by simp)
            · rw [if_neg c5] at H
              exact absurd H (by simp)
          · replace c4 := Bool.eq_false_iff.mpr c4
            subst c4
            have H1 : (some (decide ((l0.length : Int) ≤ 20))) = some r := by rw [if_neg (show ¬ (false = true) by decide)] at H; exact H
            clear H
            have H := H1
            clear H1
            obtain rfl := Option.some.inj H
            go_wp2
            go_ret
            exact ⟨by first | rfl | (simp; done) | (simp [*]; done), by repeat (first | exact Drawn0.refl _ | apply Drawn0.step)⟩




/-! ### ringworkref01_Narrow: function 32 -/
mutual
def ringworkref01_Narrow.l0 : Nat → List (S32) → List ByteArray → List (S32) → Int → Option ((List (S32)) × Int)
  | 0, _, _, _, _ => none
  | k + 1, x0, x1, x6, x7 => if x7 < (x1.length : Int) then (if 0 ≤ x7 then ((ringworkref01_index.f k x0 (rdOf ByteArray.empty x1 x7)).bind fun t151 => (if t151 < 0 then (some (([] : List (S32)), 5)) else (if 0 ≤ t151 then (if t151 < (x0.length : Int) then (if x6.length < 2932031007402 then (ringworkref01_Narrow.l0 k x0 x1 (x6 ++ [(⟨(rd_T32 x0 t151).f0, (rd_T32 x0 t151).f1, (rd_T32 x0 t151).f2, (rd_T32 x0 t151).f3, (rd_T32 x0 t151).f4⟩ : S32)]) (wrap64 (x7 + 1))) else (none)) else (none)) else (none)))) else (none)) else (ringworkref01_Narrow.l1 k x6 0)
def ringworkref01_Narrow.l1 : Nat → List (S32) → Int → Option ((List (S32)) × Int)
  | 0, _, _ => none
  | k + 1, x6, x9 => if x9 < (x6.length : Int) then (if 0 ≤ x9 then ((ringworkref01_index.f k x6 ((rd_T32 x6 x9).f0)).bind fun t157 => (if t157 = x9 then (ringworkref01_Narrow.l1 k x6 (wrap64 (x9 + 1))) else (some (([] : List (S32)), 6)))) else (none)) else (if (x6.length : Int) = 0 then (some (([] : List (S32)), 11)) else (some (x6, 0)))
end
def ringworkref01_Narrow.f (k : Nat) (l0 : List (S32)) (l1 : List ByteArray) : Option ((List (S32)) × Int) := (ringworkref01_ValidItems.f k l0).bind fun t149 => (if t149 = true then (ringworkref01_Narrow.l0 k l0 l1 ([] : List (S32)) 0) else (some (([] : List (S32)), 1)))
theorem ringworkref01_Narrow.mono_l : ∀ k, (∀ y0 y1 y2 y3, LeO (ringworkref01_Narrow.l0 k y0 y1 y2 y3) (ringworkref01_Narrow.l0 (k + 1) y0 y1 y2 y3)) ∧ (∀ y0 y1, LeO (ringworkref01_Narrow.l1 k y0 y1) (ringworkref01_Narrow.l1 (k + 1) y0 y1))
  | 0 => ⟨fun _ _ _ _ r h => by simp [ringworkref01_Narrow.l0] at h, fun _ _ r h => by simp [ringworkref01_Narrow.l1] at h⟩
  | k + 1 => by
    obtain ⟨ih0, ih1⟩ := ringworkref01_Narrow.mono_l k
    refine ⟨?_, ?_⟩
    · intro y0 y1 y2 y3
      unfold ringworkref01_Narrow.l0
      repeat' first
      | (with_reducible exact ih0 _ _ _ _)
      | (with_reducible exact ih1 _ _)
      | (with_reducible exact ringworkref01_ValidItems.mono _ _)
      | (with_reducible exact ringworkref01_index.mono _ _ _)
      | (with_reducible exact LeO.refl _)
      | (with_reducible exact LeO.none _)
      | (with_reducible refine LeO.ite ?_ ?_)
      | (with_reducible refine LeO.bind ?_ (fun _ => ?_))
      | exact ih0 _ _ _ _
      | exact ih1 _ _
      | exact ringworkref01_ValidItems.mono _ _
      | exact ringworkref01_index.mono _ _ _
      | exact LeO.none _
      | refine LeO.ite ?_ ?_
      | refine LeO.bind ?_ (fun _ => ?_)
    · intro y0 y1
      unfold ringworkref01_Narrow.l1
      repeat' first
      | (with_reducible exact ih0 _ _ _ _)
      | (with_reducible exact ih1 _ _)
      | (with_reducible exact ringworkref01_ValidItems.mono _ _)
      | (with_reducible exact ringworkref01_index.mono _ _ _)
      | (with_reducible exact LeO.refl _)
      | (with_reducible exact LeO.none _)
      | (with_reducible refine LeO.ite ?_ ?_)
      | (with_reducible refine LeO.bind ?_ (fun _ => ?_))
      | exact ih0 _ _ _ _
      | exact ih1 _ _
      | exact ringworkref01_ValidItems.mono _ _
      | exact ringworkref01_index.mono _ _ _
      | exact LeO.none _
      | refine LeO.ite ?_ ?_
      | refine LeO.bind ?_ (fun _ => ?_)
theorem ringworkref01_Narrow.mono : ∀ a0 a1 k, LeO (ringworkref01_Narrow.f k a0 a1) (ringworkref01_Narrow.f (k + 1) a0 a1) := by
  intro a0 a1 k
  obtain ⟨ih0, ih1⟩ := ringworkref01_Narrow.mono_l k
  unfold ringworkref01_Narrow.f
  repeat' first
      | (with_reducible exact ih0 _ _ _ _)
      | (with_reducible exact ih1 _ _)
      | (with_reducible exact ringworkref01_ValidItems.mono _ _)
      | (with_reducible exact ringworkref01_index.mono _ _ _)
      | (with_reducible exact LeO.refl _)
      | (with_reducible exact LeO.none _)
      | (with_reducible refine LeO.ite ?_ ?_)
      | (with_reducible refine LeO.bind ?_ (fun _ => ?_))
      | exact ih0 _ _ _ _
      | exact ih1 _ _
      | exact ringworkref01_ValidItems.mono _ _
      | exact ringworkref01_index.mono _ _ _
      | exact LeO.none _
      | refine LeO.ite ?_ ?_
      | refine LeO.bind ?_ (fun _ => ?_)
set_option maxHeartbeats 8000000 in
set_option maxRecDepth 100000 in
theorem ringworkref01_Narrow.calls (k : Nat) (A0 : Option Addr) (c0 : Nat) (l0 : List (S32)) (A1 : Option Addr) (c1 : Nat) (l1 : List ByteArray) (r1 : List (S32)) (r2 : Int) (w : World) (hr0 : Kd.C k32 w A0 l0.length l0) (hc0 : l0.length ≤ c0) (hr1 : Kd.C Kd.string w A1 l1.length l1) (hc1 : l1.length ≤ c1) (h : ringworkref01_Narrow.f k l0 l1 = some (r1, r2)) :
    Calls Tryd.prog 32 #[.slice A0 l0.length c0, .slice A1 l1.length c1] w fun e w' => ∃ v0_ : Value, e = .returned (.tuple #[v0_, .int .i64 r2]) ∧ Kd.R k32 32 w' w.heap.size (fun _ => True) v0_ r1 ∧ Below w.heap.size w w' := by
  have hu32 := Tryd.underlying32
  have HR0 := Aside0.mk hr0
  have HC0 := Aside0.mk hc0
  clear hr0 hc0
  have HR1 := Aside0.mk hr1
  have HC1 := Aside0.mk hc1
  clear hr1 hc1
  have HB := Aside0.mk (Below.refl w.heap.size w)
  have H : ((ringworkref01_ValidItems.f k l0).bind fun t149 => (if t149 = true then (ringworkref01_Narrow.l0 k l0 l1 ([] : List (S32)) 0) else (some (([] : List (S32)), 1)))) = some (r1, r2) := h
  clear h
  replace H := Option.bind_eq_some_iff.mp H
  obtain ⟨t149, A30, H⟩ := H
  replace H : (if t149 = true then (ringworkref01_Narrow.l0 k l0 l1 ([] : List (S32)) 0) else (some (([] : List (S32)), 1))) = some (r1, r2) := H
  have A3 := Aside0.mk A30
  clear A30
  by_cases c4 : t149 = true
  · subst c4
    have H1 : (ringworkref01_Narrow.l0 k l0 l1 ([] : List (S32)) 0) = some (r1, r2) := by rw [if_pos rfl] at H; exact H
    clear H
    have H := H1
    clear H1
    have H' := Aside0.mk H
    clear H
    go_enter Tryd.func32, Tryd.ntmps32
    go_wp2_with (first | ((with_reducible refine gate_callee (f := 21) rfl ?_); refine goesL_ (some 11) rfl rfl Tryd.func21 (by kernel_rfl) rfl #[.slice A0 l0.length c0] rfl (by (try simp only [List.map_toArray, List.map_cons, List.map_nil]); first | done | rfl | (simp only [List.length_drop, List.length_take]; rfl)) ?_; (with_reducible refine (ringworkref01_ValidItems.calls k _ _ l0 true _ ?side1 ?side2 A3.out).mono ?_); (case side1 => repeat (first | exact HR0.out | (with_reducible refine Kd.C_alloc ?_ _) | (with_reducible refine Kd.C_drewN ?_ _) | (with_reducible refine Kd.C_drew ?_))); (case side2 => exact HC0.out); rintro e w5 ⟨rfl, hb⟩; refine ⟨_, rfl, ?_⟩; have n0_ := Aside0.mk (below_step (by repeat (first | (with_reducible first | exact HB.out | apply below_alloc | apply pw_below_drewN | apply below_drew1) | exact HB.out)) hb); clear HB; have HB := n0_; clear n0_; (try clear hb); (try clear hb2); (try clear hk); (try clear hi)))
    go_loopg [6, 7] k (fun kq v6 v7 w' => ∃ (x6_1 : List (S32)) (x7_1 : Int), v7 = .int .i64 x7_1 ∧ Aside0 (ringworkref01_Narrow.l0 kq l0 l1 x6_1 x7_1 = some (r1, r2)) ∧ Aside0 (kq ≤ k) ∧ Aside0 (Kd.R k32 32 w' w.heap.size (fun _ => True) v6 x6_1) ∧ Aside0 (Below w.heap.size w w'))
    case atStart => exact ⟨(([] : List (S32))), (0), (by first | rfl | (simp; done) | (simp [*]; done)), H', ⟨Nat.le_refl _⟩, ⟨by first | exact Kd.R_nil _ _ _ _ _ | exact Kd.N_nil _ _ _ _ _ | exact Kd.V_nil _ _ _ _ _ | exact Kd.Q_nil _ _ _ _ _ | exact Kd.S_nil _ _ _ _ _⟩, ⟨by repeat (first | (with_reducible first | exact HB.out | apply below_alloc | apply pw_below_drewN | apply below_drew1) | exact HB.out)⟩⟩
    case round =>
      clear H'
      try clear c1
      try clear c2
      try clear p2
      try clear c3
      try clear c4
      obtain ⟨x6_1, x7_1, rfl, HA, HK1, HO_6, HB⟩ := hrel
      cases gk with
      | zero => exact absurd HA.out (by simp [ringworkref01_Narrow.l0])
      | succ k1 =>
        have H := HA.out
        clear HA
        simp only [ringworkref01_Narrow.l0] at H
        by_cases c6 : x7_1 < (l1.length : Int)
        · rw [if_pos c6] at H
          have c6b0 : decide (x7_1 < (l1.length : Int)) = true := decide_eq_true c6
          clear c6
          by_cases c7 : 0 ≤ x7_1
          · rw [if_pos c7] at H
            have c7b0 : decide (0 ≤ x7_1) = true := decide_eq_true c7
            clear c7
            replace H := Option.bind_eq_some_iff.mp H
            obtain ⟨t151, A80, H⟩ := H
            replace H : (if t151 < 0 then (some (([] : List (S32)), 5)) else (if 0 ≤ t151 then (if t151 < (l0.length : Int) then (if x6_1.length < 2932031007402 then (ringworkref01_Narrow.l0 k1 l0 l1 (x6_1 ++ [(⟨(rd_T32 l0 t151).f0, (rd_T32 l0 t151).f1, (rd_T32 l0 t151).f2, (rd_T32 l0 t151).f3, (rd_T32 l0 t151).f4⟩ : S32)]) (wrap64 (x7_1 + 1))) else (none)) else (none)) else (none))) = some (r1, r2) := H
            have A8 := Aside0.mk A80
            clear A80
            by_cases c9 : t151 < 0
            · rw [if_pos c9] at H
              have c9b0 : decide (t151 < 0) = true := decide_eq_true c9
              clear c9
              simp only [Option.some.injEq, Prod.mk.injEq] at H
              obtain ⟨rfl, rfl⟩ := H
              have p150 : 0 ≤ (x7_1 : Int) := of_decide_eq_true (by first | (with_reducible assumption) | assumption)
              have q150 : x7_1 < (l1.length : Int) := of_decide_eq_true (by first | (with_reducible assumption) | assumption)
              obtain ⟨ad150, e150, hx150_0⟩ := Kd.at_string HR1.out x7_1 p150 q150
              cases e150
              replace hx150_0 := (HB.out.cell (World.block_lt_of_cell? w _ hx150_0)).trans hx150_0
              replace p150 := eq_true p150
              replace q150 := eq_true q150
              go_wp2_with (first | ((with_reducible refine gate_callee (f := 72) rfl ?_); refine goesL_ (some 24) rfl rfl Tryd.func72 (by kernel_rfl) rfl #[.slice A0 l0.length c0, .string (rdOf ByteArray.empty l1 x7_1)] rfl (by (try simp only [List.map_toArray, List.map_cons, List.map_nil]); first | done | rfl | (simp only [List.length_drop, List.length_take]; rfl)) ?_; (with_reducible refine (ringworkref01_index.calls k1 _ _ l0 (rdOf ByteArray.empty l1 x7_1) t151 _ ?side1 ?side2 A8.out).mono ?_); (case side1 => repeat (first | exact (Kd.C_below HR0.out HB.out) | (with_reducible refine Kd.C_alloc ?_ _) | (with_reducible refine Kd.C_drewN ?_ _) | (with_reducible refine Kd.C_drew ?_))); (case side2 => exact HC0.out); rintro e w' ⟨rfl, ⟨nd, rfl⟩⟩; refine ⟨_, rfl, ?_⟩))
              go_ret2
              exact ⟨_, by first | rfl | (simp [errW_none, errW_some] <;> rfl) | (simp [*, errW_none, errW_some] <;> rfl), by first | exact Kd.R_nil _ _ _ _ _ | exact Kd.N_nil _ _ _ _ _ | exact Kd.V_nil _ _ _ _ _ | exact Kd.Q_nil _ _ _ _ _ | exact Kd.S_nil _ _ _ _ _, by repeat (first | (with_reducible first | exact HB.out | apply below_alloc | apply pw_below_drewN | apply below_drew1) | exact HB.out)⟩
            · rw [if_neg c9] at H
              have c9b0 : decide (t151 < 0) = false := decide_eq_false c9
              clear c9
              by_cases c10 : 0 ≤ t151
              · rw [if_pos c10] at H
                have c10b0 : decide (0 ≤ t151) = true := decide_eq_true c10
                clear c10
                by_cases c11 : t151 < (l0.length : Int)
                · rw [if_pos c11] at H
                  have c11b0 : decide (t151 < (l0.length : Int)) = true := decide_eq_true c11
                  clear c11
                  by_cases c12 : x6_1.length < 2932031007402
                  · rw [if_pos c12] at H
                    have LMc12 := Aside0.mk c12
                    clear c12
                    obtain ⟨y153, hy153⟩ : ∃ y_ : List (S32), y_ = (x6_1 ++ [(⟨(rd_T32 l0 t151).f0, (rd_T32 l0 t151).f1, (rd_T32 l0 t151).f2, (rd_T32 l0 t151).f3, (rd_T32 l0 t151).f4⟩ : S32)]) := ⟨_, rfl⟩
                    replace H : (ringworkref01_Narrow.l0 k1 l0 l1 y153 (wrap64 (x7_1 + 1))) = some (r1, r2) := by first | (rw [hy153]; with_reducible exact H) | (have H2_ := (Option.bind_some _ _).symm.trans H; rw [hy153]; with_reducible exact H2_) | (have H2_ := (Option.bind_some _ _).symm.trans H; with_reducible exact H2_) | with_reducible exact H | (rw [hy153]; exact H) | exact H
                    have Ny153 := Aside0.mk hy153
                    clear hy153
                    have H' := Aside0.mk H
                    clear H
                    have p150 : 0 ≤ (x7_1 : Int) := of_decide_eq_true (by first | (with_reducible assumption) | assumption)
                    have q150 : x7_1 < (l1.length : Int) := of_decide_eq_true (by first | (with_reducible assumption) | assumption)
                    obtain ⟨ad150, e150, hx150_0⟩ := Kd.at_string HR1.out x7_1 p150 q150
                    cases e150
                    replace hx150_0 := (HB.out.cell (World.block_lt_of_cell? w _ hx150_0)).trans hx150_0
                    replace p150 := eq_true p150
                    replace q150 := eq_true q150
                    go_wp2_with (first | ((with_reducible refine gate_callee (f := 72) rfl ?_); refine goesL_ (some 24) rfl rfl Tryd.func72 (by kernel_rfl) rfl #[.slice A0 l0.length c0, .string (rdOf ByteArray.empty l1 x7_1)] rfl (by (try simp only [List.map_toArray, List.map_cons, List.map_nil]); first | done | rfl | (simp only [List.length_drop, List.length_take]; rfl)) ?_; (with_reducible refine (ringworkref01_index.calls k1 _ _ l0 (rdOf ByteArray.empty l1 x7_1) t151 _ ?side1 ?side2 A8.out).mono ?_); (case side1 => repeat (first | exact (Kd.C_below HR0.out HB.out) | (with_reducible refine Kd.C_alloc ?_ _) | (with_reducible refine Kd.C_drewN ?_ _) | (with_reducible refine Kd.C_drew ?_))); (case side2 => exact HC0.out); rintro e w' ⟨rfl, ⟨nd, rfl⟩⟩; refine ⟨_, rfl, ?_⟩; have p152 : 0 ≤ (t151 : Int) := of_decide_eq_true (by first | (with_reducible assumption) | assumption); have q152 : t151 < (l0.length : Int) := of_decide_eq_true (by first | (with_reducible assumption) | assumption); obtain ⟨ad152, e152, hx152_0, hx152_1, hx152_2, hx152_3, hx152_4⟩ := at_T32 HR0.out t151 p152 q152; cases e152; replace hx152_0 := (HB.out.cell (World.block_lt_of_cell? w _ hx152_0)).trans hx152_0; replace hx152_1 := (HB.out.cell (World.block_lt_of_cell? w _ hx152_1)).trans hx152_1; replace hx152_2 := (HB.out.cell (World.block_lt_of_cell? w _ hx152_2)).trans hx152_2; replace hx152_3 := (HB.out.cell (World.block_lt_of_cell? w _ hx152_3)).trans hx152_3; replace hx152_4 := (HB.out.cell (World.block_lt_of_cell? w _ hx152_4)).trans hx152_4; replace p152 := eq_true p152; replace q152 := eq_true q152) | ((with_reducible refine gate_builtin (b := .append) (xs := #[.tmp 27, .tmp 32]) rfl ?_); at_builtin; refine Kd.R_append k32 (w0 := w) w.heap.size rfl (.tmp 27) (.tmp 32) 22 32 (.agg #[(.string ⟨#[]⟩), (.int .i64 0), (.int .i64 0), (.int .i64 0), (.int .i64 0)]) 48 rfl Tryd.underlying22 info32 rfl (by decide) (by omega) u6 x6_1 (⟨(rd_T32 l0 t151).f0, (rd_T32 l0 t151).f1, (rd_T32 l0 t151).f2, (rd_T32 l0 t151).f3, (rd_T32 l0 t151).f4⟩ : S32) [.string ((rd_T32 l0 t151).f0), .int .i64 ((rd_T32 l0 t151).f1), .int .i64 ((rd_T32 l0 t151).f2), .int .i64 ((rd_T32 l0 t151).f3), .int .i64 ((rd_T32 l0 t151).f4)] (fun _ => True) (fun _ => False) rfl rfl ?aP (fun _ hk => hk.elim) ?aF ?aO ?aB ?aS ?aL ?_; (case aP => exact k32_mkM _ _ _ (⟨(rd_T32 l0 t151).f0, (rd_T32 l0 t151).f1, (rd_T32 l0 t151).f2, (rd_T32 l0 t151).f3, (rd_T32 l0 t151).f4⟩ : S32)); (case aB => exact (by repeat (first | (with_reducible first | exact HB.out | apply below_alloc | apply pw_below_drewN | apply below_drew1) | exact HB.out))); (case aF => exact (fun _ _ => trivial)); (case aO => exact (by (with_reducible repeat (first | apply Kd.R_alloc | apply Kd.R_drewN | apply Kd.R_drew)); exact HO_6.out)); (case aS => exact (below_size (by repeat (first | (with_reducible first | exact HB.out | apply below_alloc | apply pw_below_drewN | apply below_drew1) | exact HB.out)))); (case aL => have := LMc12.out; omega); intro v154 w13 ho hb hg hat; rw [← Ny153.out] at ho; have n0_ := Aside0.mk (hb); have n1_ := Aside0.mk (ho); clear HB; clear HO_6; have HB := n0_; have HO155 := n1_; clear n0_ n1_; clear ho hb hg hat))
                    go_roundg k1
                    case measure => have := HK1.out; omega
                    case rel => exact ⟨(y153), (wrap64 (x7_1 + 1)), (by first | rfl | (simp; done) | (simp [*]; done)), H', ⟨by have := HK1.out; omega⟩, ⟨by (with_reducible repeat (first | apply Kd.R_alloc | apply Kd.R_drewN | apply Kd.R_drew)); exact HO155.out⟩, ⟨by repeat (first | (with_reducible first | exact HB.out | apply below_alloc | apply pw_below_drewN | apply below_drew1) | exact HB.out)⟩⟩
                  · rw [if_neg c12] at H
                    exact absurd H (by simp)
                · rw [if_neg c11] at H
                  exact absurd H (by simp)
              · rw [if_neg c10] at H
                exact absurd H (by simp)
          · rw [if_neg c7] at H
            exact absurd H (by simp)
        · rw [if_neg c6] at H
          have c6b0 : decide (x7_1 < (l1.length : Int)) = false := decide_eq_false c6
          clear c6
          have H' := Aside0.mk H
          clear H
          go_wp2
          go_loopg [9] k1 (fun kq v9 w' => ∃ (x9_2 : Int), v9 = .int .i64 x9_2 ∧ Aside0 (ringworkref01_Narrow.l1 kq x6_1 x9_2 = some (r1, r2)) ∧ Aside0 (kq ≤ k1) ∧ Aside0 (Kd.R k32 32 w' w.heap.size (fun _ => True) u6 x6_1) ∧ Aside0 (Below w.heap.size w w'))
          case atStart => exact ⟨(0), (by first | rfl | (simp; done) | (simp [*]; done)), H', ⟨Nat.le_refl _⟩, ⟨by (with_reducible repeat (first | apply Kd.R_alloc | apply Kd.R_drewN | apply Kd.R_drew)); exact HO_6.out⟩, ⟨by repeat (first | (with_reducible first | exact HB.out | apply below_alloc | apply pw_below_drewN | apply below_drew1) | exact HB.out)⟩⟩
          case round =>
            clear H'
            try clear c1
            try clear p1
            try clear q1
            try clear hx1
            try clear c2
            try clear p2
            try clear c3
            try clear c4
            try clear c6
            try clear c6b0
            try clear p6
            try clear c7
            try clear c7b0
            try clear c9
            try clear c9b0
            try clear c10
            try clear c10b0
            try clear c11
            try clear c11b0
            try clear c12
            try clear hx150_0
            try clear hx152_0
            try clear hx152_1
            try clear hx152_2
            try clear hx152_3
            try clear hx152_4
            try clear p150
            try clear p152
            try clear p2
            try clear q150
            try clear q152
            obtain ⟨x9_2, rfl, HA, HK2, HO_6, HB⟩ := hrel
            cases gk with
            | zero => exact absurd HA.out (by simp [ringworkref01_Narrow.l1])
            | succ k2 =>
              have H := HA.out
              clear HA
              simp only [ringworkref01_Narrow.l1] at H
              by_cases c14 : x9_2 < (x6_1.length : Int)
              · rw [if_pos c14] at H
                have c14b0 : decide (x9_2 < (x6_1.length : Int)) = true := decide_eq_true c14
                clear c14
                by_cases c15 : 0 ≤ x9_2
                · rw [if_pos c15] at H
                  have c15b0 : decide (0 ≤ x9_2) = true := decide_eq_true c15
                  clear c15
                  replace H := Option.bind_eq_some_iff.mp H
                  obtain ⟨t157, A160, H⟩ := H
                  replace H : (if t157 = x9_2 then (ringworkref01_Narrow.l1 k2 x6_1 (wrap64 (x9_2 + 1))) else (some (([] : List (S32)), 6))) = some (r1, r2) := H
                  have A16 := Aside0.mk A160
                  clear A160
                  by_cases c17 : t157 = x9_2
                  · rw [if_pos c17] at H
                    have c17b0 : (t157 == x9_2) = true := beq_iff_eq.mpr c17
                    have c17b1 : (t157 != x9_2) = false := bne_eq_false_iff_eq.mpr c17
                    clear c17
                    have H' := Aside0.mk H
                    clear H
                    obtain ⟨Ao18, co18, eo18⟩ := Kd.R_slice HO_6.out
                    subst eo18
                    have p156 : 0 ≤ (x9_2 : Int) := of_decide_eq_true (by first | (with_reducible assumption) | assumption)
                    have q156 : x9_2 < (x6_1.length : Int) := of_decide_eq_true (by first | (with_reducible assumption) | assumption)
                    obtain ⟨ad156, e156, hx156_0, hx156_1, hx156_2, hx156_3, hx156_4⟩ := at_T32 (Kd.R_reads' HO_6.out).2.2 x9_2 p156 q156
                    cases e156
                    replace p156 := eq_true p156
                    replace q156 := eq_true q156
                    go_wp2_with (first | ((with_reducible refine gate_callee (f := 72) rfl ?_); refine goesL_ (some 46) rfl rfl Tryd.func72 (by kernel_rfl) rfl #[.slice (some ad156) x6_1.length co18, .string ((rd_T32 x6_1 x9_2).f0)] rfl (by (try simp only [List.map_toArray, List.map_cons, List.map_nil]); first | done | rfl | (simp only [List.length_drop, List.length_take]; rfl)) ?_; (with_reducible refine (ringworkref01_index.calls k2 _ _ x6_1 ((rd_T32 x6_1 x9_2).f0) t157 _ ?side1 ?side2 A16.out).mono ?_); (case side1 => repeat (first | exact (Kd.R_reads' HO_6.out).2.2 | (with_reducible refine Kd.C_alloc ?_ _) | (with_reducible refine Kd.C_drewN ?_ _) | (with_reducible refine Kd.C_drew ?_))); (case side2 => exact (Kd.R_reads' HO_6.out).2.1); rintro e w' ⟨rfl, ⟨nd, rfl⟩⟩; refine ⟨_, rfl, ?_⟩))
                    go_roundg k2
                    case measure => have := HK1.out; have := HK2.out; omega
                    case rel => exact ⟨(wrap64 (x9_2 + 1)), (by first | rfl | (simp; done) | (simp [*]; done)), H', ⟨by have := HK1.out; have := HK2.out; omega⟩, ⟨by (with_reducible repeat (first | apply Kd.R_alloc | apply Kd.R_drewN | apply Kd.R_drew)); exact HO_6.out⟩, ⟨by repeat (first | (with_reducible first | exact HB.out | apply below_alloc | apply pw_below_drewN | apply below_drew1) | exact HB.out)⟩⟩
                  · rw [if_neg c17] at H
                    have c17b0 : (t157 == x9_2) = false := beq_eq_false_iff_ne.mpr c17
                    have c17b1 : (t157 != x9_2) = true := bne_iff_ne.mpr c17
                    simp only [Option.some.injEq, Prod.mk.injEq] at H
                    obtain ⟨rfl, rfl⟩ := H
                    obtain ⟨Ao19, co19, eo19⟩ := Kd.R_slice HO_6.out
                    subst eo19
                    have p156 : 0 ≤ (x9_2 : Int) := of_decide_eq_true (by first | (with_reducible assumption) | assumption)
                    have q156 : x9_2 < (x6_1.length : Int) := of_decide_eq_true (by first | (with_reducible assumption) | assumption)
                    obtain ⟨ad156, e156, hx156_0, hx156_1, hx156_2, hx156_3, hx156_4⟩ := at_T32 (Kd.R_reads' HO_6.out).2.2 x9_2 p156 q156
                    cases e156
                    replace p156 := eq_true p156
                    replace q156 := eq_true q156
                    go_wp2_with (first | ((with_reducible refine gate_callee (f := 72) rfl ?_); refine goesL_ (some 46) rfl rfl Tryd.func72 (by kernel_rfl) rfl #[.slice (some ad156) x6_1.length co19, .string ((rd_T32 x6_1 x9_2).f0)] rfl (by (try simp only [List.map_toArray, List.map_cons, List.map_nil]); first | done | rfl | (simp only [List.length_drop, List.length_take]; rfl)) ?_; (with_reducible refine (ringworkref01_index.calls k2 _ _ x6_1 ((rd_T32 x6_1 x9_2).f0) t157 _ ?side1 ?side2 A16.out).mono ?_); (case side1 => repeat (first | exact (Kd.R_reads' HO_6.out).2.2 | (with_reducible refine Kd.C_alloc ?_ _) | (with_reducible refine Kd.C_drewN ?_ _) | (with_reducible refine Kd.C_drew ?_))); (case side2 => exact (Kd.R_reads' HO_6.out).2.1); rintro e w' ⟨rfl, ⟨nd, rfl⟩⟩; refine ⟨_, rfl, ?_⟩))
                    go_ret2
                    exact ⟨_, by first | rfl | (simp [errW_none, errW_some] <;> rfl) | (simp [*, errW_none, errW_some] <;> rfl), by first | exact Kd.R_nil _ _ _ _ _ | exact Kd.N_nil _ _ _ _ _ | exact Kd.V_nil _ _ _ _ _ | exact Kd.Q_nil _ _ _ _ _ | exact Kd.S_nil _ _ _ _ _, by repeat (first | (with_reducible first | exact HB.out | apply below_alloc | apply pw_below_drewN | apply below_drew1) | exact HB.out)⟩
                · rw [if_neg c15] at H
                  exact absurd H (by simp)
              · rw [if_neg c14] at H
                have c14b0 : decide (x9_2 < (x6_1.length : Int)) = false := decide_eq_false c14
                clear c14
                by_cases c20 : (x6_1.length : Int) = 0
                · rw [if_pos c20] at H
                  have c20b0 : ((x6_1.length : Int) == 0) = true := beq_iff_eq.mpr c20
                  have c20b1 : ((x6_1.length : Int) != 0) = false := bne_eq_false_iff_eq.mpr c20
                  clear c20
                  simp only [Option.some.injEq, Prod.mk.injEq] at H
                  obtain ⟨rfl, rfl⟩ := H
                  obtain ⟨Ao21, co21, eo21⟩ := Kd.R_slice HO_6.out
                  subst eo21
                  go_wp2
                  go_ret2
                  exact ⟨_, by first | rfl | (simp [errW_none, errW_some] <;> rfl) | (simp [*, errW_none, errW_some] <;> rfl), by first | exact Kd.R_nil _ _ _ _ _ | exact Kd.N_nil _ _ _ _ _ | exact Kd.V_nil _ _ _ _ _ | exact Kd.Q_nil _ _ _ _ _ | exact Kd.S_nil _ _ _ _ _, by repeat (first | (with_reducible first | exact HB.out | apply below_alloc | apply pw_below_drewN | apply below_drew1) | exact HB.out)⟩
                · rw [if_neg c20] at H
                  have c20b0 : ((x6_1.length : Int) == 0) = false := beq_eq_false_iff_ne.mpr c20
                  have c20b1 : ((x6_1.length : Int) != 0) = true := bne_iff_ne.mpr c20
                  have c20b2 : ¬ (x6_1 = []) := fun h_ => c20 (by rw [h_]; rfl)
                  simp only [Option.some.injEq, Prod.mk.injEq] at H
                  obtain ⟨rfl, rfl⟩ := H
                  obtain ⟨Ao22, co22, eo22⟩ := Kd.R_slice HO_6.out
                  subst eo22
                  go_wp2
                  go_ret2
                  exact ⟨_, by first | rfl | (simp [errW_none, errW_some] <;> rfl) | (simp [*, errW_none, errW_some] <;> rfl), by (with_reducible repeat (first | apply Kd.R_alloc | apply Kd.R_drewN | apply Kd.R_drew)); exact HO_6.out, by repeat (first | (with_reducible first | exact HB.out | apply below_alloc | apply pw_below_drewN | apply below_drew1) | exact HB.out)⟩
  · replace c4 := Bool.eq_false_iff.mpr c4
    subst c4
    have H1 : (some (([] : List (S32)), 1)) = some (r1, r2) := by rw [if_neg (show ¬ (false = true) by decide)] at H; exact H
    clear H
    have H := H1
    clear H1
    simp only [Option.some.injEq, Prod.mk.injEq] at H
    obtain ⟨rfl, rfl⟩ := H
    go_enter Tryd.func32, Tryd.ntmps32
    go_wp2_with (first | ((with_reducible refine gate_callee (f := 21) rfl ?_); refine goesL_ (some 11) rfl rfl Tryd.func21 (by kernel_rfl) rfl #[.slice A0 l0.length c0] rfl (by (try simp only [List.map_toArray, List.map_cons, List.map_nil]); first | done | rfl | (simp only [List.length_drop, List.length_take]; rfl)) ?_; (with_reducible refine (ringworkref01_ValidItems.calls k _ _ l0 false _ ?side1 ?side2 A3.out).mono ?_); (case side1 => repeat (first | exact HR0.out | (with_reducible refine Kd.C_alloc ?_ _) | (with_reducible refine Kd.C_drewN ?_ _) | (with_reducible refine Kd.C_drew ?_))); (case side2 => exact HC0.out); rintro e w23 ⟨rfl, hb⟩; refine ⟨_, rfl, ?_⟩; have n0_ := Aside0.mk (below_step (by repeat (first | (with_reducible first | exact HB.out | apply below_alloc | apply pw_below_drewN | apply below_drew1) | exact HB.out)) hb); clear HB; have HB := n0_; clear n0_; (try clear hb); (try clear hb2); (try clear hk); (try clear hi)))
    go_ret2
    exact ⟨_, by first | rfl | (simp [errW_none, errW_some] <;> rfl) | (simp [*, errW_none, errW_some] <;> rfl), by first | exact Kd.R_nil _ _ _ _ _ | exact Kd.N_nil _ _ _ _ _ | exact Kd.V_nil _ _ _ _ _ | exact Kd.Q_nil _ _ _ _ _ | exact Kd.S_nil _ _ _ _ _, by repeat (first | (with_reducible first | exact HB.out | apply below_alloc | apply pw_below_drewN | apply below_drew1) | exact HB.out)⟩

/-! ### ringworklaw01_SameItems: function 33 -/
def ringworklaw01_SameItems.l0 : Nat → List (S32) → List (S32) → Int → Option (Bool)
  | 0, _, _, _ => none
  | k + 1, x0, x1, x5 => if x5 < (x0.length : Int) then (if 0 ≤ x5 then (if x5 < (x1.length : Int) then (if (!((((rd_T32 x0 x5).f0).toList) == (((rd_T32 x1 x5).f0).toList)) || (!(((rd_T32 x0 x5).f1) == ((rd_T32 x1 x5).f1)) || (!(((rd_T32 x0 x5).f2) == ((rd_T32 x1 x5).f2)) || (!(((rd_T32 x0 x5).f3) == ((rd_T32 x1 x5).f3)) || (!(((rd_T32 x0 x5).f4) == ((rd_T32 x1 x5).f4))))))) = true then (some false) else (ringworklaw01_SameItems.l0 k x0 x1 (wrap64 (x5 + 1)))) else (none)) else (none)) else (some true)
def ringworklaw01_SameItems.f (k : Nat) (l0 : List (S32)) (l1 : List (S32)) : Option (Bool) := if (l0.length : Int) = (l1.length : Int) then (ringworklaw01_SameItems.l0 k l0 l1 0) else (some false)
theorem ringworklaw01_SameItems.mono_l : ∀ k, (∀ y0 y1 y2, LeO (ringworklaw01_SameItems.l0 k y0 y1 y2) (ringworklaw01_SameItems.l0 (k + 1) y0 y1 y2))
  | 0 => fun _ _ _ r h => by simp [ringworklaw01_SameItems.l0] at h
  | k + 1 => by
    have ih0 := ringworklaw01_SameItems.mono_l k
    · intro y0 y1 y2
      unfold ringworklaw01_SameItems.l0
      repeat' first
      | (with_reducible exact ih0 _ _ _)
      | (with_reducible exact LeO.refl _)
      | (with_reducible exact LeO.none _)
      | (with_reducible refine LeO.ite ?_ ?_)
      | (with_reducible refine LeO.bind ?_ (fun _ => ?_))
      | exact ih0 _ _ _
      | exact LeO.none _
      | refine LeO.ite ?_ ?_
      | refine LeO.bind ?_ (fun _ => ?_)
theorem ringworklaw01_SameItems.mono : ∀ a0 a1 k, LeO (ringworklaw01_SameItems.f k a0 a1) (ringworklaw01_SameItems.f (k + 1) a0 a1) := by
  intro a0 a1 k
  have ih0 := ringworklaw01_SameItems.mono_l k
  unfold ringworklaw01_SameItems.f
  repeat' first
      | (with_reducible exact ih0 _ _ _)
      | (with_reducible exact LeO.refl _)
      | (with_reducible exact LeO.none _)
      | (with_reducible refine LeO.ite ?_ ?_)
      | (with_reducible refine LeO.bind ?_ (fun _ => ?_))
      | exact ih0 _ _ _
      | exact LeO.none _
      | refine LeO.ite ?_ ?_
      | refine LeO.bind ?_ (fun _ => ?_)
set_option maxHeartbeats 8000000 in
set_option maxRecDepth 100000 in
theorem ringworklaw01_SameItems.calls (k : Nat) (A0 : Option Addr) (c0 : Nat) (l0 : List (S32)) (A1 : Option Addr) (c1 : Nat) (l1 : List (S32)) (r : Bool) (w : World) (hr0 : Kd.C k32 w A0 l0.length l0) (hc0 : l0.length ≤ c0) (hr1 : Kd.C k32 w A1 l1.length l1) (hc1 : l1.length ≤ c1) (h : ringworklaw01_SameItems.f k l0 l1 = some r) :
    Calls Tryd.prog 33 #[.slice A0 l0.length c0, .slice A1 l1.length c1] w fun e w' => e = .returned (.bool r) ∧ Drawn0 w w' := by
  have hu32 := Tryd.underlying32
  have HR0 := Aside0.mk hr0
  have HC0 := Aside0.mk hc0
  clear hr0 hc0
  have HR1 := Aside0.mk hr1
  have HC1 := Aside0.mk hc1
  clear hr1 hc1
  have H : (if (l0.length : Int) = (l1.length : Int) then (ringworklaw01_SameItems.l0 k l0 l1 0) else (some false)) = some r := h
  clear h
  by_cases c3 : (l0.length : Int) = (l1.length : Int)
  · rw [if_pos c3] at H
    have c3b0 : ((l0.length : Int) == (l1.length : Int)) = true := beq_iff_eq.mpr c3
    have c3b1 : ((l0.length : Int) != (l1.length : Int)) = false := bne_eq_false_iff_eq.mpr c3
    have c3b2 : (l0.length == l1.length) = true := by first | simpa using c3 | (simp at c3 ⊢; omega)
    clear c3
    have H' := Aside0.mk H
    clear H
    go_enter Tryd.func33, Tryd.ntmps33
    go_wp2
    repeat (go_quiet (fail); try go_wp2)
    go_loopg [5] k (fun kq v5 w' => ∃ (x5_1 : Int), v5 = .int .i64 x5_1 ∧ Aside0 (ringworklaw01_SameItems.l0 kq l0 l1 x5_1 = some r) ∧ Aside0 (kq ≤ k) ∧ Drawn0 w w')
    case atStart => exact ⟨(0), (by first | rfl | (simp; done) | (simp [*]; done)), H', ⟨Nat.le_refl _⟩, by repeat (first | exact Drawn0.refl _ | apply Drawn0.step)⟩
    case round =>
      clear H'
      try clear c1
      try clear p2
      try clear c3
      try clear c3b0
      try clear c3b1
      try clear c3b2
      obtain ⟨x5_1, rfl, HA, HK1, ⟨m1, rfl⟩⟩ := hrel
      cases gk with
      | zero => exact absurd HA.out (by simp [ringworklaw01_SameItems.l0])
      | succ k1 =>
        have H := HA.out
        clear HA
        simp only [ringworklaw01_SameItems.l0] at H
        by_cases c4 : x5_1 < (l0.length : Int)
        · rw [if_pos c4] at H
          have c4b0 : decide (x5_1 < (l0.length : Int)) = true := decide_eq_true c4
          clear c4
          by_cases c5 : 0 ≤ x5_1
          · rw [if_pos c5] at H
            have c5b0 : decide (0 ≤ x5_1) = true := decide_eq_true c5
            clear c5
            by_cases c6 : x5_1 < (l1.length : Int)
            · rw [if_pos c6] at H
              have c6b0 : decide (x5_1 < (l1.length : Int)) = true := decide_eq_true c6
              clear c6
              by_cases c7 : (!((((rd_T32 l0 x5_1).f0).toList) == (((rd_T32 l1 x5_1).f0).toList)) || (!(((rd_T32 l0 x5_1).f1) == ((rd_T32 l1 x5_1).f1)) || (!(((rd_T32 l0 x5_1).f2) == ((rd_T32 l1 x5_1).f2)) || (!(((rd_T32 l0 x5_1).f3) == ((rd_T32 l1 x5_1).f3)) || (!(((rd_T32 l0 x5_1).f4) == ((rd_T32 l1 x5_1).f4))))))) = true
              · rw [if_pos c7] at H
                have c7b0 : (!((((rd_T32 l0 x5_1).f0).toList) == (((rd_T32 l1 x5_1).f0).toList)) || (!(((rd_T32 l0 x5_1).f1) == ((rd_T32 l1 x5_1).f1)) || (!(((rd_T32 l0 x5_1).f2) == ((rd_T32 l1 x5_1).f2)) || (!(((rd_T32 l0 x5_1).f3) == ((rd_T32 l1 x5_1).f3)) || (!(((rd_T32 l0 x5_1).f4) == ((rd_T32 l1 x5_1).f4))))))) = true := c7
                clear c7
                obtain rfl := Option.some.inj H
                have p158 : 0 ≤ (x5_1 : Int) := of_decide_eq_true (by first | (with_reducible assumption) | assumption)
                have q158 : x5_1 < (l0.length : Int) := of_decide_eq_true (by first | (with_reducible assumption) | assumption)
                obtain ⟨ad158, e158, hx158_0, hx158_1, hx158_2, hx158_3, hx158_4⟩ := at_T32 HR0.out x5_1 p158 q158
                cases e158
                replace p158 := eq_true p158
                replace q158 := eq_true q158
                have p159 : 0 ≤ (x5_1 : Int) := of_decide_eq_true (by first | (with_reducible assumption) | assumption)
                have q159 : x5_1 < (l1.length : Int) := of_decide_eq_true (by first | (with_reducible assumption) | assumption)
                obtain ⟨ad159, e159, hx159_0, hx159_1, hx159_2, hx159_3, hx159_4⟩ := at_T32 HR1.out x5_1 p159 q159
                cases e159
                replace p159 := eq_true p159
                replace q159 := eq_true q159
                go_wp2
                repeat (go_quiet (fail); try go_wp2)
                go_ret
                exact ⟨by first | rfl | (simp; done) | (simp [*]; done), by repeat (first | exact Drawn0.refl _ | apply Drawn0.step)⟩
              · rw [if_neg c7] at H
                have c7b0 : (!((((rd_T32 l0 x5_1).f0).toList) == (((rd_T32 l1 x5_1).f0).toList)) || (!(((rd_T32 l0 x5_1).f1) == ((rd_T32 l1 x5_1).f1)) || (!(((rd_T32 l0 x5_1).f2) == ((rd_T32 l1 x5_1).f2)) || (!(((rd_T32 l0 x5_1).f3) == ((rd_T32 l1 x5_1).f3)) || (!(((rd_T32 l0 x5_1).f4) == ((rd_T32 l1 x5_1).f4))))))) = false := by simpa using c7
                clear c7
                have H' := Aside0.mk H
                clear H
                have p158 : 0 ≤ (x5_1 : Int) := of_decide_eq_true (by first | (with_reducible assumption) | assumption)
                have q158 : x5_1 < (l0.length : Int) := of_decide_eq_true (by first | (with_reducible assumption) | assumption)
                obtain ⟨ad158, e158, hx158_0, hx158_1, hx158_2, hx158_3, hx158_4⟩ := at_T32 HR0.out x5_1 p158 q158
                cases e158
                replace p158 := eq_true p158
                replace q158 := eq_true q158
                have p159 : 0 ≤ (x5_1 : Int) := of_decide_eq_true (by first | (with_reducible assumption) | assumption)
                have q159 : x5_1 < (l1.length : Int) := of_decide_eq_true (by first | (with_reducible assumption) | assumption)
                obtain ⟨ad159, e159, hx159_0, hx159_1, hx159_2, hx159_3, hx159_4⟩ := at_T32 HR1.out x5_1 p159 q159
                cases e159
                replace p159 := eq_true p159
                replace q159 := eq_true q159
                go_wp2
                repeat (go_quiet (fail); try go_wp2)
                go_roundg k1
                case measure => have := HK1.out; omega
                case rel => exact ⟨(wrap64 (x5_1 + 1)), (by first | rfl | (simp; done) | (simp [*]; done)), H', ⟨by have := HK1.out; omega⟩, by repeat (first | exact Drawn0.refl _ | apply Drawn0.step)⟩
            · rw [if_neg c6] at H
              exact absurd H (by simp)
          · rw [if_neg c5] at H
            exact absurd H (by simp)
        · rw [if_neg c4] at H
          have c4b0 : decide (x5_1 < (l0.length : Int)) = false := decide_eq_false c4
          clear c4
          obtain rfl := Option.some.inj H
          go_wp2
          repeat (go_quiet (fail); try go_wp2)
          go_ret
          exact ⟨by first | rfl | (simp; done) | (simp [*]; done), by repeat (first | exact Drawn0.refl _ | apply Drawn0.step)⟩
  · rw [if_neg c3] at H
    have c3b0 : ((l0.length : Int) == (l1.length : Int)) = false := beq_eq_false_iff_ne.mpr c3
    have c3b1 : ((l0.length : Int) != (l1.length : Int)) = true := bne_iff_ne.mpr c3
    have c3b2 : (l0.length == l1.length) = false := by first | simpa using c3 | (simp at c3 ⊢; omega)
    obtain rfl := Option.some.inj H
    go_enter Tryd.func33, Tryd.ntmps33
    go_wp2
    repeat (go_quiet (fail); try go_wp2)
    go_ret
    exact ⟨by first | rfl | (simp; done) | (simp [*]; done), by repeat (first | exact Drawn0.refl _ | apply Drawn0.step)⟩




/-! ### ringworkref01_Rename: function 36 -/
mutual
def ringworkref01_Rename.l0 : Nat → List ByteArray → List (S32) → Int → Option ((List (S32)) × Int)
  | 0, _, _, _ => none
  | k + 1, x1, x6, x7 => if x7 < (x1.length : Int) then (if 0 ≤ x7 then ((ringworkref01_Name.f k (rdOf ByteArray.empty x1 x7)).bind fun t168 => (if t168 = true then (if x7 < (x6.length : Int) then (ringworkref01_Rename.l0 k x1 (x6.set (x7 : Int).toNat (⟨rdOf ByteArray.empty x1 x7, (rd_T32 x6 x7).f1, (rd_T32 x6 x7).f2, (rd_T32 x6 x7).f3, (rd_T32 x6 x7).f4⟩ : S32)) (wrap64 (x7 + 1))) else (none)) else (some (([] : List (S32)), 1)))) else (none)) else (ringworkref01_Rename.l1 k x6 0)
def ringworkref01_Rename.l1 : Nat → List (S32) → Int → Option ((List (S32)) × Int)
  | 0, _, _ => none
  | k + 1, x6, x8 => if x8 < (x6.length : Int) then (if 0 ≤ x8 then ((ringworkref01_index.f k x6 ((rd_T32 x6 x8).f0)).bind fun t172 => (if t172 = x8 then (ringworkref01_Rename.l1 k x6 (wrap64 (x8 + 1))) else (some (([] : List (S32)), 6)))) else (none)) else (some (x6, 0))
end
def ringworkref01_Rename.f (k : Nat) (l0 : List (S32)) (l1 : List ByteArray) : Option ((List (S32)) × Int) := (ringworkref01_ValidItems.f k l0).bind fun t160 => (if t160 = true then (if (l1.length : Int) = (l0.length : Int) then ((some (([] : List (S32)) : List (S32))).bind fun y161 => (if y161.length + l0.length < 2932031007402 then (ringworkref01_Rename.l0 k l1 (y161 ++ l0) 0) else (none))) else (some (([] : List (S32)), 11))) else (some (([] : List (S32)), 1)))
theorem ringworkref01_Rename.mono_l : ∀ k, (∀ y0 y1 y2, LeO (ringworkref01_Rename.l0 k y0 y1 y2) (ringworkref01_Rename.l0 (k + 1) y0 y1 y2)) ∧ (∀ y0 y1, LeO (ringworkref01_Rename.l1 k y0 y1) (ringworkref01_Rename.l1 (k + 1) y0 y1))
  | 0 => ⟨fun _ _ _ r h => by simp [ringworkref01_Rename.l0] at h, fun _ _ r h => by simp [ringworkref01_Rename.l1] at h⟩
  | k + 1 => by
    obtain ⟨ih0, ih1⟩ := ringworkref01_Rename.mono_l k
    refine ⟨?_, ?_⟩
    · intro y0 y1 y2
      unfold ringworkref01_Rename.l0
      repeat' first
      | (with_reducible exact ih0 _ _ _)
      | (with_reducible exact ih1 _ _)
      | (with_reducible exact ringworkref01_Name.mono _ _)
      | (with_reducible exact ringworkref01_ValidItems.mono _ _)
      | (with_reducible exact ringworkref01_index.mono _ _ _)
      | (with_reducible exact LeO.refl _)
      | (with_reducible exact LeO.none _)
      | (with_reducible refine LeO.ite ?_ ?_)
      | (with_reducible refine LeO.bind ?_ (fun _ => ?_))
      | exact ih0 _ _ _
      | exact ih1 _ _
      | exact ringworkref01_Name.mono _ _
      | exact ringworkref01_ValidItems.mono _ _
      | exact ringworkref01_index.mono _ _ _
      | exact LeO.none _
      | refine LeO.ite ?_ ?_
      | refine LeO.bind ?_ (fun _ => ?_)
    · intro y0 y1
      unfold ringworkref01_Rename.l1
      repeat' first
      | (with_reducible exact ih0 _ _ _)
      | (with_reducible exact ih1 _ _)
      | (with_reducible exact ringworkref01_Name.mono _ _)
      | (with_reducible exact ringworkref01_ValidItems.mono _ _)
      | (with_reducible exact ringworkref01_index.mono _ _ _)
      | (with_reducible exact LeO.refl _)
      | (with_reducible exact LeO.none _)
      | (with_reducible refine LeO.ite ?_ ?_)
      | (with_reducible refine LeO.bind ?_ (fun _ => ?_))
      | exact ih0 _ _ _
      | exact ih1 _ _
      | exact ringworkref01_Name.mono _ _
      | exact ringworkref01_ValidItems.mono _ _
      | exact ringworkref01_index.mono _ _ _
      | exact LeO.none _
      | refine LeO.ite ?_ ?_
      | refine LeO.bind ?_ (fun _ => ?_)
theorem ringworkref01_Rename.mono : ∀ a0 a1 k, LeO (ringworkref01_Rename.f k a0 a1) (ringworkref01_Rename.f (k + 1) a0 a1) := by
  intro a0 a1 k
  obtain ⟨ih0, ih1⟩ := ringworkref01_Rename.mono_l k
  unfold ringworkref01_Rename.f
  repeat' first
      | (with_reducible exact ih0 _ _ _)
      | (with_reducible exact ih1 _ _)
      | (with_reducible exact ringworkref01_Name.mono _ _)
      | (with_reducible exact ringworkref01_ValidItems.mono _ _)
      | (with_reducible exact ringworkref01_index.mono _ _ _)
      | (with_reducible exact LeO.refl _)
      | (with_reducible exact LeO.none _)
      | (with_reducible refine LeO.ite ?_ ?_)
      | (with_reducible refine LeO.bind ?_ (fun _ => ?_))
      | exact ih0 _ _ _
      | exact ih1 _ _
      | exact ringworkref01_Name.mono _ _
      | exact ringworkref01_ValidItems.mono _ _
      | exact ringworkref01_index.mono _ _ _
      | exact LeO.none _
      | refine LeO.ite ?_ ?_
      | refine LeO.bind ?_ (fun _ => ?_)
set_option maxHeartbeats 8000000 in
set_option maxRecDepth 100000 in
theorem ringworkref01_Rename.calls (k : Nat) (A0 : Option Addr) (c0 : Nat) (l0 : List (S32)) (A1 : Option Addr) (c1 : Nat) (l1 : List ByteArray) (r1 : List (S32)) (r2 : Int) (w : World) (hr0 : Kd.C k32 w A0 l0.length l0) (hc0 : l0.length ≤ c0) (hr1 : Kd.C Kd.string w A1 l1.length l1) (hc1 : l1.length ≤ c1) (h : ringworkref01_Rename.f k l0 l1 = some (r1, r2)) :
    Calls Tryd.prog 36 #[.slice A0 l0.length c0, .slice A1 l1.length c1] w fun e w' => ∃ v0_ : Value, e = .returned (.tuple #[v0_, .int .i64 r2]) ∧ Kd.R k32 32 w' w.heap.size (fun _ => True) v0_ r1 ∧ Below w.heap.size w w' := by
  have HR0 := Aside0.mk hr0
  have HC0 := Aside0.mk hc0
  clear hr0 hc0
  have HR1 := Aside0.mk hr1
  have HC1 := Aside0.mk hc1
  clear hr1 hc1
  have HB := Aside0.mk (Below.refl w.heap.size w)
  have H : ((ringworkref01_ValidItems.f k l0).bind fun t160 => (if t160 = true then (if (l1.length : Int) = (l0.length : Int) then ((some (([] : List (S32)) : List (S32))).bind fun y161 => (if y161.length + l0.length < 2932031007402 then (ringworkref01_Rename.l0 k l1 (y161 ++ l0) 0) else (none))) else (some (([] : List (S32)), 11))) else (some (([] : List (S32)), 1)))) = some (r1, r2) := h
  clear h
  replace H := Option.bind_eq_some_iff.mp H
  obtain ⟨t160, A30, H⟩ := H
  replace H : (if t160 = true then (if (l1.length : Int) = (l0.length : Int) then ((some (([] : List (S32)) : List (S32))).bind fun y161 => (if y161.length + l0.length < 2932031007402 then (ringworkref01_Rename.l0 k l1 (y161 ++ l0) 0) else (none))) else (some (([] : List (S32)), 11))) else (some (([] : List (S32)), 1))) = some (r1, r2) := H
  have A3 := Aside0.mk A30
  clear A30
  by_cases c4 : t160 = true
  · subst c4
    have H1 : (if (l1.length : Int) = (l0.length : Int) then ((some (([] : List (S32)) : List (S32))).bind fun y161 => (if y161.length + l0.length < 2932031007402 then (ringworkref01_Rename.l0 k l1 (y161 ++ l0) 0) else (none))) else (some (([] : List (S32)), 11))) = some (r1, r2) := by rw [if_pos rfl] at H; exact H
    clear H
    have H := H1
    clear H1
    by_cases c5 : (l1.length : Int) = (l0.length : Int)
    · rw [if_pos c5] at H
      have c5b0 : ((l1.length : Int) == (l0.length : Int)) = true := beq_iff_eq.mpr c5
      have c5b1 : ((l1.length : Int) != (l0.length : Int)) = false := bne_eq_false_iff_eq.mpr c5
      have c5b2 : (l1.length == l0.length) = true := by first | simpa using c5 | (simp at c5 ⊢; omega)
      clear c5
      obtain ⟨y161, hy161⟩ : ∃ y_ : List (S32), y_ = (([] : List (S32))) := ⟨_, rfl⟩
      replace H : (if y161.length + l0.length < 2932031007402 then (ringworkref01_Rename.l0 k l1 (y161 ++ l0) 0) else (none)) = some (r1, r2) := by first | (rw [hy161]; with_reducible exact H) | (have H2_ := (Option.bind_some _ _).symm.trans H; rw [hy161]; with_reducible exact H2_) | (have H2_ := (Option.bind_some _ _).symm.trans H; with_reducible exact H2_) | with_reducible exact H | (rw [hy161]; exact H) | exact H
      have Ny161 := Aside0.mk hy161
      clear hy161
      by_cases c6 : y161.length + l0.length < 2932031007402
      · rw [if_pos c6] at H
        have LMc6 := Aside0.mk c6
        clear c6
        obtain ⟨y164, hy164⟩ : ∃ y_ : List (S32), y_ = (y161 ++ l0) := ⟨_, rfl⟩
        replace H : (ringworkref01_Rename.l0 k l1 y164 0) = some (r1, r2) := by first | (rw [hy164]; with_reducible exact H) | (have H2_ := (Option.bind_some _ _).symm.trans H; rw [hy164]; with_reducible exact H2_) | (have H2_ := (Option.bind_some _ _).symm.trans H; with_reducible exact H2_) | with_reducible exact H | (rw [hy164]; exact H) | exact H
        have Ny164 := Aside0.mk hy164
        clear hy164
        have H' := Aside0.mk H
        clear H
        go_enter Tryd.func36, Tryd.ntmps36
        go_wp2_with (first | ((with_reducible refine gate_callee (f := 21) rfl ?_); refine goesL_ (some 10) rfl rfl Tryd.func21 (by kernel_rfl) rfl #[.slice A0 l0.length c0] rfl (by (try simp only [List.map_toArray, List.map_cons, List.map_nil]); first | done | rfl | (simp only [List.length_drop, List.length_take]; rfl)) ?_; (with_reducible refine (ringworkref01_ValidItems.calls k _ _ l0 true _ ?side1 ?side2 A3.out).mono ?_); (case side1 => repeat (first | exact HR0.out | (with_reducible refine Kd.C_alloc ?_ _) | (with_reducible refine Kd.C_drewN ?_ _) | (with_reducible refine Kd.C_drew ?_))); (case side2 => exact HC0.out); rintro e w7 ⟨rfl, hb⟩; refine ⟨_, rfl, ?_⟩; have n0_ := Aside0.mk (below_step (by repeat (first | (with_reducible first | exact HB.out | apply below_alloc | apply pw_below_drewN | apply below_drew1) | exact HB.out)) hb); clear HB; have HB := n0_; clear n0_; (try clear hb); (try clear hb2); (try clear hk); (try clear hi)) | ((with_reducible refine gate_dst (N := 17) rfl ?_); refine Kd.R_lit k32 _ 32 ?hg (N := 17) ?hd (xs := ([] : List (S32))) (inner := []) (ok := fun _ => True) (okp := fun _ => True) ?hr ?hp (fun _ hk => hk) trivial (Below.refl _ _) (Nat.le_refl _) (by simp) ?_; (case hd => rfl); (case hg => rfl); (case hr => first | (go_simp; done) | (go_simp; rfl)); (case hp => exact (Reps.none _ _)); intro v162 w8 ho9 hb hg_ hnew_; clear hg_ hnew_; (first | rw [← Ny161.out] at ho9 | (simp only [Int.reduceToNat] at ho9; rw [← Ny161.out] at ho9)); have n0_ := Aside0.mk (Kd.R_lower ho9 (below_size (by repeat (first | (with_reducible first | exact HB.out | apply below_alloc | apply pw_below_drewN | apply below_drew1) | exact HB.out)))); have n1_ := Aside0.mk (below_step (by repeat (first | (with_reducible first | exact HB.out | apply below_alloc | apply pw_below_drewN | apply below_drew1) | exact HB.out)) hb); clear HB; have HO163 := n0_; have HB := n1_; clear n0_ n1_; clear hb ho9) | ((with_reducible refine gate_builtin (b := .append) (xs := #[.tmp 17, .tmp 18]) rfl ?_); at_builtin; refine Kd.R_append_rows k32 (w0 := w) w.heap.size rfl (.tmp 17) (.tmp 18) 22 32 (.agg #[(.string ⟨#[]⟩), (.int .i64 0), (.int .i64 0), (.int .i64 0), (.int .i64 0)]) 48 rfl Tryd.underlying22 info32 rfl (by decide) (by omega) v162 y161 l0 _ _ _ (fun _ => True) (fun _ => False) rfl rfl ?aO ?aR (fun _ _ h => h) (fun _ h => h.elim) ?aF ?aB ?aS ?aL ?_; (case aR => repeat (first | exact (Kd.C_below HR0.out HB.out) | (with_reducible refine Kd.C_alloc ?_ _) | (with_reducible refine Kd.C_drewN ?_ _) | (with_reducible refine Kd.C_drew ?_))); (case aB => exact (by repeat (first | (with_reducible first | exact HB.out | apply below_alloc | apply pw_below_drewN | apply below_drew1) | exact HB.out))); (case aF => exact (fun _ _ => trivial)); (case aO => exact (by (with_reducible repeat (first | apply Kd.R_alloc | apply Kd.R_drewN | apply Kd.R_drew)); exact HO163.out)); (case aS => exact (below_size (by repeat (first | (with_reducible first | exact HB.out | apply below_alloc | apply pw_below_drewN | apply below_drew1) | exact HB.out)))); (case aL => have := LMc6.out; omega); intro v165 w10 ho hb hg hat; rw [← Ny164.out] at ho; have n0_ := Aside0.mk (hb); have n1_ := Aside0.mk (ho); clear HB; clear HO163; have HB := n0_; have HO166 := n1_; clear n0_ n1_; clear ho hb hg hat))
        go_loopg [7] k (fun kq v7 w' => ∃ (x6_1 : List (S32)) (x7_1 : Int), v7 = .int .i64 x7_1 ∧ Aside0 (ringworkref01_Rename.l0 kq l1 x6_1 x7_1 = some (r1, r2)) ∧ Aside0 (kq ≤ k) ∧ Aside0 (Kd.R k32 32 w' w.heap.size (fun _ => True) v165 x6_1) ∧ Aside0 (Below w.heap.size w w'))
        case atStart => exact ⟨(y164), (0), (by first | rfl | (simp; done) | (simp [*]; done)), H', ⟨Nat.le_refl _⟩, ⟨by (with_reducible repeat (first | apply Kd.R_alloc | apply Kd.R_drewN | apply Kd.R_drew)); exact HO166.out⟩, ⟨by repeat (first | (with_reducible first | exact HB.out | apply below_alloc | apply pw_below_drewN | apply below_drew1) | exact HB.out)⟩⟩
        case round =>
          clear H'
          try clear c1
          try clear c2
          try clear p2
          try clear c3
          try clear c4
          try clear c5
          try clear c5b0
          try clear c5b1
          try clear c5b2
          try clear c6
          obtain ⟨x6_1, x7_1, rfl, HA, HK1, HO_6, HB⟩ := hrel
          cases gk with
          | zero => exact absurd HA.out (by simp [ringworkref01_Rename.l0])
          | succ k1 =>
            have H := HA.out
            clear HA
            simp only [ringworkref01_Rename.l0] at H
            by_cases c11 : x7_1 < (l1.length : Int)
            · rw [if_pos c11] at H
              have c11b0 : decide (x7_1 < (l1.length : Int)) = true := decide_eq_true c11
              clear c11
              by_cases c12 : 0 ≤ x7_1
              · rw [if_pos c12] at H
                have c12b0 : decide (0 ≤ x7_1) = true := decide_eq_true c12
                clear c12
                replace H := Option.bind_eq_some_iff.mp H
                obtain ⟨t168, A130, H⟩ := H
                replace H : (if t168 = true then (if x7_1 < (x6_1.length : Int) then (ringworkref01_Rename.l0 k1 l1 (x6_1.set (x7_1 : Int).toNat (⟨rdOf ByteArray.empty l1 x7_1, (rd_T32 x6_1 x7_1).f1, (rd_T32 x6_1 x7_1).f2, (rd_T32 x6_1 x7_1).f3, (rd_T32 x6_1 x7_1).f4⟩ : S32)) (wrap64 (x7_1 + 1))) else (none)) else (some (([] : List (S32)), 1))) = some (r1, r2) := H
                have A13 := Aside0.mk A130
                clear A130
                by_cases c14 : t168 = true
                · subst c14
                  have H1 : (if x7_1 < (x6_1.length : Int) then (ringworkref01_Rename.l0 k1 l1 (x6_1.set (x7_1 : Int).toNat (⟨rdOf ByteArray.empty l1 x7_1, (rd_T32 x6_1 x7_1).f1, (rd_T32 x6_1 x7_1).f2, (rd_T32 x6_1 x7_1).f3, (rd_T32 x6_1 x7_1).f4⟩ : S32)) (wrap64 (x7_1 + 1))) else (none)) = some (r1, r2) := by rw [if_pos rfl] at H; exact H
                  clear H
                  have H := H1
                  clear H1
                  by_cases c15 : x7_1 < (x6_1.length : Int)
                  · rw [if_pos c15] at H
                    have c15b0 : decide (x7_1 < (x6_1.length : Int)) = true := decide_eq_true c15
                    clear c15
                    obtain ⟨y170, hy170⟩ : ∃ y_ : List (S32), y_ = (x6_1.set (x7_1 : Int).toNat (⟨rdOf ByteArray.empty l1 x7_1, (rd_T32 x6_1 x7_1).f1, (rd_T32 x6_1 x7_1).f2, (rd_T32 x6_1 x7_1).f3, (rd_T32 x6_1 x7_1).f4⟩ : S32)) := ⟨_, rfl⟩
                    replace H : (ringworkref01_Rename.l0 k1 l1 y170 (wrap64 (x7_1 + 1))) = some (r1, r2) := by first | (rw [hy170]; with_reducible exact H) | (have H2_ := (Option.bind_some _ _).symm.trans H; rw [hy170]; with_reducible exact H2_) | (have H2_ := (Option.bind_some _ _).symm.trans H; with_reducible exact H2_) | with_reducible exact H | (rw [hy170]; exact H) | exact H
                    have Ny170 := Aside0.mk hy170
                    clear hy170
                    have H' := Aside0.mk H
                    clear H
                    have p167 : 0 ≤ (x7_1 : Int) := of_decide_eq_true (by first | (with_reducible assumption) | assumption)
                    have q167 : x7_1 < (l1.length : Int) := of_decide_eq_true (by first | (with_reducible assumption) | assumption)
                    obtain ⟨ad167, e167, hx167_0⟩ := Kd.at_string HR1.out x7_1 p167 q167
                    cases e167
                    replace hx167_0 := (HB.out.cell (World.block_lt_of_cell? w _ hx167_0)).trans hx167_0
                    replace p167 := eq_true p167
                    replace q167 := eq_true q167
                    go_wp2_with (first | ((with_reducible refine gate_callee (f := 17) rfl ?_); refine goesL_ (some 30) rfl rfl Tryd.func17 (by kernel_rfl) rfl #[.string (rdOf ByteArray.empty l1 x7_1)] rfl (by (try simp only [List.map_toArray, List.map_cons, List.map_nil]); first | done | rfl | (simp only [List.length_drop, List.length_take]; rfl)) ?_; (with_reducible refine (ringworkref01_Name.calls k1 (rdOf ByteArray.empty l1 x7_1) true _ A13.out).mono ?_); rintro e w' ⟨rfl, ⟨nd, rfl⟩⟩; refine ⟨_, rfl, ?_⟩; (try (rw [drewN_self wr]; generalize hq_ : World.drewN wr _ = wr; have n0_ : Aside0 (Kd.R k32 32 wr w.heap.size (fun _ => True) v165 x6_1) := ⟨by rw [← hq_]; exact (by (with_reducible repeat (first | apply Kd.R_alloc | apply Kd.R_drewN | apply Kd.R_drew)); exact HO_6.out)⟩; have n1_ : Aside0 (Below w.heap.size w wr) := ⟨by rw [← hq_]; exact (by repeat (first | (with_reducible first | exact HB.out | apply below_alloc | apply pw_below_drewN | apply below_drew1) | exact HB.out))⟩; clear HO_6 HB hq_; have HO_6 := n0_; have HB := n1_; clear n0_ n1_)); have p169 : 0 ≤ (x7_1 : Int) := of_decide_eq_true (by first | (with_reducible assumption) | assumption); have q169 : x7_1 < (l1.length : Int) := of_decide_eq_true (by first | (with_reducible assumption) | assumption); obtain ⟨ad169, e169, hx169_0⟩ := Kd.at_string HR1.out x7_1 p169 q169; obtain rfl : ad167 = ad169 := (by injection e169); replace hx169_0 := (HB.out.cell (World.block_lt_of_cell? w _ hx169_0)).trans hx169_0; replace p169 := eq_true p169; replace q169 := eq_true q169; have p16 : 0 ≤ (x7_1 : Int) := of_decide_eq_true (by first | (with_reducible assumption) | assumption); have q16 : (x7_1 : Int) < ((x6_1.length : Int) : Int) := of_decide_eq_true (by first | (with_reducible assumption) | assumption); obtain ⟨go16, co16, eo16, gb16, gl16, cl16, HG16⟩ := Kd.R_form HO_6.out (by omega); (first | cases eo16 | (injection eo16 with ea_ en_ ec_; (first | subst ea_ | (injection ea_ with ea_; subst ea_)); subst ec_; clear en_)); have GB16 := Aside0.mk gb16; have GG16 := Aside0.mk HG16; clear gb16 gl16 HG16; obtain ⟨ce16, hcl16, hM16, hcc16, hfr16⟩ := Kd.R_elem HO_6.out z32 (x7_1 : Int) p16 q16; obtain rfl := k32_openM hM16; have hx16_0 : wr.cell? ⟨go16, (x7_1 : Int).toNat * 5, none⟩ = some (.string ((rd_T32 x6_1 x7_1).f0)) := hcc16 0 _ rfl; have hx16_1 : wr.cell? ⟨go16, (x7_1 : Int).toNat * 5 + 1, none⟩ = some (.int .i64 ((rd_T32 x6_1 x7_1).f1)) := hcc16 1 _ rfl; have hx16_2 : wr.cell? ⟨go16, (x7_1 : Int).toNat * 5 + 2, none⟩ = some (.int .i64 ((rd_T32 x6_1 x7_1).f2)) := hcc16 2 _ rfl; have hx16_3 : wr.cell? ⟨go16, (x7_1 : Int).toNat * 5 + 3, none⟩ = some (.int .i64 ((rd_T32 x6_1 x7_1).f3)) := hcc16 3 _ rfl; have hx16_4 : wr.cell? ⟨go16, (x7_1 : Int).toNat * 5 + 4, none⟩ = some (.int .i64 ((rd_T32 x6_1 x7_1).f4)) := hcc16 4 _ rfl; have hf16_0 : wr.frozen? ⟨go16, (x7_1 : Int).toNat * 5, none⟩ = false := hfr16 0; have hf16_1 : wr.frozen? ⟨go16, (x7_1 : Int).toNat * 5 + 1, none⟩ = false := hfr16 1; have hf16_2 : wr.frozen? ⟨go16, (x7_1 : Int).toNat * 5 + 2, none⟩ = false := hfr16 2; have hf16_3 : wr.frozen? ⟨go16, (x7_1 : Int).toNat * 5 + 3, none⟩ = false := hfr16 3; have hf16_4 : wr.frozen? ⟨go16, (x7_1 : Int).toNat * 5 + 4, none⟩ = false := hfr16 4; clear hcl16 hcc16 hfr16 hM16; replace p16 := eq_true p16; replace q16 := eq_true q16; have HX17 := Aside0.mk (show Kd.R k32 32 wr w.heap.size (fun _ => True) (.slice (some ⟨go16, 0, none⟩) x6_1.length co16) x6_1 from (by (with_reducible repeat (first | apply Kd.R_alloc | apply Kd.R_drewN | apply Kd.R_drew)); exact HO_6.out)); obtain ⟨ce17, hcl17, hM17, hcc17, hfr17⟩ := Kd.R_elem HX17.out z32 (x7_1 : Int) (of_decide_eq_true (by first | (with_reducible assumption) | assumption)) (by have h_ : (x7_1 : Int) < ((x6_1.length : Int) : Int) := of_decide_eq_true (by first | (with_reducible assumption) | assumption); first | exact h_ | (have e_ := (Kd.R_reads' HO_6.out).1; omega) | simpa using h_); obtain rfl := k32_openM hM17; have HP17 := Kd.R_seg HX17.out (x7_1 : Int) (of_decide_eq_true (by first | (with_reducible assumption) | assumption)) (by have h_ : (x7_1 : Int) < ((x6_1.length : Int) : Int) := of_decide_eq_true (by first | (with_reducible assumption) | assumption); first | exact h_ | (have e_ := (Kd.R_reads' HO_6.out).1; omega) | simpa using h_) (seg := [.string (rdOf ByteArray.empty l1 x7_1)]) (j := 0) hcl17 hcc17 (show 1 ≤ 5 from by decide) (x' := (⟨rdOf ByteArray.empty l1 x7_1, (rd_T32 x6_1 x7_1).f1, (rd_T32 x6_1 x7_1).f2, (rd_T32 x6_1 x7_1).f3, (rd_T32 x6_1 x7_1).f4⟩ : S32)) (k32_mkM _ _ _ (⟨rdOf ByteArray.empty l1 x7_1, (rd_T32 x6_1 x7_1).f1, (rd_T32 x6_1 x7_1).f2, (rd_T32 x6_1 x7_1).f3, (rd_T32 x6_1 x7_1).f4⟩ : S32) ) (fun _ hk => hk); have hx17_0 := hcc17 0 _ rfl; (try simp only [show (k32).sz = 5 from rfl, Nat.mul_one, Nat.add_zero] at hx17_0); have hf17_0 := hfr17 0; (try simp only [show (k32).sz = 5 from rfl, Nat.mul_one, Nat.add_zero] at hf17_0); clear hcl17 hcc17 hfr17 hM17) | ((with_reducible refine gate_store (t := 9) (p := 39) rfl ?_); refine store_event (t := 9) (p := 39) (v := ?vo_w18) (w1 := (wr.setCell ⟨go16, (x7_1 : Int).toNat * 5, none⟩ (.string (rdOf ByteArray.empty l1 x7_1)))) ?hg ?ho ?hn ?hr ?_; (case ho => rfl); (case hg => rfl); (case hn => rfl); (case hr => first | (go_simp; done) | (go_simp; rfl)); intro w18 hw; have hg : wr.grownBy w18 (some go16) := (by rw [hw]; exact HP17.2); have hp_ : Kd.R k32 32 w18 w.heap.size (fun _ => True) (.slice (some ⟨go16, 0, none⟩) x6_1.length co16) y170 := (by rw [hw, Ny170.out]; exact HP17.1); clear HP17; have n0_ := Aside0.mk (hp_); have n1_ := Aside0.mk ((by rw [hw]; exact below_set (HB.out) GB16.out : Below w.heap.size w w18)); clear HO_6; clear HB; have HO_6 := n0_; have HB := n1_; clear n0_ n1_; clear hg hw hp_))
                    go_roundg k1
                    case measure => have := HK1.out; omega
                    case rel => exact ⟨(y170), (wrap64 (x7_1 + 1)), (by first | rfl | (simp; done) | (simp [*]; done)), H', ⟨by have := HK1.out; omega⟩, ⟨by (with_reducible repeat (first | apply Kd.R_alloc | apply Kd.R_drewN | apply Kd.R_drew)); exact HO_6.out⟩, ⟨by repeat (first | (with_reducible first | exact HB.out | apply below_alloc | apply pw_below_drewN | apply below_drew1) | exact HB.out)⟩⟩
                  · rw [if_neg c15] at H
                    exact absurd H (by simp)
                · replace c14 := Bool.eq_false_iff.mpr c14
                  subst c14
                  have H1 : (some (([] : List (S32)), 1)) = some (r1, r2) := by rw [if_neg (show ¬ (false = true) by decide)] at H; exact H
                  clear H
                  have H := H1
                  clear H1
                  simp only [Option.some.injEq, Prod.mk.injEq] at H
                  obtain ⟨rfl, rfl⟩ := H
                  have p167 : 0 ≤ (x7_1 : Int) := of_decide_eq_true (by first | (with_reducible assumption) | assumption)
                  have q167 : x7_1 < (l1.length : Int) := of_decide_eq_true (by first | (with_reducible assumption) | assumption)
                  obtain ⟨ad167, e167, hx167_0⟩ := Kd.at_string HR1.out x7_1 p167 q167
                  cases e167
                  replace hx167_0 := (HB.out.cell (World.block_lt_of_cell? w _ hx167_0)).trans hx167_0
                  replace p167 := eq_true p167
                  replace q167 := eq_true q167
                  go_wp2_with (first | ((with_reducible refine gate_callee (f := 17) rfl ?_); refine goesL_ (some 30) rfl rfl Tryd.func17 (by kernel_rfl) rfl #[.string (rdOf ByteArray.empty l1 x7_1)] rfl (by (try simp only [List.map_toArray, List.map_cons, List.map_nil]); first | done | rfl | (simp only [List.length_drop, List.length_take]; rfl)) ?_; (with_reducible refine (ringworkref01_Name.calls k1 (rdOf ByteArray.empty l1 x7_1) false _ A13.out).mono ?_); rintro e w' ⟨rfl, ⟨nd, rfl⟩⟩; refine ⟨_, rfl, ?_⟩))
                  go_ret2
                  exact ⟨_, by first | rfl | (simp [errW_none, errW_some] <;> rfl) | (simp [*, errW_none, errW_some] <;> rfl), by first | exact Kd.R_nil _ _ _ _ _ | exact Kd.N_nil _ _ _ _ _ | exact Kd.V_nil _ _ _ _ _ | exact Kd.Q_nil _ _ _ _ _ | exact Kd.S_nil _ _ _ _ _, by repeat (first | (with_reducible first | exact HB.out | apply below_alloc | apply pw_below_drewN | apply below_drew1) | exact HB.out)⟩
              · rw [if_neg c12] at H
                exact absurd H (by simp)
            · rw [if_neg c11] at H
              have c11b0 : decide (x7_1 < (l1.length : Int)) = false := decide_eq_false c11
              clear c11
              have H' := Aside0.mk H
              clear H
              go_wp2
              go_loopg [8] k1 (fun kq v8 w' => ∃ (x8_2 : Int), v8 = .int .i64 x8_2 ∧ Aside0 (ringworkref01_Rename.l1 kq x6_1 x8_2 = some (r1, r2)) ∧ Aside0 (kq ≤ k1) ∧ Aside0 (Kd.R k32 32 w' w.heap.size (fun _ => True) v165 x6_1) ∧ Aside0 (Below w.heap.size w w'))
              case atStart => exact ⟨(0), (by first | rfl | (simp; done) | (simp [*]; done)), H', ⟨Nat.le_refl _⟩, ⟨by (with_reducible repeat (first | apply Kd.R_alloc | apply Kd.R_drewN | apply Kd.R_drew)); exact HO_6.out⟩, ⟨by repeat (first | (with_reducible first | exact HB.out | apply below_alloc | apply pw_below_drewN | apply below_drew1) | exact HB.out)⟩⟩
              case round =>
                clear H'
                try clear c1
                try clear p1
                try clear q1
                try clear hx1
                try clear c2
                try clear p2
                try clear c3
                try clear c4
                try clear c5
                try clear c5b0
                try clear c5b1
                try clear c5b2
                try clear c6
                try clear p6
                try clear c11
                try clear c11b0
                try clear c12
                try clear c12b0
                try clear c14
                try clear c15
                try clear c15b0
                try clear c16
                try clear p16
                try clear q16
                try clear hx16
                try clear hf16
                try clear c17
                try clear hx17
                try clear hf17
                try clear hx167_0
                try clear hx169_0
                try clear hx16_0
                try clear hx16_1
                try clear hx16_2
                try clear hx16_3
                try clear hx16_4
                try clear hx17_0
                try clear p16
                try clear p167
                try clear p169
                try clear p2
                try clear q16
                try clear q167
                try clear q169
                obtain ⟨x8_2, rfl, HA, HK2, HO_6, HB⟩ := hrel
                cases gk with
                | zero => exact absurd HA.out (by simp [ringworkref01_Rename.l1])
                | succ k2 =>
                  have H := HA.out
                  clear HA
                  simp only [ringworkref01_Rename.l1] at H
                  by_cases c19 : x8_2 < (x6_1.length : Int)
                  · rw [if_pos c19] at H
                    have c19b0 : decide (x8_2 < (x6_1.length : Int)) = true := decide_eq_true c19
                    clear c19
                    by_cases c20 : 0 ≤ x8_2
                    · rw [if_pos c20] at H
                      have c20b0 : decide (0 ≤ x8_2) = true := decide_eq_true c20
                      clear c20
                      replace H := Option.bind_eq_some_iff.mp H
                      obtain ⟨t172, A210, H⟩ := H
                      replace H : (if t172 = x8_2 then (ringworkref01_Rename.l1 k2 x6_1 (wrap64 (x8_2 + 1))) else (some (([] : List (S32)), 6))) = some (r1, r2) := H
                      have A21 := Aside0.mk A210
                      clear A210
                      by_cases c22 : t172 = x8_2
                      · rw [if_pos c22] at H
                        have c22b0 : (t172 == x8_2) = true := beq_iff_eq.mpr c22
                        have c22b1 : (t172 != x8_2) = false := bne_eq_false_iff_eq.mpr c22
                        clear c22
                        have H' := Aside0.mk H
                        clear H
                        obtain ⟨Ao23, co23, eo23⟩ := Kd.R_slice HO_6.out
                        subst eo23
                        have p171 : 0 ≤ (x8_2 : Int) := of_decide_eq_true (by first | (with_reducible assumption) | assumption)
                        have q171 : x8_2 < (x6_1.length : Int) := of_decide_eq_true (by first | (with_reducible assumption) | assumption)
                        obtain ⟨ad171, e171, hx171_0, hx171_1, hx171_2, hx171_3, hx171_4⟩ := at_T32 (Kd.R_reads' HO_6.out).2.2 x8_2 p171 q171
                        cases e171
                        replace p171 := eq_true p171
                        replace q171 := eq_true q171
                        go_wp2_with (first | ((with_reducible refine gate_callee (f := 72) rfl ?_); refine goesL_ (some 52) rfl rfl Tryd.func72 (by kernel_rfl) rfl #[.slice (some ad171) x6_1.length co23, .string ((rd_T32 x6_1 x8_2).f0)] rfl (by (try simp only [List.map_toArray, List.map_cons, List.map_nil]); first | done | rfl | (simp only [List.length_drop, List.length_take]; rfl)) ?_; (with_reducible refine (ringworkref01_index.calls k2 _ _ x6_1 ((rd_T32 x6_1 x8_2).f0) t172 _ ?side1 ?side2 A21.out).mono ?_); (case side1 => repeat (first | exact (Kd.R_reads' HO_6.out).2.2 | (with_reducible refine Kd.C_alloc ?_ _) | (with_reducible refine Kd.C_drewN ?_ _) | (with_reducible refine Kd.C_drew ?_))); (case side2 => exact (Kd.R_reads' HO_6.out).2.1); rintro e w' ⟨rfl, ⟨nd, rfl⟩⟩; refine ⟨_, rfl, ?_⟩))
                        go_roundg k2
                        case measure => have := HK1.out; have := HK2.out; omega
                        case rel => exact ⟨(wrap64 (x8_2 + 1)), (by first | rfl | (simp; done) | (simp [*]; done)), H', ⟨by have := HK1.out; have := HK2.out; omega⟩, ⟨by (with_reducible repeat (first | apply Kd.R_alloc | apply Kd.R_drewN | apply Kd.R_drew)); exact HO_6.out⟩, ⟨by repeat (first | (with_reducible first | exact HB.out | apply below_alloc | apply pw_below_drewN | apply below_drew1) | exact HB.out)⟩⟩
                      · rw [if_neg c22] at H
                        have c22b0 : (t172 == x8_2) = false := beq_eq_false_iff_ne.mpr c22
                        have c22b1 : (t172 != x8_2) = true := bne_iff_ne.mpr c22
                        simp only [Option.some.injEq, Prod.mk.injEq] at H
                        obtain ⟨rfl, rfl⟩ := H
                        obtain ⟨Ao24, co24, eo24⟩ := Kd.R_slice HO_6.out
                        subst eo24
                        have p171 : 0 ≤ (x8_2 : Int) := of_decide_eq_true (by first | (with_reducible assumption) | assumption)
                        have q171 : x8_2 < (x6_1.length : Int) := of_decide_eq_true (by first | (with_reducible assumption) | assumption)
                        obtain ⟨ad171, e171, hx171_0, hx171_1, hx171_2, hx171_3, hx171_4⟩ := at_T32 (Kd.R_reads' HO_6.out).2.2 x8_2 p171 q171
                        cases e171
                        replace p171 := eq_true p171
                        replace q171 := eq_true q171
                        go_wp2_with (first | ((with_reducible refine gate_callee (f := 72) rfl ?_); refine goesL_ (some 52) rfl rfl Tryd.func72 (by kernel_rfl) rfl #[.slice (some ad171) x6_1.length co24, .string ((rd_T32 x6_1 x8_2).f0)] rfl (by (try simp only [List.map_toArray, List.map_cons, List.map_nil]); first | done | rfl | (simp only [List.length_drop, List.length_take]; rfl)) ?_; (with_reducible refine (ringworkref01_index.calls k2 _ _ x6_1 ((rd_T32 x6_1 x8_2).f0) t172 _ ?side1 ?side2 A21.out).mono ?_); (case side1 => repeat (first | exact (Kd.R_reads' HO_6.out).2.2 | (with_reducible refine Kd.C_alloc ?_ _) | (with_reducible refine Kd.C_drewN ?_ _) | (with_reducible refine Kd.C_drew ?_))); (case side2 => exact (Kd.R_reads' HO_6.out).2.1); rintro e w' ⟨rfl, ⟨nd, rfl⟩⟩; refine ⟨_, rfl, ?_⟩))
                        go_ret2
                        exact ⟨_, by first | rfl | (simp [errW_none, errW_some] <;> rfl) | (simp [*, errW_none, errW_some] <;> rfl), by first | exact Kd.R_nil _ _ _ _ _ | exact Kd.N_nil _ _ _ _ _ | exact Kd.V_nil _ _ _ _ _ | exact Kd.Q_nil _ _ _ _ _ | exact Kd.S_nil _ _ _ _ _, by repeat (first | (with_reducible first | exact HB.out | apply below_alloc | apply pw_below_drewN | apply below_drew1) | exact HB.out)⟩
                    · rw [if_neg c20] at H
                      exact absurd H (by simp)
                  · rw [if_neg c19] at H
                    have c19b0 : decide (x8_2 < (x6_1.length : Int)) = false := decide_eq_false c19
                    clear c19
                    simp only [Option.some.injEq, Prod.mk.injEq] at H
                    obtain ⟨rfl, rfl⟩ := H
                    obtain ⟨Ao25, co25, eo25⟩ := Kd.R_slice HO_6.out
                    subst eo25
                    go_wp2
                    go_ret2
                    exact ⟨_, by first | rfl | (simp [errW_none, errW_some] <;> rfl) | (simp [*, errW_none, errW_some] <;> rfl), by (with_reducible repeat (first | apply Kd.R_alloc | apply Kd.R_drewN | apply Kd.R_drew)); exact HO_6.out, by repeat (first | (with_reducible first | exact HB.out | apply below_alloc | apply pw_below_drewN | apply below_drew1) | exact HB.out)⟩
      · rw [if_neg c6] at H
        exact absurd H (by simp)
    · rw [if_neg c5] at H
      have c5b0 : ((l1.length : Int) == (l0.length : Int)) = false := beq_eq_false_iff_ne.mpr c5
      have c5b1 : ((l1.length : Int) != (l0.length : Int)) = true := bne_iff_ne.mpr c5
      have c5b2 : (l1.length == l0.length) = false := by first | simpa using c5 | (simp at c5 ⊢; omega)
      simp only [Option.some.injEq, Prod.mk.injEq] at H
      obtain ⟨rfl, rfl⟩ := H
      go_enter Tryd.func36, Tryd.ntmps36
      go_wp2_with (first | ((with_reducible refine gate_callee (f := 21) rfl ?_); refine goesL_ (some 10) rfl rfl Tryd.func21 (by kernel_rfl) rfl #[.slice A0 l0.length c0] rfl (by (try simp only [List.map_toArray, List.map_cons, List.map_nil]); first | done | rfl | (simp only [List.length_drop, List.length_take]; rfl)) ?_; (with_reducible refine (ringworkref01_ValidItems.calls k _ _ l0 true _ ?side1 ?side2 A3.out).mono ?_); (case side1 => repeat (first | exact HR0.out | (with_reducible refine Kd.C_alloc ?_ _) | (with_reducible refine Kd.C_drewN ?_ _) | (with_reducible refine Kd.C_drew ?_))); (case side2 => exact HC0.out); rintro e w26 ⟨rfl, hb⟩; refine ⟨_, rfl, ?_⟩; have n0_ := Aside0.mk (below_step (by repeat (first | (with_reducible first | exact HB.out | apply below_alloc | apply pw_below_drewN | apply below_drew1) | exact HB.out)) hb); clear HB; have HB := n0_; clear n0_; (try clear hb); (try clear hb2); (try clear hk); (try clear hi)))
      go_ret2
      exact ⟨_, by first | rfl | (simp [errW_none, errW_some] <;> rfl) | (simp [*, errW_none, errW_some] <;> rfl), by first | exact Kd.R_nil _ _ _ _ _ | exact Kd.N_nil _ _ _ _ _ | exact Kd.V_nil _ _ _ _ _ | exact Kd.Q_nil _ _ _ _ _ | exact Kd.S_nil _ _ _ _ _, by repeat (first | (with_reducible first | exact HB.out | apply below_alloc | apply pw_below_drewN | apply below_drew1) | exact HB.out)⟩
  · replace c4 := Bool.eq_false_iff.mpr c4
    subst c4
    have H1 : (some (([] : List (S32)), 1)) = some (r1, r2) := by rw [if_neg (show ¬ (false = true) by decide)] at H; exact H
    clear H
    have H := H1
    clear H1
    simp only [Option.some.injEq, Prod.mk.injEq] at H
    obtain ⟨rfl, rfl⟩ := H
    go_enter Tryd.func36, Tryd.ntmps36
    go_wp2_with (first | ((with_reducible refine gate_callee (f := 21) rfl ?_); refine goesL_ (some 10) rfl rfl Tryd.func21 (by kernel_rfl) rfl #[.slice A0 l0.length c0] rfl (by (try simp only [List.map_toArray, List.map_cons, List.map_nil]); first | done | rfl | (simp only [List.length_drop, List.length_take]; rfl)) ?_; (with_reducible refine (ringworkref01_ValidItems.calls k _ _ l0 false _ ?side1 ?side2 A3.out).mono ?_); (case side1 => repeat (first | exact HR0.out | (with_reducible refine Kd.C_alloc ?_ _) | (with_reducible refine Kd.C_drewN ?_ _) | (with_reducible refine Kd.C_drew ?_))); (case side2 => exact HC0.out); rintro e w27 ⟨rfl, hb⟩; refine ⟨_, rfl, ?_⟩; have n0_ := Aside0.mk (below_step (by repeat (first | (with_reducible first | exact HB.out | apply below_alloc | apply pw_below_drewN | apply below_drew1) | exact HB.out)) hb); clear HB; have HB := n0_; clear n0_; (try clear hb); (try clear hb2); (try clear hk); (try clear hi)))
    go_ret2
    exact ⟨_, by first | rfl | (simp [errW_none, errW_some] <;> rfl) | (simp [*, errW_none, errW_some] <;> rfl), by first | exact Kd.R_nil _ _ _ _ _ | exact Kd.N_nil _ _ _ _ _ | exact Kd.V_nil _ _ _ _ _ | exact Kd.Q_nil _ _ _ _ _ | exact Kd.S_nil _ _ _ _ _, by repeat (first | (with_reducible first | exact HB.out | apply below_alloc | apply pw_below_drewN | apply below_drew1) | exact HB.out)⟩


end Go.Proofs.YtibgjfeifpanhaaDoor.PItemValid

set_option linter.unusedVariables false
set_option linter.unusedSimpArgs false
namespace Go.Proofs.YtibgjfeifpanhaaDoor.B
open Go.RowKit Go.Proofs.YtibgjfeifpanhaaDoorW.PrintWords PItemValid

/-- No name has come before. -/
def apartL : List (List UInt8) → List S32 → Bool
  | _, [] => true
  | S, x :: r => !decide (nmI x ∈ S) && apartL (S ++ [nmI x]) r
theorem seenL_apart : ∀ (l : List S32) (S : List (List UInt8)), seenL S l = (l.all okI && apartL S l)
  | [], S => rfl
  | x :: r, S => by
    rw [seenL, apartL, seenL_apart r, List.all_cons]
    cases okI x <;> cases r.all okI <;> cases decide (nmI x ∈ S) <;> simp
theorem apartL_iff : ∀ (l : List S32) (S : List (List UInt8)), apartL S l = true ↔ (l.map nmI).Nodup ∧ ∀ x ∈ l, nmI x ∉ S
  | [], S => by simp [apartL]
  | x :: r, S => by
    rw [apartL, Bool.and_eq_true, apartL_iff r, List.map_cons, List.nodup_cons]
    constructor
    · rintro ⟨h1, h2, h3⟩
      have h1' : nmI x ∉ S := by simpa using h1
      refine ⟨⟨fun h => ?_, h2⟩, fun y hy => ?_⟩
      · obtain ⟨y, hy, e⟩ := List.mem_map.1 h
        exact h3 y hy (by rw [e]; simp)
      · rcases List.mem_cons.1 hy with rfl | hy
        · exact h1'
        · exact fun h => h3 y hy (List.mem_append_left _ h)
    · rintro ⟨⟨h1, h2⟩, h3⟩
      refine ⟨by simpa using h3 x (List.mem_cons_self ..), h2, fun y hy h => ?_⟩
      rcases List.mem_append.1 h with h | h
      · exact h3 y (List.mem_cons_of_mem _ hy) h
      · have e : nmI y = nmI x := by simpa using h
        exact h1 (e ▸ List.mem_map_of_mem hy)
theorem nodup_len {α : Type} [DecidableEq α] : ∀ (a b : List α), a.Nodup → (∀ x ∈ a, x ∈ b) → a.length ≤ b.length
  | [], b, _, _ => Nat.zero_le _
  | x :: a, b, hn, hs => by
    rw [List.nodup_cons] at hn
    have hx := hs x (List.mem_cons_self ..)
    have h := nodup_len a (b.erase x) hn.2 fun y hy => (List.mem_erase_of_ne (fun e => hn.1 (by rw [← e]; exact hy))).2 (hs y (List.mem_cons_of_mem _ hy))
    rw [List.length_erase_of_mem hx] at h
    have := List.length_pos_of_mem hx
    simp only [List.length_cons]
    omega
theorem picks_mem (l : List S32) : ∀ (ns : List ByteArray) (out : List S32), picks l ns = some out → ∀ x ∈ out, x ∈ l
  | [], out, h => by simp [picks] at h; subst h; simp
  | n :: r, out, h => by
    rw [picks] at h
    split at h
    · cases h
    · cases hp : picks l r with
      | none => rw [hp] at h; cases h
      | some o =>
        rw [hp] at h
        simp only [Option.map_some, Option.some.injEq] at h
        subst h
        intro x hx
        rcases List.mem_cons.1 hx with rfl | hx
        · have h1 := idxN_lt n.data.toList l 0
          have h2 : (idxN n.data.toList 0 l).toNat < l.length := by omega
          rw [List.getD_eq_getElem?_getD, List.getElem?_eq_getElem h2]
          exact List.getElem_mem h2
        · exact picks_mem l r o hp x hx
theorem valid_all {l : List S32} (h : validF l = true) : (l.length ≤ 8 ∧ 1 ≤ l.length) ∧ l.all okI = true ∧ (l.map nmI).Nodup := by
  unfold validF at h
  simp only [Bool.and_eq_true, decide_eq_true_eq, seenL_apart, apartL_iff] at h
  exact ⟨⟨by omega, by omega⟩, h.2.1, h.2.2.1⟩
/-- Items of valid ones: valid if there is one and no name twice. -/
theorem valid_sub {l out : List S32} (h : validF l = true) (hs : ∀ x ∈ out, x ∈ l) (hne : out ≠ []) : validF out = apartL [] out := by
  obtain ⟨⟨h8, _⟩, hok, _⟩ := valid_all h
  have hall : out.all okI = true := List.all_eq_true.2 fun x hx => List.all_eq_true.1 hok x (hs x hx)
  unfold validF
  rw [seenL_apart, hall, Bool.true_and, show decide (1 ≤ (out.length : Int)) = true from decide_eq_true (by have := List.length_pos_iff.2 hne; omega), Bool.true_and]
  cases ha : apartL [] out with
  | false => simp
  | true =>
    have h1 := nodup_len (out.map nmI) (l.map nmI) ((apartL_iff out []).1 ha).1 (fun y hy => by
      obtain ⟨x, hx, rfl⟩ := List.mem_map.1 hy
      exact List.mem_map_of_mem (hs x hx))
    simp only [List.length_map] at h1
    rw [decide_eq_true (by omega)]
    rfl
theorem apart_loop (out : List S32) (i : Nat) (h1 : i < out.length) (k : Nat) (hk : 21 ≤ k) (hl : out.length ≤ 20) :
    ∃ t, ringworkref01_index.f k out ((rd_T32 out (i : Int)).f0) = some t ∧ (decide (t = (i : Int)) = !decide (nmI (out[i]) ∈ (out.take i).map nmI)) := by
  refine ⟨_, ref_index_is out hl _ k hk, ?_⟩
  rw [rd32_get out i h1, show out[i].f0.data.toList = nmI out[i] from rfl]
  have hh := idxN_here out[i] (out.drop (i + 1)) (out.take i) 0
  rw [← List.drop_eq_getElem_cons h1, List.take_append_drop, List.length_take, Nat.min_eq_left (by omega), Nat.zero_add] at hh
  by_cases e : nmI out[i] ∈ (out.take i).map nmI
  · rw [decide_eq_true e, decide_eq_false (fun h => (hh.1 h) e)]; rfl
  · rw [decide_eq_false e, decide_eq_true (hh.2 e)]; rfl
theorem apart_step (out : List S32) (i : Nat) (h1 : i < out.length) : apartL ((out.take i).map nmI) (out.drop i) = (!decide (nmI (out[i]) ∈ (out.take i).map nmI) && apartL ((out.take (i + 1)).map nmI) (out.drop (i + 1))) := by
  have hT : (out.take (i + 1)).map nmI = (out.take i).map nmI ++ [nmI out[i]] := by rw [List.take_succ_eq_append_getElem h1, List.map_append]; rfl
  rw [List.drop_eq_getElem_cons h1, apartL, hT]
theorem nar_end (out : List S32) (hl : out.length ≤ 20) (n : Nat) : ∀ (i k : Nat), out.length - i ≤ n → i ≤ out.length → n + 22 ≤ k →
    ringworkref01_Narrow.l1 k out (i : Int) = some (if apartL ((out.take i).map nmI) (out.drop i) = true then (if out = [] then ([], 11) else (out, 0)) else ([], 6)) := by
  have hz : ((out.length : Int) = 0) ↔ out = [] := ⟨fun h => List.eq_nil_of_length_eq_zero (by omega), fun h => by rw [h]; rfl⟩
  induction n with
  | zero =>
    intro i k hn hi hk
    obtain ⟨k', rfl⟩ : ∃ k', k = k' + 1 := ⟨k - 1, by omega⟩
    unfold ringworkref01_Narrow.l1
    rw [if_neg (by omega), List.drop_eq_nil_of_le (by omega), apartL, if_pos rfl]
    by_cases h : out = []
    · rw [if_pos (hz.2 h), if_pos h]
    · rw [if_neg (fun e => h (hz.1 e)), if_neg h]
  | succ n IH =>
    intro i k hn hi hk
    obtain ⟨k', rfl⟩ : ∃ k', k = k' + 1 := ⟨k - 1, by omega⟩
    unfold ringworkref01_Narrow.l1
    by_cases h1 : i < out.length
    · obtain ⟨t, ht, htd⟩ := apart_loop out i h1 k' (by omega) hl
      rw [if_pos (by omega), if_pos (by omega), ht, apart_step out i h1, ← htd]
      simp only [Option.bind_some]
      by_cases e : t = (i : Int)
      · rw [if_pos e, decide_eq_true e, Bool.true_and, w64 (by omega) (by omega)]
        have := IH (i + 1) k' (by omega) (by omega) (by omega)
        simpa using this
      · rw [if_neg e, decide_eq_false e, Bool.false_and]
        rfl
    · rw [if_neg (by omega), List.drop_eq_nil_of_le (by omega), apartL, if_pos rfl]
      by_cases h : out = []
      · rw [if_pos (hz.2 h), if_pos h]
      · rw [if_neg (fun e => h (hz.1 e)), if_neg h]
theorem rdOf_get (l : List ByteArray) (i : Nat) (h : i < l.length) : rdOf ByteArray.empty l (i : Int) = l[i] := by
  simp [rdOf, List.getD_eq_getElem?_getD, List.getElem?_eq_getElem h]
def narEnd (out : List S32) : List S32 × Int := if apartL [] out = true then (if out = [] then ([], 11) else (out, 0)) else ([], 6)
theorem nar_loop (l : List S32) (names : List ByteArray) (hl : l.length ≤ 20) (hn20 : names.length ≤ 20) (n : Nat) : ∀ (acc : List S32) (i k : Nat), names.length - i ≤ n → i ≤ names.length → acc.length = i → n + 50 ≤ k →
    ringworkref01_Narrow.l0 k l names acc (i : Int) = some (match picks l (names.drop i) with | none => ([], 5) | some o => narEnd (acc ++ o)) := by
  induction n with
  | zero =>
    intro acc i k hn hi ha hk
    obtain ⟨k', rfl⟩ : ∃ k', k = k' + 1 := ⟨k - 1, by omega⟩
    unfold ringworkref01_Narrow.l0
    rw [if_neg (by omega), List.drop_eq_nil_of_le (by omega)]
    have := nar_end acc (by omega) 20 0 k' (by omega) (by omega) (by omega)
    simpa [picks, narEnd] using this
  | succ n IH =>
    intro acc i k hn hi ha hk
    by_cases h1 : i < names.length
    · obtain ⟨k', rfl⟩ : ∃ k', k = k' + 1 := ⟨k - 1, by omega⟩
      unfold ringworkref01_Narrow.l0
      rw [if_pos (by omega), if_pos (by omega), rdOf_get names i h1, ref_index_is l hl _ k' (by omega), List.drop_eq_getElem_cons h1, picks]
      simp only [Option.bind_some]
      have hlt := idxN_lt names[i].data.toList l 0
      generalize idxN names[i].data.toList 0 l = q at hlt
      by_cases hq : q < 0
      · rw [if_pos hq, if_pos hq]
      · obtain ⟨m, rfl⟩ : ∃ m : Nat, q = m := ⟨q.toNat, by omega⟩
        have hm : m < l.length := by omega
        rw [if_neg hq, if_neg hq, if_pos (by omega), if_pos (by omega), if_pos (by omega), rd32_get l m hm, w64 (by omega) (by omega)]
        have := IH (acc ++ [l[m]]) (i + 1) k' (by omega) (by omega) (by simp; omega) (by omega)
        rw [show ((i : Int) + 1) = ((i + 1 : Nat) : Int) by omega, this, show ((m : Int)).toNat = m from rfl, List.getD_eq_getElem?_getD, List.getElem?_eq_getElem hm]
        cases picks l (names.drop (i + 1)) with
        | none => rfl
        | some o => simp
    · obtain ⟨k', rfl⟩ : ∃ k', k = k' + 1 := ⟨k - 1, by omega⟩
      unfold ringworkref01_Narrow.l0
      rw [if_neg (by omega), List.drop_eq_nil_of_le (by omega)]
      have := nar_end acc (by omega) 20 0 k' (by omega) (by omega) (by omega)
      simpa [picks, narEnd] using this
theorem ref_Narrow_is (l : List S32) (names : List ByteArray) (hl : l.length ≤ 20) (hn : names.length ≤ 20) : ringworkref01_Narrow.f 100 l names = some (narF l names) := by
  unfold ringworkref01_Narrow.f narF
  rw [ref_ValidItems_is l hl 100 (by omega)]
  simp only [Option.bind_some]
  cases hv : validF l with
  | false => rfl
  | true =>
    rw [if_pos rfl, if_pos rfl]
    have := nar_loop l names hl hn 20 [] 0 100 (by omega) (by omega) rfl (by omega)
    refine Eq.trans this ?_
    rw [List.drop_zero]
    cases hp : picks l names with
    | none => rfl
    | some o =>
      simp only [List.nil_append]
      unfold narEnd
      by_cases h : o = []
      · subst h; rfl
      · rw [if_neg h, if_neg h, valid_sub hv (picks_mem l names o hp) h]
theorem names_end (l : List ByteArray) (i k : Nat) (h : 20 ≤ i ∨ l.length ≤ i) : ringworklaw01_Names.l0 (k + 2) l (i : Int) = some (decide ((l.length : Int) ≤ 20)) := by
  unfold ringworklaw01_Names.l0
  by_cases h1 : i < l.length
  · rw [if_pos (by omega), show decide ((i : Int) < 20) = false from decide_eq_false (by omega)]
    unfold ringworklaw01_Names.j1
    rw [if_neg (by simp)]
  · rw [if_neg (by omega)]
    unfold ringworklaw01_Names.j1
    rw [if_neg (by simp)]
theorem names_loop (l : List ByteArray) (n : Nat) : ∀ (i k : Nat), 20 - i ≤ n → i ≤ 20 → 2 * n + 3 ≤ k → ∃ r, ringworklaw01_Names.l0 k l (i : Int) = some r ∧ (r = true → l.length ≤ 20) := by
  induction n with
  | zero =>
    intro i k hn hi hk
    obtain ⟨k', rfl⟩ : ∃ k', k = k' + 2 := ⟨k - 2, by omega⟩
    exact ⟨_, names_end l i k' (.inl (by omega)), fun h => by have := of_decide_eq_true h; omega⟩
  | succ n IH =>
    intro i k hn hi hk
    obtain ⟨k', rfl⟩ : ∃ k', k = k' + 2 := ⟨k - 2, by omega⟩
    by_cases h0 : 20 ≤ i ∨ l.length ≤ i
    · exact ⟨_, names_end l i k' h0, fun h => by have := of_decide_eq_true h; omega⟩
    · unfold ringworklaw01_Names.l0
      rw [if_pos (by omega), show decide ((i : Int) < 20) = true from decide_eq_true (by omega)]
      unfold ringworklaw01_Names.j1
      rw [if_pos rfl, if_pos (by omega), if_pos (by omega)]
      by_cases h1 : ((rdOf ByteArray.empty l (i : Int)).size : Int) > 100
      · rw [if_pos h1]
        exact ⟨false, rfl, fun h => by cases h⟩
      · rw [if_neg h1, w64 (by omega) (by omega)]
        have := IH (i + 1) k' (by omega) (by omega) (by omega)
        simpa using this
theorem Names_calls (A : Option Addr) (c : Nat) (l : List ByteArray) (w : World) (hr : Kd.C Kd.string w A l.length l) (hc : l.length ≤ c) :
    ∃ r, (r = true → l.length ≤ 20) ∧ Calls Tryd.prog 30 #[.slice A l.length c] w fun e w' => e = .returned (.bool r) ∧ Drawn0 w w' := by
  obtain ⟨r, h1, h2⟩ := names_loop l 20 0 60 (by omega) (by omega) (by omega)
  exact ⟨r, h2, ringworklaw01_Names.calls 60 A c l r w hr hc (by simpa [ringworklaw01_Names.f] using h1)⟩
theorem same_loop (l : List S32) (hl : l.length ≤ 20) (n : Nat) : ∀ (i k : Nat), l.length - i ≤ n → i ≤ l.length → n + 2 ≤ k → ringworklaw01_SameItems.l0 k l l (i : Int) = some true := by
  induction n with
  | zero =>
    intro i k hn hi hk
    obtain ⟨k', rfl⟩ : ∃ k', k = k' + 1 := ⟨k - 1, by omega⟩
    unfold ringworklaw01_SameItems.l0
    rw [if_neg (by omega)]
  | succ n IH =>
    intro i k hn hi hk
    obtain ⟨k', rfl⟩ : ∃ k', k = k' + 1 := ⟨k - 1, by omega⟩
    unfold ringworklaw01_SameItems.l0
    by_cases h1 : i < l.length
    · rw [if_pos (by omega), if_pos (by omega), if_pos (by omega), if_neg (by simp), w64 (by omega) (by omega)]
      have := IH (i + 1) k' (by omega) (by omega) (by omega)
      simpa using this
    · rw [if_neg (by omega)]
theorem SameItems_is (l : List S32) (hl : l.length ≤ 20) : ringworklaw01_SameItems.f 30 l l = some true := by
  unfold ringworklaw01_SameItems.f
  rw [if_pos rfl]
  exact same_loop l hl 20 0 30 (by omega) (by omega) (by omega)
/-- P1.5: a row that fits is, picked by names, one that fits what Narrow gives. -/
theorem fitsL_at : ∀ (l : List S32) (r : List S29) (m : Nat) (h1 : m < l.length) (h2 : m < r.length), fitsL l r = true → holdsF l[m] r[m] = true
  | x :: l, y :: r, 0, _, _, h => by
    rw [fitsL, Bool.and_eq_true] at h
    exact h.1
  | x :: l, y :: r, m + 1, h1, h2, h => by
    rw [fitsL, Bool.and_eq_true] at h
    simpa using fitsL_at l r m (by simpa using h1) (by simpa using h2) h.2
theorem picks_fit {l : List S32} {r : List S29} (hlr : l.length = r.length) (hf : fitsL l r = true) : ∀ (ns : List ByteArray) (out : List S32), picks l ns = some out → ∃ p, picksV l r ns = some p ∧ p.length = out.length ∧ fitsL out p = true
  | [], out, h => by simp [picks] at h; subst h; exact ⟨[], rfl, rfl, rfl⟩
  | n :: ns, out, h => by
    rw [picks] at h
    rw [picksV]
    split at h
    · cases h
    · rename_i hq
      cases hp : picks l ns with
      | none => rw [hp] at h; cases h
      | some o =>
        rw [hp] at h
        simp only [Option.map_some, Option.some.injEq] at h
        subst h
        obtain ⟨p, h1, h2, h3⟩ := picks_fit hlr hf ns o hp
        have hlt := idxN_lt n.data.toList l 0
        have hm : (idxN n.data.toList 0 l).toNat < l.length := by omega
        refine ⟨r.getD (idxN n.data.toList 0 l).toNat z29 :: p, by rw [if_neg hq, h1]; rfl, by simp [h2], ?_⟩
        rw [fitsL, h3, Bool.and_true, List.getD_eq_getElem?_getD, List.getElem?_eq_getElem hm, List.getD_eq_getElem?_getD, List.getElem?_eq_getElem (hlr ▸ hm)]
        exact fitsL_at l r _ hm (hlr ▸ hm) hf
theorem nar_picks {l : List S32} {names : List ByteArray} (h : (narF l names).2 = 0) : picks l names = some (narF l names).1 ∧ validF (narF l names).1 = true := by
  unfold narF at h ⊢
  split at h
  · rename_i hv
    rw [if_pos hv]
    cases hp : picks l names with
    | none => rw [hp] at h; simp at h
    | some o =>
      rw [hp] at h
      simp only at h ⊢
      by_cases h1 : o = []
      · rw [if_pos h1] at h; simp at h
      · rw [if_neg h1] at h ⊢
        by_cases h2 : validF o = true
        · rw [if_pos h2]; exact ⟨rfl, h2⟩
        · rw [if_neg h2] at h; simp at h
  · simp at h
theorem nar_fits {l : List S32} {r : List S29} {names : List ByteArray} (h : (narF l names).2 = 0) (hf : fitsF l r = true) : (pickF l r names).2 = 0 ∧ fitsF (narF l names).1 (pickF l r names).1 = true := by
  obtain ⟨hp, hv⟩ := nar_picks h
  have hf0 := hf
  unfold fitsF eqF at hf
  simp only [Bool.and_eq_true, decide_eq_true_eq] at hf
  obtain ⟨p, h1, h2, h3⟩ := picks_fit hf.2.1 hf.2.2 names _ hp
  have h8 := (valid_all hv).1.1
  unfold pickF
  rw [if_pos hf0, h1]
  simp only
  rw [if_neg (by omega)]
  refine ⟨rfl, ?_⟩
  unfold fitsF eqF
  rw [hv, h3, decide_eq_true h2.symm]
  rfl
end Go.Proofs.YtibgjfeifpanhaaDoor.B

set_option linter.unusedVariables false
set_option linter.unusedSimpArgs false
namespace Go.Proofs.YtibgjfeifpanhaaDoor.B
open Go.RowKit Go.Proofs.YtibgjfeifpanhaaDoorW.PrintWords Go.Maps PItemValid

theorem OItm_empty {w : World} {base : Nat} (hb : base ≤ w.heap.size) : OItm (w.alloc (.cells #[] 32)) base (.slice (some ⟨w.heap.size, 0, none⟩) 0 0) [] :=
  ⟨fun _ _ => trivial, [], World.ownsRow_made w #[] 0 hb (Nat.zero_le _) rfl, Reps.none _ _⟩
theorem CloneI_calls (A : Option Addr) (c : Nat) (l : List S32) (w : World) (hx : Kd.C k32 w A l.length l) (hne : 0 < l.length) (hs : l.length ≤ 1000) :
    Calls Tryd.prog 73 #[.slice A l.length c] w fun e w' => ∃ g cp, e = .returned (.slice (some ⟨g, 0, none⟩) l.length cp) ∧ w.heap.size ≤ g ∧ OItm w' w.heap.size (.slice (some ⟨g, 0, none⟩) l.length cp) l ∧ Below w.heap.size w w' := by
  have HX := Aside0.mk hx
  obtain ⟨ad, x, rfl, _⟩ := C_item hx 0 hne
  clear hx
  have hnil := fun (W : World) => Lib.run_eql_slice_nil (P := Tryd.prog) W 22 32 (some ad) l.length c 0 0 Tryd.underlying22
  go_enter Tryd.func73, Tryd.ntmps73
  go_wp2_with (first | ((with_reducible refine at_b (b := .append) (xs := #[.tmp 5, .tmp 6]) rfl ?_); go_must (refine Kd.R_append_rows k32 (w0 := w) w.heap.size rfl (.tmp 5) (.tmp 6) 22 32 (.agg #[(.string ⟨#[]⟩), (.int .i64 0), (.int .i64 0), (.int .i64 0), (.int .i64 0)]) 48 rfl Tryd.underlying22 info32 rfl (by decide) (by omega) _ [] l _ _ _ Tr (fun _ => False) rfl rfl (OItm_empty (Nat.le_refl _)) (Kd.C_below HX.out (below_alloc (Below.refl _ _) _)) (fun _ _ h => h) (fun _ h => h.elim) (fun _ _ => trivial) (below_alloc (Below.refl _ _) _) (by simp) (by simp; omega) ?_; intro v1 w1 ho hb1 hg1 hat1; have HI := Aside0.mk ho; clear ho hg1 hat1)))
  go_ret
  obtain ⟨g, cp, e, hg, _⟩ := Kd.R_form HI.out (by simpa using hne)
  have hI := HI.out
  subst e
  exact ⟨g, cp, rfl, hg, hI, hb1⟩
/-- An item with another name. -/
def ren (x : S32) (nm : ByteArray) : S32 := ⟨nm, x.f1, x.f2, x.f3, x.f4⟩
def renL : List S32 → List ByteArray → List S32
  | x :: l, n :: ns => ren x n :: renL l ns
  | l, _ => l
def okN (n : ByteArray) : Bool := nameF n.data.toList
def renF (l : List S32) (names : List ByteArray) : List S32 × Int :=
  if validF l = true then (if l.length = names.length then (if names.all okN = true then (if validF (renL l names) = true then (renL l names, 0) else ([], 6)) else ([], 1)) else ([], 11)) else ([], 1)
theorem renL_len : ∀ (l : List S32) (ns : List ByteArray), (renL l ns).length = l.length
  | [], _ => by simp [renL]
  | x :: l, [] => by simp [renL]
  | x :: l, n :: ns => by simp [renL, renL_len l ns]
theorem renL_step : ∀ (l : List S32) (ns : List ByteArray) (i : Nat) (h1 : i < l.length) (h2 : i < ns.length), (renL l (ns.take i)).set i (ren (l[i]) (ns[i])) = renL l (ns.take (i + 1)) ∧ (renL l (ns.take i))[i]? = some l[i]
  | x :: l, n :: ns, 0, _, _ => by simp [renL]
  | x :: l, n :: ns, i + 1, h1, h2 => by
    have := renL_step l ns i (by simpa using h1) (by simpa using h2)
    simpa [renL] using this
theorem Name16 {s : ByteArray} {r : Bool} (h : okN s = r) (w : World) : Calls Tryd.prog 16 #[.string s] w fun e w' => e = .returned (.bool r) ∧ Below w.heap.size w w' := by
  subst h
  exact (item_Name.calls 40 s _ w (item_Name_is s)).mono fun e w' h => ⟨h.1, h.2.below⟩
set_option maxRecDepth 100000 in
set_option maxHeartbeats 4000000 in
theorem Rename_calls (A : Option Addr) (c : Nat) (l : List S32) (A' : Option Addr) (c' : Nat) (names : List ByteArray) (w : World) (hl : l.length ≤ 20) (hn : names.length ≤ 20) (hr : Kd.C k32 w A l.length l) (hs : Kd.C Kd.string w A' names.length names) :
    Calls Tryd.prog 35 #[.slice A l.length c, .slice A' names.length c'] w fun e w' => ∃ v, e = .returned (.tuple #[v, .int .i64 (renF l names).2]) ∧ OItm w' w.heap.size v (renF l names).1 ∧ Below w.heap.size w w' := by
  have HR := Aside0.mk hr
  have HS := Aside0.mk hs
  have hmy := (C_len hs).2
  have hmx := (C_len hr).2
  cases hv : validF l with
  | false =>
    have HC := Aside0.mk (items_is hv hl A c w hr)
    have HF : Aside0 (renF l names = ([], 1)) := ⟨by unfold renF; rw [hv]; rfl⟩
    clear hv hr hs
    go_enter Tryd.func35, Tryd.ntmps35
    go_wp2_with (go_at_call 20; go_must (refine HC.out.mono ?_; rintro e w2 ⟨rfl, hd⟩))
    go_ret2
    exact ⟨_, ret_vi HF.out, by rw [HF.out]; exact Kd.R_nil _ _ _ _ _, hd⟩
  | true =>
    have HC := Aside0.mk (items_is hv hl A c w hr)
    by_cases hlen : l.length = names.length
    · have hne2 : ((names.length : Int) != (l.length : Int)) = false := by rw [hlen]; exact bne_self_eq_false _
      have HLN := Aside0.mk hlen
      have HV := Aside0.mk hv
      have hpos := (valid_all hv).1.2
      have HCL := fun W h => Aside0.mk (CloneI_calls A c l W (Kd.C_below HR.out h) hpos (by omega))
      clear hv hr hs hlen
      go_enter Tryd.func35, Tryd.ntmps35
      go_wp2_with (first | (go_at_call 20; go_must (refine HC.out.mono ?_; rintro e w2 ⟨rfl, hd⟩)) | (go_at_call 73; go_must (refine (HCL _ hd).out.mono ?_; rintro e w3 ⟨g, cp, rfl, hg, hO, hd3⟩; have hb3 := below_then hd hd3; have HO3 := Aside0.mk (Kd.R_lower hO hd.size); have hg3 : w.heap.size ≤ g := Nat.le_trans hd.size hg; have HG3 := Aside0.mk hg3; clear hg3 hg hO hd3)))
      clear hd
      go_loopg [21] names.length (fun gk v21 wr => ∃ (i : Nat), gk = names.length - i ∧ i ≤ names.length ∧ v21 = .int .i64 i ∧ Aside0 ((names.take i).all okN = true) ∧ Aside0 (OItm wr w.heap.size (.slice (some ⟨g, 0, none⟩) l.length cp) (renL l (names.take i))) ∧ Below w.heap.size w wr)
      case atStart => exact ⟨0, rfl, Nat.zero_le _, rfl, ⟨rfl⟩, ⟨by simpa [renL] using HO3.out⟩, hb3⟩
      case round =>
        clear hb3 HO3
        obtain ⟨i, hgk, hi, rfl, HT, HO, hbel⟩ := hrel
        have HG := Aside0.mk hgk
        clear hgk
        by_cases hlt : i < names.length
        · have hil : i < l.length := by have := HLN.out; omega
          obtain ⟨ad, nm, hA, hdx, k0⟩ := C_str HS.out i hlt
          subst hA
          replace k0 := pw_cell_below hbel k0
          have hnm : names[i] = nm := by
            rw [List.drop_eq_getElem_cons hlt] at hdx
            injection hdx
          have HNM := Aside0.mk hnm
          clear hdx hnm
          cases hq : okN nm with
          | false =>
            have HN := fun W => Aside0.mk (Name16 hq W)
            have HF : Aside0 (renF l names = ([], 1)) := ⟨by
              unfold renF
              rw [if_pos HV.out, if_pos HLN.out, if_neg (fun h => by
                have := List.all_eq_true.1 h names[i] (List.getElem_mem hlt)
                rw [HNM.out, hq] at this
                cases this)]⟩
            clear hq
            go_wp2_with (go_at_call 16; go_must (refine (HN _).out.mono ?_; rintro e w4 ⟨rfl, hd4⟩))
            go_ret2
            exact ⟨_, ret_vi HF.out, by rw [HF.out]; exact Kd.R_nil _ _ _ _ _, below_then hbel hd4⟩
          | true =>
            have HN := fun W => Aside0.mk (Name16 hq W)
            have HT2 : Aside0 ((names.take (i + 1)).all okN = true) := ⟨by
              rw [List.take_succ_eq_append_getElem hlt, List.all_append, HT.out, HNM.out]
              simp [hq]⟩
            have HRS := Aside0.mk (renL_step l names i hil hlt)
            clear hq
            have hpi : (0 : Int) ≤ (i : Int) := by omega
            have hpi2 : (i : Int) < (l.length : Int) := by omega
            have HPI := Aside0.mk hpi
            have HPI2 := Aside0.mk hpi2
            clear hpi hpi2
            go_wp2_with (first | (go_at_call 16; go_must (refine (HN _).out.mono ?_; rintro e w4 ⟨rfl, hd4⟩; have hb4 := below_then hbel hd4; have HO4 := Aside0.mk (Kd.R_below HO.out hd4); obtain ⟨ce, hcl, hM, hcc, hfr⟩ := Kd.R_elem HO4.out z32 (i : Int) HPI.out HPI2.out; obtain rfl := k32_openM hM; have HP := Aside0.mk (Kd.R_seg HO4.out (i : Int) HPI.out HPI2.out (seg := [.string nm]) (j := 0) hcl hcc (show 1 ≤ 5 from by decide) (x' := ren ((renL l (names.take i)).getD (i : Int).toNat z32) nm) (k32_mkM _ _ _ (ren ((renL l (names.take i)).getD (i : Int).toNat z32) nm)) (fun _ hk => hk)); have hc0 := hcc 0 _ rfl; have hf0 := hfr 0; simp only [show (k32).sz = 5 from rfl, Nat.add_zero, Int.toNat_natCast] at hc0 hf0; clear hcl hcc hfr hM)) | ((with_reducible refine gate_store (t := 9) (p := 33) rfl ?_); refine store_event (t := 9) (p := 33) (v := ?vo_w18) (w1 := (w4.setCell ⟨g, i * 5, none⟩ (.string nm))) ?hg ?ho ?hn ?hr ?_; (case ho => rfl); (case hg => rfl); (case hn => rfl); (case hr => first | (go_simp; done) | (go_simp; rfl)); intro w18 hw; have HO5 : Aside0 (OItm w18 w.heap.size (.slice (some ⟨g, 0, none⟩) l.length cp) (renL l (names.take (i + 1)))) := ⟨by rw [hw, ← HRS.out.1, HNM.out]; have := HP.out.1; rw [Int.toNat_natCast, List.getD_eq_getElem?_getD, HRS.out.2] at this; exact this⟩; have hb5 : Below w.heap.size w w18 := (by rw [hw]; exact below_set hb4 HG3.out); clear hw HP))
            go_roundg (names.length - (i + 1))
            case measure => have := HG.out; omega
            case rel => exact ⟨i + 1, rfl, by omega, by go_num, HT2, HO5, hb5⟩
        · have he : names.take i = names := List.take_of_length_le (by omega)
          have hO := HO.out
          have hT := HT.out
          rw [he] at hO hT
          have HO9 := Aside0.mk hO
          have hc9 := (Kd.R_reads' hO).2.2
          have e9 : l.length = (renL l names).length := (renL_len l names).symm
          cases hva : validF (renL l names) with
          | true =>
            have HCA := Aside0.mk (items_is hva (by rw [renL_len]; exact hl) (some ⟨g, 0, none⟩) cp wr hc9)
            rw [← e9] at HCA
            have HF : Aside0 (renF l names = (renL l names, 0)) := ⟨by unfold renF; rw [if_pos HV.out, if_pos HLN.out, if_pos hT, if_pos hva]⟩
            clear hva hO hT hc9 e9 he
            go_wp2_with (go_at_call 20; go_must (refine HCA.out.mono ?_; rintro e w4 ⟨rfl, hd4⟩))
            go_ret2
            exact ⟨_, ret_vi HF.out, by rw [HF.out]; exact Kd.R_below HO9.out hd4, below_then hbel hd4⟩
          | false =>
            have HCA := Aside0.mk (items_is hva (by rw [renL_len]; exact hl) (some ⟨g, 0, none⟩) cp wr hc9)
            rw [← e9] at HCA
            have HF : Aside0 (renF l names = ([], 6)) := ⟨by unfold renF; rw [if_pos HV.out, if_pos HLN.out, if_pos hT, if_neg (by rw [hva]; decide)]⟩
            clear hva hO hT hc9 e9 he
            go_wp2_with (go_at_call 20; go_must (refine HCA.out.mono ?_; rintro e w4 ⟨rfl, hd4⟩))
            go_ret2
            exact ⟨_, ret_vi HF.out, by rw [HF.out]; exact Kd.R_nil _ _ _ _ _, below_then hbel hd4⟩
    · have hne2 : ((names.length : Int) != (l.length : Int)) = true := bne_iff_ne.2 (by omega)
      have HF : Aside0 (renF l names = ([], 11)) := ⟨by unfold renF; rw [if_pos hv, if_neg hlen]⟩
      clear hv hr hs hlen
      go_enter Tryd.func35, Tryd.ntmps35
      go_wp2_with (go_at_call 20; go_must (refine HC.out.mono ?_; rintro e w2 ⟨rfl, hd⟩))
      go_ret2
      exact ⟨_, ret_vi HF.out, by rw [HF.out]; exact Kd.R_nil _ _ _ _ _, hd⟩
/-- What the reference's Rename computes. -/
theorem renL_ok : ∀ (l : List S32) (ns : List ByteArray), l.all okI = true → ns.all okN = true → (renL l ns).all okI = true
  | [], _, h, _ => by simp [renL]
  | x :: l, [], h, _ => by simpa [renL] using h
  | x :: l, n :: ns, h, h2 => by
    simp only [List.all_cons, Bool.and_eq_true] at h h2
    rw [renL, List.all_cons, renL_ok l ns h.2 h2.2, Bool.and_true]
    have h1 := h.1
    unfold okI at h1 ⊢
    simp only [Bool.and_eq_true] at h1 ⊢
    exact ⟨h2.1, h1.2⟩
theorem valid_ren {l : List S32} {ns : List ByteArray} (h : validF l = true) (hn : ns.all okN = true) : validF (renL l ns) = apartL [] (renL l ns) := by
  obtain ⟨⟨h8, h1⟩, hok, _⟩ := valid_all h
  unfold validF
  rw [seenL_apart, renL_ok l ns hok hn, Bool.true_and, renL_len, decide_eq_true (by omega), decide_eq_true (by omega)]
  rfl
theorem ren_end (out : List S32) (hl : out.length ≤ 20) (n : Nat) : ∀ (i k : Nat), out.length - i ≤ n → i ≤ out.length → n + 22 ≤ k →
    ringworkref01_Rename.l1 k out (i : Int) = some (if apartL ((out.take i).map nmI) (out.drop i) = true then (out, 0) else ([], 6)) := by
  induction n with
  | zero =>
    intro i k hn hi hk
    obtain ⟨k', rfl⟩ : ∃ k', k = k' + 1 := ⟨k - 1, by omega⟩
    unfold ringworkref01_Rename.l1
    rw [if_neg (by omega), List.drop_eq_nil_of_le (by omega), apartL, if_pos rfl]
  | succ n IH =>
    intro i k hn hi hk
    obtain ⟨k', rfl⟩ : ∃ k', k = k' + 1 := ⟨k - 1, by omega⟩
    unfold ringworkref01_Rename.l1
    by_cases h1 : i < out.length
    · obtain ⟨t, ht, htd⟩ := apart_loop out i h1 k' (by omega) hl
      rw [if_pos (by omega), if_pos (by omega), ht, apart_step out i h1, ← htd]
      simp only [Option.bind_some]
      by_cases e : t = (i : Int)
      · rw [if_pos e, decide_eq_true e, Bool.true_and, w64 (by omega) (by omega)]
        have := IH (i + 1) k' (by omega) (by omega) (by omega)
        simpa using this
      · rw [if_neg e, decide_eq_false e, Bool.false_and]
        rfl
    · rw [if_neg (by omega), List.drop_eq_nil_of_le (by omega), apartL, if_pos rfl]
theorem refName_any (s : ByteArray) (k : Nat) (hk : 40 ≤ k) : ringworkref01_Name.f k s = some (okN s) := by
  obtain ⟨j, rfl⟩ : ∃ j, k = 40 + j := ⟨k - 40, by omega⟩
  clear hk
  induction j with
  | zero => exact ref_Name_is s
  | succ j ih => exact ringworkref01_Name.mono _ _ _ ih
theorem ren_loop (l : List S32) (names : List ByteArray) (hl : l.length ≤ 20) (hlen : l.length = names.length) (n : Nat) : ∀ (i k : Nat), names.length - i ≤ n → i ≤ names.length → (names.take i).all okN = true → n + 50 ≤ k →
    ringworkref01_Rename.l0 k names (renL l (names.take i)) (i : Int) = some (if names.all okN = true then (if apartL [] (renL l names) = true then (renL l names, 0) else ([], 6)) else ([], 1)) := by
  induction n with
  | zero =>
    intro i k hn hi ha hk
    obtain ⟨k', rfl⟩ : ∃ k', k = k' + 1 := ⟨k - 1, by omega⟩
    unfold ringworkref01_Rename.l0
    rw [List.take_of_length_le (show names.length ≤ i by omega)] at ha ⊢
    rw [if_neg (by omega), if_pos ha]
    have := ren_end (renL l names) (by rw [renL_len]; exact hl) 20 0 k' (by rw [renL_len]; omega) (by omega) (by omega)
    simpa using this
  | succ n IH =>
    intro i k hn hi ha hk
    by_cases h1 : i < names.length
    · obtain ⟨k', rfl⟩ : ∃ k', k = k' + 1 := ⟨k - 1, by omega⟩
      have h2 : i < l.length := by omega
      unfold ringworkref01_Rename.l0
      rw [if_pos (by omega), if_pos (by omega), rdOf_get names i h1, refName_any _ k' (by omega)]
      simp only [Option.bind_some]
      cases hq : okN names[i] with
      | false =>
        rw [if_neg (by decide), if_neg (fun h => by
          have := List.all_eq_true.1 h names[i] (List.getElem_mem h1)
          rw [hq] at this
          cases this)]
      | true =>
        obtain ⟨s1, s2⟩ := renL_step l names i h2 h1
        rw [if_pos rfl, if_pos (by rw [renL_len]; omega), w64 (by omega) (by omega), Int.toNat_natCast]
        rw [show rd_T32 (renL l (names.take i)) (i : Int) = l[i] by unfold rd_T32; rw [Int.toNat_natCast, List.getD_eq_getElem?_getD, s2]; rfl]
        have := IH (i + 1) k' (by omega) (by omega) (by rw [List.take_succ_eq_append_getElem h1, List.all_append, ha]; simp [hq]) (by omega)
        rw [← s1] at this
        simpa [ren] using this
    · obtain ⟨k', rfl⟩ : ∃ k', k = k' + 1 := ⟨k - 1, by omega⟩
      unfold ringworkref01_Rename.l0
      rw [List.take_of_length_le (show names.length ≤ i by omega)] at ha ⊢
      rw [if_neg (by omega), if_pos ha]
      have := ren_end (renL l names) (by rw [renL_len]; exact hl) 20 0 k' (by rw [renL_len]; omega) (by omega) (by omega)
      simpa using this
theorem ref_Rename_is (l : List S32) (names : List ByteArray) (hl : l.length ≤ 20) : ringworkref01_Rename.f 100 l names = some (renF l names) := by
  unfold ringworkref01_Rename.f renF
  rw [ref_ValidItems_is l hl 100 (by omega)]
  simp only [Option.bind_some]
  cases hv : validF l with
  | false => rfl
  | true =>
    rw [if_pos rfl, if_pos rfl]
    by_cases h : l.length = names.length
    · rw [if_pos (by omega), if_pos (show ([] : List S32).length + l.length < 2932031007402 by simp; omega), if_pos h, List.nil_append]
      have := ren_loop l names hl h 20 0 100 (by omega) (by omega) rfl (by omega)
      rw [List.take_zero, show renL l [] = l by cases l <;> rfl] at this
      refine Eq.trans this ?_
      by_cases hok : names.all okN = true
      · rw [if_pos hok, if_pos hok, valid_ren hv hok]
      · rw [if_neg hok, if_neg hok]
    · rw [if_neg (by omega), if_neg h]
end Go.Proofs.YtibgjfeifpanhaaDoor.B

set_option linter.unusedVariables false
set_option linter.unusedSimpArgs false
namespace Go.Proofs.YtibgjfeifpanhaaDoor.B
open Go.RowKit Go.Proofs.YtibgjfeifpanhaaDoorW.PrintWords Go.Maps PItemValid

theorem awake_ok (w w' : World) (h : TabOk w) (hb : Below w.heap.size w w') : Calls Tryd.prog 11 #[] w' fun e w2 => e = .returned (.bool true) ∧ Below w'.heap.size w' w2 := awake_calls w' (h.below hb)
theorem C_rows1 (w : World) (A0 : Option Addr) (c0 : Nat) (a : List S29) (h0 : Kd.C k29 w A0 a.length a) (l0 : a.length ≤ c0) :
    Kd.C (Kd.slice 29 k29) (w.alloc (.cells #[.slice A0 a.length c0] 23)) (some ⟨w.heap.size, 0, none⟩) 1 [a] := by
  have hb : Below w.heap.size w (w.alloc (.cells #[.slice A0 a.length c0] 23)) := below_alloc (Below.refl _ _) _
  refine ⟨rfl, by decide, fun _ => ⟨_, rfl, fun j p hj => ?_⟩⟩
  match j, hj with
  | 0, hj =>
    cases hj
    refine ⟨[_], rfl, ⟨A0, c0, rfl, l0, Kd.C_below h0 hb⟩, fun i u hu => ?_⟩
    have hi : i = 0 := by
      have := (List.getElem?_eq_some_iff.1 hu).1
      simpa using this
    subst hi
    simp at hu
    subst hu
    show (w.alloc _).cell? ((⟨w.heap.size, 0, none⟩ : Addr).add 0) = _
    rw [show (⟨w.heap.size, 0, none⟩ : Addr).add 0 = ⟨w.heap.size, 0, none⟩ from rfl, World.cell?_alloc_new]
    rfl
end Go.Proofs.YtibgjfeifpanhaaDoor.B

set_option linter.unusedVariables false
set_option linter.unusedSimpArgs false
namespace Go.Proofs.YtibgjfeifpanhaaDoor.B
open Go.RowKit Go.Deep Go.ChangeShapes Go.WideShapes Go.Proofs.YtibgjfeifpanhaaDoorW.PrintWords Go.Maps PItemValid

section
variable {H : Type} {enc : TypeId × Value → H} {W : World} {held : Bool}
theorem open_strs_C {a : Option Addr} {len cap fuel : Nat} {x : DataW H × List MemPlace} (h : DataW.trod enc Tryd.prog W 0 (fun _ => true) held fuel 41 [.slice a len cap] = some x) :
    ∃ l : List ByteArray, l.length = len ∧ len ≤ cap ∧ Kd.C Kd.string W a l.length l := by
  refine open_C Kd.string Tryd.underlying41 (by kernel_rfl) (fun n cs y hy => ?_) h
  obtain ⟨s0, e0, _, _⟩ := DataW.trod_string Tryd.underlying9 hy
  subst e0
  exact ⟨s0, rfl⟩
end
theorem nar_len (l : List S32) (names : List ByteArray) : (narF l names).1.length ≤ names.length := by
  unfold narF
  split
  · split
    · simp
    · rename_i o h
      have := picks_len l names o h
      split
      · simp
      · split <;> simp <;> omega
  · simp
theorem ren_len (l : List S32) (names : List ByteArray) : (renF l names).1.length ≤ l.length := by
  unfold renF
  repeat' split
  all_goals simp [renL_len]
theorem sameI_is (l : List S32) (hl : l.length ≤ 20) (A A' : Option Addr) (c c' : Nat) (w : World) (hx : Kd.C k32 w A l.length l) (hc : l.length ≤ c) (hy : Kd.C k32 w A' l.length l) (hc' : l.length ≤ c') :
    Calls Tryd.prog 33 #[.slice A l.length c, .slice A' l.length c'] w fun e w' => e = .returned (.bool true) ∧ Below w.heap.size w w' :=
  (ringworklaw01_SameItems.calls 30 A c l A' c' l true w hx hc hy hc' (SameItems_is l hl)).mono fun e w' h => ⟨h.1, h.2.below⟩
theorem Narrow_is {l : List S32} {names : List ByteArray} {x : List S32} {y : Int} (h : narF l names = (x, y)) (A : Option Addr) (c : Nat) (A' : Option Addr) (c' : Nat) (w : World) (hl : l.length ≤ 20) (hn : names.length ≤ 20) (hr : Kd.C k32 w A l.length l) (hs : Kd.C Kd.string w A' names.length names) :
    Calls Tryd.prog 31 #[.slice A l.length c, .slice A' names.length c'] w fun e w' => ∃ v, e = .returned (.tuple #[v, .int .i64 y]) ∧ OItm w' w.heap.size v x ∧ Below w.heap.size w w' := by
  have := Narrow_calls A c l A' c' names w hl hn hr hs
  rwa [h] at this
theorem refNarrow_is {l : List S32} {names : List ByteArray} {x : List S32} {y : Int} (h : narF l names = (x, y)) (A : Option Addr) (c : Nat) (A' : Option Addr) (c' : Nat) (w : World) (hl : l.length ≤ 20) (hn : names.length ≤ 20) (hr : Kd.C k32 w A l.length l) (hc : l.length ≤ c) (hs : Kd.C Kd.string w A' names.length names) (hc' : names.length ≤ c') :
    Calls Tryd.prog 32 #[.slice A l.length c, .slice A' names.length c'] w fun e w' => ∃ v, e = .returned (.tuple #[v, .int .i64 y]) ∧ OItm w' w.heap.size v x ∧ Below w.heap.size w w' :=
  ringworkref01_Narrow.calls 100 A c l A' c' names x y w hr hc hs hc' (by rw [ref_Narrow_is l names hl hn, h])
theorem Rename_is {l : List S32} {names : List ByteArray} {x : List S32} {y : Int} (h : renF l names = (x, y)) (A : Option Addr) (c : Nat) (A' : Option Addr) (c' : Nat) (w : World) (hl : l.length ≤ 20) (hn : names.length ≤ 20) (hr : Kd.C k32 w A l.length l) (hs : Kd.C Kd.string w A' names.length names) :
    Calls Tryd.prog 35 #[.slice A l.length c, .slice A' names.length c'] w fun e w' => ∃ v, e = .returned (.tuple #[v, .int .i64 y]) ∧ OItm w' w.heap.size v x ∧ Below w.heap.size w w' := by
  have := Rename_calls A c l A' c' names w hl hn hr hs
  rwa [h] at this
theorem refRename_is {l : List S32} {names : List ByteArray} {x : List S32} {y : Int} (h : renF l names = (x, y)) (A : Option Addr) (c : Nat) (A' : Option Addr) (c' : Nat) (w : World) (hl : l.length ≤ 20) (hr : Kd.C k32 w A l.length l) (hc : l.length ≤ c) (hs : Kd.C Kd.string w A' names.length names) (hc' : names.length ≤ c') :
    Calls Tryd.prog 36 #[.slice A l.length c, .slice A' names.length c'] w fun e w' => ∃ v, e = .returned (.tuple #[v, .int .i64 y]) ∧ OItm w' w.heap.size v x ∧ Below w.heap.size w w' :=
  ringworkref01_Rename.calls 100 A c l A' c' names x y w hr hc hs hc' (by rw [ref_Rename_is l names hl, h])
theorem Pick_is {l : List S32} {r : List S29} {names : List ByteArray} {x : List S29} {y : Int} (h : pickF l r names = (x, y)) (A : Option Addr) (c : Nat) (A1 : Option Addr) (c1 : Nat) (A' : Option Addr) (c' : Nat) (w : World) (hl : l.length ≤ 20) (hn : names.length ≤ 20) (hr : Kd.C k32 w A l.length l) (h1 : Kd.C k29 w A1 r.length r) (hs : Kd.C Kd.string w A' names.length names) :
    Calls Tryd.prog 34 #[.slice A l.length c, .slice A1 r.length c1, .slice A' names.length c'] w fun e w' => ∃ v, e = .returned (.tuple #[v, .int .i64 y]) ∧ OVal w' w.heap.size v x ∧ Below w.heap.size w w' := by
  have := Pick_calls A c l A1 c1 r A' c' names w hl hn hr h1 hs
  rwa [h] at this
set_option maxRecDepth 100000 in
set_option maxHeartbeats 8000000 in
theorem narrows_law (A0 A1 A2 : Option Addr) (c0 c1 c2 : Nat) (l : List S32) (r : List S29) (names : List ByteArray) (w : World) (h0 : Kd.C k32 w A0 l.length l) (l0 : l.length ≤ c0) (h1 : Kd.C k29 w A1 r.length r) (l1 : r.length ≤ c1) (h2 : Kd.C Kd.string w A2 names.length names) (l2 : names.length ≤ c2) (htab : TabOk w) :
    Calls Tryd.prog 5 #[.slice A0 l.length c0, .slice A1 r.length c1, .slice A2 names.length c2] w fun e w' => e = .returned (.bool true) ∧ Below w.heap.size w w' := by
  have H0 := Aside0.mk h0
  have H1 := Aside0.mk h1
  have H2 := Aside0.mk h2
  have HTAB := Aside0.mk htab
  have HL0 := Aside0.mk l0
  have HL1 := Aside0.mk l1
  have HL2 := Aside0.mk l2
  have m0 := (C_len h0).2
  have m1 := (C_len h1).2
  have m2 := (C_len h2).2
  obtain ⟨rI, hI20, hI⟩ := Items_calls A0 c0 l w h0 l0
  have HI := Aside0.mk hI
  have HNM := fun (W : World) (h : Below w.heap.size w W) => Names_calls A2 c2 names W (Kd.C_below H2.out h) HL2.out
  clear h0 h1 h2 htab l0 l1 l2 hI
  cases rI with
  | false =>
    clear HNM
    go_enter Tryd.func5, Tryd.ntmps5
    go_wp2_with (first | (go_at_call 9; go_must (refine HI.out.mono ?_; rintro e w1 ⟨rfl, hd1⟩; have hb1 := hd1.below; clear hd1)) | (go_at_call 11; go_must (refine (awake_ok w _ HTAB.out hb1).mono ?_; rintro e w2 ⟨rfl, hb2⟩)))
    go_ret
    exact ⟨rfl, below_then hb1 hb2⟩
  | true =>
    have hl20 := hI20 rfl
    clear hI20
    cases hrows : rowsF [r] with
    | false =>
      clear HNM
      have HR := fun (W : World) (h : Kd.C (Kd.slice 29 k29) (W.alloc (.cells #[.slice A1 r.length c1] 23)) (some ⟨W.heap.size, 0, none⟩) 1 [r]) => Aside0.mk (Rows_is hrows (by simp) _ 1 _ h (by simp))
      clear hrows
      go_enter Tryd.func5, Tryd.ntmps5
      go_wp2_with (first | (go_at_call 9; go_must (refine HI.out.mono ?_; rintro e w1 ⟨rfl, hd1⟩; have hb1 := hd1.below; clear hd1; have hb1a := below_alloc hb1 (.cells #[.slice A1 r.length c1] 23); have HRS := Aside0.mk (C_rows1 w1 A1 c1 r (Kd.C_below H1.out hb1) HL1.out))) | (go_at_call 10; go_must (refine (HR _ HRS.out).out.mono ?_; rintro e w2 ⟨rfl, hd2⟩; have hb2 := below_then hb1a hd2.below; clear hd2)) | (go_at_call 11; go_must (refine (awake_ok w _ HTAB.out hb2).mono ?_; rintro e w3 ⟨rfl, hb3⟩)))
      go_ret
      exact ⟨rfl, below_then hb2 hb3⟩
    | true =>
      have HR := fun (W : World) (h : Kd.C (Kd.slice 29 k29) (W.alloc (.cells #[.slice A1 r.length c1] 23)) (some ⟨W.heap.size, 0, none⟩) 1 [r]) => Aside0.mk (Rows_is hrows (by simp) _ 1 _ h (by simp))
      have hok : okLenB r = true := by simpa [rowsF] using hrows
      have hr20 := ((okLenB_iff r).1 hok).1
      clear hrows hok
      obtain ⟨rN, hN20, hN⟩ : ∃ rN, (rN = true → names.length ≤ 20) ∧ Aside0 (∀ W, Below w.heap.size w W → Calls Tryd.prog 30 #[.slice A2 names.length c2] W fun e w' => e = .returned (.bool rN) ∧ Drawn0 W w') := by
        obtain ⟨rN, q1, q2⟩ := names_loop names 20 0 60 (by omega) (by omega) (by omega)
        exact ⟨rN, q2, ⟨fun W h => ringworklaw01_Names.calls 60 A2 c2 names rN W (Kd.C_below H2.out h) HL2.out (by simpa [ringworklaw01_Names.f] using q1)⟩⟩
      clear HNM
      cases rN with
      | false =>
        go_enter Tryd.func5, Tryd.ntmps5
        go_wp2_with (first | (go_at_call 9; go_must (refine HI.out.mono ?_; rintro e w1 ⟨rfl, hd1⟩; have hb1 := hd1.below; clear hd1; have hb1a := below_alloc hb1 (.cells #[.slice A1 r.length c1] 23); have HRS := Aside0.mk (C_rows1 w1 A1 c1 r (Kd.C_below H1.out hb1) HL1.out))) | (go_at_call 10; go_must (refine (HR _ HRS.out).out.mono ?_; rintro e w2 ⟨rfl, hd2⟩; have hb2 := below_then hb1a hd2.below; clear hd2)) | (go_at_call 30; go_must (refine (hN.out _ hb2).mono ?_; rintro e w3 ⟨rfl, hd3⟩; have hb3 := below_then hb2 hd3.below; clear hd3)) | (go_at_call 11; go_must (refine (awake_ok w _ HTAB.out hb3).mono ?_; rintro e w4 ⟨rfl, hb4⟩)))
        go_ret
        exact ⟨rfl, below_then hb3 hb4⟩
      | true =>
        have hn20 := hN20 rfl
        clear hN20
        obtain ⟨⟨nl, ne⟩, hnf⟩ : ∃ x, narF l names = x := ⟨_, rfl⟩
        obtain ⟨⟨rl, re⟩, hrf⟩ : ∃ x, renF l names = x := ⟨_, rfl⟩
        have HNL : Aside0 (nl.length ≤ 20) := ⟨by have := nar_len l names; rw [hnf] at this; exact Nat.le_trans this hn20⟩
        have HRL : Aside0 (rl.length ≤ 20) := ⟨by have := ren_len l names; rw [hrf] at this; exact Nat.le_trans this hl20⟩
        have HN1 := fun (W : World) (h : Below w.heap.size w W) => Aside0.mk (Narrow_is hnf A0 c0 A2 c2 W hl20 hn20 (Kd.C_below H0.out h) (Kd.C_below H2.out h))
        have HN2 := fun (W : World) (h : Below w.heap.size w W) => Aside0.mk (refNarrow_is hnf A0 c0 A2 c2 W hl20 hn20 (Kd.C_below H0.out h) HL0.out (Kd.C_below H2.out h) HL2.out)
        have HR1 := fun (W : World) (h : Below w.heap.size w W) => Aside0.mk (Rename_is hrf A0 c0 A2 c2 W hl20 hn20 (Kd.C_below H0.out h) (Kd.C_below H2.out h))
        have HR2 := fun (W : World) (h : Below w.heap.size w W) => Aside0.mk (refRename_is hrf A0 c0 A2 c2 W hl20 (Kd.C_below H0.out h) HL0.out (Kd.C_below H2.out h) HL2.out)
        have HS := fun (x : List S32) (hx : x.length ≤ 20) A A' c c' W a b d e => Aside0.mk (sameI_is x hx A A' c c' W a b d e)
        have hne1 : (ne != ne) = false := bne_self_eq_false _
        have hre1 : (re == re) = true := beq_self_eq_true _
        have tail : ∀ W, Below w.heap.size w W → True := fun _ _ => trivial
        by_cases hz : ne = 0
        · subst hz
          cases hfit : fitsF l r with
          | true =>
            obtain ⟨⟨pl, pe⟩, hpf⟩ : ∃ x, pickF l r names = x := ⟨_, rfl⟩
            obtain ⟨e1, e2⟩ := nar_fits (l := l) (r := r) (names := names) (by rw [hnf]) hfit
            rw [hpf] at e1 e2
            rw [hnf] at e2
            simp only at e1 e2
            subst e1
            have HP := fun (W : World) (h : Below w.heap.size w W) => Aside0.mk (Pick_is hpf A0 c0 A1 c1 A2 c2 W hl20 hn20 (Kd.C_below H0.out h) (Kd.C_below H1.out h) (Kd.C_below H2.out h))
            have HF1 := fun (W : World) (h : Below w.heap.size w W) => Aside0.mk (Fits_is hfit hl20 A0 c0 A1 c1 W (Kd.C_below H0.out h) (Kd.C_below H1.out h))
            have HF2 := fun A c A' c' W a b => Aside0.mk (Fits_is e2 HNL.out A c A' c' W a b)
            clear hfit hnf hrf hpf e2 tail
            go_enter Tryd.func5, Tryd.ntmps5
            go_wp2_with (first
              | (go_at_call 9; go_must (refine HI.out.mono ?_; rintro e w1 ⟨rfl, hd1⟩; have hb1 := hd1.below; clear hd1; have hb1a := below_alloc hb1 (.cells #[.slice A1 r.length c1] 23); have HRS := Aside0.mk (C_rows1 w1 A1 c1 r (Kd.C_below H1.out hb1) HL1.out)))
              | (go_at_call 10; go_must (refine (HR _ HRS.out).out.mono ?_; rintro e w2 ⟨rfl, hd2⟩; have hb2 := below_then hb1a hd2.below; clear hd2))
              | (go_at_call 30; go_must (refine (hN.out _ hb2).mono ?_; rintro e w3 ⟨rfl, hd3⟩; have hb3 := below_then hb2 hd3.below; clear hd3))
              | (go_at_call 31; go_must (refine (HN1 _ hb3).out.mono ?_; rintro e w4 ⟨v4, rfl, hO4, hd4⟩; have hb4 := below_then hb3 hd4; clear hd4; obtain ⟨A4, c4, rfl, hc4, hC4⟩ := Kd.R_reads hO4; have HC4 := Aside0.mk hC4; have HX4 := Aside0.mk hc4; clear hO4 hC4 hc4))
              | (go_at_call 32; go_must (refine (HN2 _ hb4).out.mono ?_; rintro e w5 ⟨v5, rfl, hO5, hd5⟩; have hb5 := below_then hb4 hd5; obtain ⟨A5, c5, rfl, hc5, hC5⟩ := Kd.R_reads hO5; have HC5 := Aside0.mk hC5; have HX5 := Aside0.mk hc5; have HC45 := Aside0.mk (Kd.C_below HC4.out hd5); clear hO5 hC5 hc5 hd5))
              | (go_at_call 33; with_reducible refine (HS nl HNL.out A4 A5 c4 c5 _ HC45.out HX4.out HC5.out HX5.out).out.mono ?_; go_must (rintro e w6 ⟨rfl, hd6⟩; have hb6 := below_then hb5 hd6; have HC6 := Aside0.mk (Kd.C_below HC45.out hd6); clear hd6))
              | (go_at_call 22; with_reducible refine (HF1 _ hb6).out.mono ?_; go_must (rintro e w7 ⟨rfl, hd7⟩; have hb7 := below_then hb6 hd7; have HC7 := Aside0.mk (Kd.C_below HC6.out hd7); clear hd7))
              | (go_at_call 34; go_must (refine (HP _ hb7).out.mono ?_; rintro e w8 ⟨v8, rfl, hO8, hd8⟩; have hb8 := below_then hb7 hd8; obtain ⟨A8, c8, rfl, hc8, hC8⟩ := Kd.R_reads hO8; have HC8 := Aside0.mk hC8; have HC78 := Aside0.mk (Kd.C_below HC7.out hd8); clear hO8 hC8 hc8 hd8))
              | (go_at_call 22; go_must (refine (HF2 A4 c4 A8 c8 _ HC78.out HC8.out).out.mono ?_; rintro e w9 ⟨rfl, hd9⟩; have hb9 := below_then hb8 hd9; clear hd9))
              | (go_at_call 35; go_must (refine (HR1 _ hb9).out.mono ?_; rintro e w10 ⟨v10, rfl, hO10, hd10⟩; have hb10 := below_then hb9 hd10; clear hd10; obtain ⟨A10, c10, rfl, hc10, hC10⟩ := Kd.R_reads hO10; have HC10 := Aside0.mk hC10; have HX10 := Aside0.mk hc10; clear hO10 hC10 hc10))
              | (go_at_call 36; go_must (refine (HR2 _ hb10).out.mono ?_; rintro e w11 ⟨v11, rfl, hO11, hd11⟩; have hb11 := below_then hb10 hd11; obtain ⟨A11, c11, rfl, hc11, hC11⟩ := Kd.R_reads hO11; have HC11 := Aside0.mk hC11; have HX11 := Aside0.mk hc11; have HC1011 := Aside0.mk (Kd.C_below HC10.out hd11); clear hO11 hC11 hc11 hd11))
              | (go_at_call 33; go_must (refine (HS rl HRL.out A10 A11 c10 c11 _ HC1011.out HX10.out HC11.out HX11.out).out.mono ?_; rintro e w12 ⟨rfl, hd12⟩; have hb12 := below_then hb11 hd12; clear hd12))
              | (go_at_call 11; go_must (refine (awake_ok w _ HTAB.out hb12).mono ?_; rintro e w13 ⟨rfl, hd13⟩; have hb13 := below_then hb12 hd13; clear hd13)))
            go_ret
            exact ⟨rfl, hb13⟩
          | false =>
            have HF1 := fun (W : World) (h : Below w.heap.size w W) => Aside0.mk (Fits_is hfit hl20 A0 c0 A1 c1 W (Kd.C_below H0.out h) (Kd.C_below H1.out h))
            clear hfit hnf hrf tail
            go_enter Tryd.func5, Tryd.ntmps5
            go_wp2_with (first
              | (go_at_call 9; go_must (refine HI.out.mono ?_; rintro e w1 ⟨rfl, hd1⟩; have hb1 := hd1.below; clear hd1; have hb1a := below_alloc hb1 (.cells #[.slice A1 r.length c1] 23); have HRS := Aside0.mk (C_rows1 w1 A1 c1 r (Kd.C_below H1.out hb1) HL1.out)))
              | (go_at_call 10; go_must (refine (HR _ HRS.out).out.mono ?_; rintro e w2 ⟨rfl, hd2⟩; have hb2 := below_then hb1a hd2.below; clear hd2))
              | (go_at_call 30; go_must (refine (hN.out _ hb2).mono ?_; rintro e w3 ⟨rfl, hd3⟩; have hb3 := below_then hb2 hd3.below; clear hd3))
              | (go_at_call 31; go_must (refine (HN1 _ hb3).out.mono ?_; rintro e w4 ⟨v4, rfl, hO4, hd4⟩; have hb4 := below_then hb3 hd4; clear hd4; obtain ⟨A4, c4, rfl, hc4, hC4⟩ := Kd.R_reads hO4; have HC4 := Aside0.mk hC4; have HX4 := Aside0.mk hc4; clear hO4 hC4 hc4))
              | (go_at_call 32; go_must (refine (HN2 _ hb4).out.mono ?_; rintro e w5 ⟨v5, rfl, hO5, hd5⟩; have hb5 := below_then hb4 hd5; obtain ⟨A5, c5, rfl, hc5, hC5⟩ := Kd.R_reads hO5; have HC5 := Aside0.mk hC5; have HX5 := Aside0.mk hc5; have HC45 := Aside0.mk (Kd.C_below HC4.out hd5); clear hO5 hC5 hc5 hd5))
              | (go_at_call 33; with_reducible refine (HS nl HNL.out A4 A5 c4 c5 _ HC45.out HX4.out HC5.out HX5.out).out.mono ?_; go_must (rintro e w6 ⟨rfl, hd6⟩; have hb6 := below_then hb5 hd6; clear hd6))
              | (go_at_call 22; go_must (refine (HF1 _ hb6).out.mono ?_; rintro e w7 ⟨rfl, hd7⟩; have hb9 := below_then hb6 hd7; clear hd7))
              | (go_at_call 35; go_must (refine (HR1 _ hb9).out.mono ?_; rintro e w10 ⟨v10, rfl, hO10, hd10⟩; have hb10 := below_then hb9 hd10; clear hd10; obtain ⟨A10, c10, rfl, hc10, hC10⟩ := Kd.R_reads hO10; have HC10 := Aside0.mk hC10; have HX10 := Aside0.mk hc10; clear hO10 hC10 hc10))
              | (go_at_call 36; go_must (refine (HR2 _ hb10).out.mono ?_; rintro e w11 ⟨v11, rfl, hO11, hd11⟩; have hb11 := below_then hb10 hd11; obtain ⟨A11, c11, rfl, hc11, hC11⟩ := Kd.R_reads hO11; have HC11 := Aside0.mk hC11; have HX11 := Aside0.mk hc11; have HC1011 := Aside0.mk (Kd.C_below HC10.out hd11); clear hO11 hC11 hc11 hd11))
              | (go_at_call 33; go_must (refine (HS rl HRL.out A10 A11 c10 c11 _ HC1011.out HX10.out HC11.out HX11.out).out.mono ?_; rintro e w12 ⟨rfl, hd12⟩; have hb12 := below_then hb11 hd12; clear hd12))
              | (go_at_call 11; go_must (refine (awake_ok w _ HTAB.out hb12).mono ?_; rintro e w13 ⟨rfl, hd13⟩; have hb13 := below_then hb12 hd13; clear hd13)))
            go_ret
            exact ⟨rfl, hb13⟩
        · have hz0 : (ne == 0) = false := beq_eq_false_iff_ne.2 hz
          clear hnf hrf tail hz
          go_enter Tryd.func5, Tryd.ntmps5
          go_wp2_with (first
            | (go_at_call 9; go_must (refine HI.out.mono ?_; rintro e w1 ⟨rfl, hd1⟩; have hb1 := hd1.below; clear hd1; have hb1a := below_alloc hb1 (.cells #[.slice A1 r.length c1] 23); have HRS := Aside0.mk (C_rows1 w1 A1 c1 r (Kd.C_below H1.out hb1) HL1.out)))
            | (go_at_call 10; go_must (refine (HR _ HRS.out).out.mono ?_; rintro e w2 ⟨rfl, hd2⟩; have hb2 := below_then hb1a hd2.below; clear hd2))
            | (go_at_call 30; go_must (refine (hN.out _ hb2).mono ?_; rintro e w3 ⟨rfl, hd3⟩; have hb3 := below_then hb2 hd3.below; clear hd3))
            | (go_at_call 31; go_must (refine (HN1 _ hb3).out.mono ?_; rintro e w4 ⟨v4, rfl, hO4, hd4⟩; have hb4 := below_then hb3 hd4; clear hd4; obtain ⟨A4, c4, rfl, hc4, hC4⟩ := Kd.R_reads hO4; have HC4 := Aside0.mk hC4; have HX4 := Aside0.mk hc4; clear hO4 hC4 hc4))
            | (go_at_call 32; go_must (refine (HN2 _ hb4).out.mono ?_; rintro e w5 ⟨v5, rfl, hO5, hd5⟩; have hb5 := below_then hb4 hd5; obtain ⟨A5, c5, rfl, hc5, hC5⟩ := Kd.R_reads hO5; have HC5 := Aside0.mk hC5; have HX5 := Aside0.mk hc5; have HC45 := Aside0.mk (Kd.C_below HC4.out hd5); clear hO5 hC5 hc5 hd5))
            | (go_at_call 33; with_reducible refine (HS nl HNL.out A4 A5 c4 c5 _ HC45.out HX4.out HC5.out HX5.out).out.mono ?_; go_must (rintro e w6 ⟨rfl, hd6⟩; have hb9 := below_then hb5 hd6; clear hd6))
            | (go_at_call 35; go_must (refine (HR1 _ hb9).out.mono ?_; rintro e w10 ⟨v10, rfl, hO10, hd10⟩; have hb10 := below_then hb9 hd10; clear hd10; obtain ⟨A10, c10, rfl, hc10, hC10⟩ := Kd.R_reads hO10; have HC10 := Aside0.mk hC10; have HX10 := Aside0.mk hc10; clear hO10 hC10 hc10))
            | (go_at_call 36; go_must (refine (HR2 _ hb10).out.mono ?_; rintro e w11 ⟨v11, rfl, hO11, hd11⟩; have hb11 := below_then hb10 hd11; obtain ⟨A11, c11, rfl, hc11, hC11⟩ := Kd.R_reads hO11; have HC11 := Aside0.mk hC11; have HX11 := Aside0.mk hc11; have HC1011 := Aside0.mk (Kd.C_below HC10.out hd11); clear hO11 hC11 hc11 hd11))
            | (go_at_call 33; go_must (refine (HS rl HRL.out A10 A11 c10 c11 _ HC1011.out HX10.out HC11.out HX11.out).out.mono ?_; rintro e w12 ⟨rfl, hd12⟩; have hb12 := below_then hb11 hd12; clear hd12))
            | (go_at_call 11; go_must (refine (awake_ok w _ HTAB.out hb12).mono ?_; rintro e w13 ⟨rfl, hd13⟩; have hb13 := below_then hb12 hd13; clear hd13)))
          go_ret
          exact ⟨rfl, hb13⟩
end Go.Proofs.YtibgjfeifpanhaaDoor.B
