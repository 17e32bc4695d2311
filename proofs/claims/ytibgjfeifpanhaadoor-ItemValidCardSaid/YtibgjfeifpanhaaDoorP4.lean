/- Which rows the laws look at. -/
import Derived.Test.YtibgjfeifpanhaaDoorB3
set_option linter.unusedVariables false
set_option linter.unusedSimpArgs false
namespace Go.Proofs.YtibgjfeifpanhaaDoor.B
open Go.RowKit Go.Proofs.YtibgjfeifpanhaaDoorW.PrintWords PItemValid

def shortV (x : S29) : Bool := decide (x.f2.size ≤ 200)
def okLenB (l : List S29) : Bool := decide (l.length ≤ 20) && l.all shortV
theorem okLenB_iff (l : List S29) : okLenB l = true ↔ okLen l := by
  unfold okLenB okLen shortV
  simp
def rowsF (ls : List (List S29)) : Bool := ls.all okLenB
theorem rd4_get (l : List (List S29)) (i : Nat) (h : i < l.length) : rd_L4 l (i : Int) = l[i] := by
  simp [rd_L4, List.getD_eq_getElem?_getD, List.getElem?_eq_getElem h]
theorem rows_in (x0 : List (List S29)) (hl : x0.length ≤ 1000) (i : Nat) (hi : i < x0.length) (z : Nat) (h20 : x0[i].length ≤ 20)
    (hnext : ∀ k, z ≤ k → ringworklaw01_Rows.l0 k x0 ((i + 1 : Nat) : Int) = some (rowsF (x0.drop (i + 1)))) (n : Nat) : ∀ (j k : Nat), x0[i].length - j ≤ n → j ≤ x0[i].length → n + 1 + z ≤ k →
    ringworklaw01_Rows.l1 k x0 (i : Int) (j : Int) = some ((x0[i].drop j).all shortV && rowsF (x0.drop (i + 1))) := by
  induction n with
  | zero =>
    intro j k hn hj hk
    obtain ⟨k', rfl⟩ : ∃ k', k = k' + 1 := ⟨k - 1, by omega⟩
    unfold ringworklaw01_Rows.l1
    rw [if_pos (by omega), if_pos (by omega), rd4_get x0 i hi, if_neg (by omega), w64 (by omega) (by omega), List.drop_eq_nil_of_le (by omega)]
    simpa using hnext k' (by omega)
  | succ n IH =>
    intro j k hn hj hk
    obtain ⟨k', rfl⟩ : ∃ k', k = k' + 1 := ⟨k - 1, by omega⟩
    unfold ringworklaw01_Rows.l1
    rw [if_pos (by omega), if_pos (by omega), rd4_get x0 i hi]
    by_cases h1 : j < x0[i].length
    · rw [if_pos (by omega), if_pos (by omega), rd_get _ j h1, List.drop_eq_getElem_cons h1, List.all_cons]
      by_cases h2 : ((x0[i][j].f2.size : Int) > 200)
      · rw [if_pos h2, show shortV x0[i][j] = false from decide_eq_false (by omega)]
        simp
      · rw [if_neg h2, show shortV x0[i][j] = true from decide_eq_true (by omega), w64 (by omega) (by omega)]
        have := IH (j + 1) k' (by omega) (by omega) (by omega)
        simpa using this
    · rw [if_neg (by omega), w64 (by omega) (by omega), List.drop_eq_nil_of_le (by omega)]
      simpa using hnext k' (by omega)
theorem rows_out (x0 : List (List S29)) (hl : x0.length ≤ 1000) (n : Nat) : ∀ (i k : Nat), x0.length - i ≤ n → i ≤ x0.length → 22 * n + 1 ≤ k → ringworklaw01_Rows.l0 k x0 (i : Int) = some (rowsF (x0.drop i)) := by
  induction n with
  | zero =>
    intro i k hn hi hk
    obtain ⟨k', rfl⟩ : ∃ k', k = k' + 1 := ⟨k - 1, by omega⟩
    unfold ringworklaw01_Rows.l0
    rw [if_neg (by omega), List.drop_eq_nil_of_le (by omega)]
    rfl
  | succ n IH =>
    intro i k hn hi hk
    obtain ⟨k', rfl⟩ : ∃ k', k = k' + 1 := ⟨k - 1, by omega⟩
    unfold ringworklaw01_Rows.l0
    by_cases h1 : i < x0.length
    · rw [if_pos (by omega), if_pos (by omega), rd4_get x0 i h1, List.drop_eq_getElem_cons h1]
      have e : rowsF (x0[i] :: x0.drop (i + 1)) = (okLenB x0[i] && rowsF (x0.drop (i + 1))) := List.all_cons
      rw [e]
      by_cases h2 : ((x0[i].length : Int) > 20)
      · rw [if_pos h2]
        have : okLenB x0[i] = false := by unfold okLenB; rw [decide_eq_false (by omega)]; rfl
        rw [this]; rfl
      · rw [if_neg h2]
        have h3 := rows_in x0 hl i h1 (22 * n + 1) (by omega) (fun k hk => IH (i + 1) k (by omega) (by omega) hk) 20 0 k' (by omega) (by omega) (by omega)
        have h4 : okLenB x0[i] = (x0[i]).all shortV := by unfold okLenB; rw [decide_eq_true (by omega)]; rfl
        rw [h4]
        simpa using h3
    · rw [if_neg (by omega), List.drop_eq_nil_of_le (by omega)]
      rfl
theorem Rows_is {ls : List (List S29)} {r : Bool} (h : rowsF ls = r) (hl : ls.length ≤ 4) (A : Option Addr) (c : Nat) (w : World) (hr : Kd.C (Kd.slice 29 k29) w A ls.length ls) (hc : ls.length ≤ c) :
    Calls Tryd.prog 10 #[.slice A ls.length c] w fun e w' => e = .returned (.bool r) ∧ Drawn0 w w' := by
  subst h
  refine ringworklaw01_Rows.calls 100 A c ls _ w hr hc ?_
  have := rows_out ls (by omega) 4 0 100 (by omega) (by omega) (by omega)
  simpa [ringworklaw01_Rows.f] using this
/-- Rows that have just been laid in a row of rows. -/
theorem C_rows3 (w : World) (A0 A1 A2 : Option Addr) (c0 c1 c2 : Nat) (a b d : List S29) (h0 : Kd.C k29 w A0 a.length a) (l0 : a.length ≤ c0) (h1 : Kd.C k29 w A1 b.length b) (l1 : b.length ≤ c1) (h2 : Kd.C k29 w A2 d.length d) (l2 : d.length ≤ c2) :
    Kd.C (Kd.slice 29 k29) (w.alloc (.cells #[.slice A0 a.length c0, .slice A1 b.length c1, .slice A2 d.length c2] 23)) (some ⟨w.heap.size, 0, none⟩) 3 [a, b, d] := by
  have hb : Below w.heap.size w (w.alloc (.cells #[.slice A0 a.length c0, .slice A1 b.length c1, .slice A2 d.length c2] 23)) := below_alloc (Below.refl _ _) _
  refine ⟨rfl, by decide, fun _ => ⟨_, rfl, fun j p hj => ?_⟩⟩
  have hcell : ∀ i, (w.alloc (.cells #[.slice A0 a.length c0, .slice A1 b.length c1, .slice A2 d.length c2] 23)).cell? ((⟨w.heap.size, 0, none⟩ : Addr).add i) = (#[.slice A0 a.length c0, .slice A1 b.length c1, .slice A2 d.length c2] : Array Value)[i]? := fun i => by
    have e : (⟨w.heap.size, 0, none⟩ : Addr).add i = ⟨w.heap.size, i, none⟩ := by unfold Addr.add; split <;> simp_all
    rw [e, World.cell?_alloc_new]
  have one : ∀ (v : Value) (i : Nat) (u : Value), ([v] : List Value)[i]? = some u → i = 0 ∧ u = v := fun v i u h => by
    have hi := (List.getElem?_eq_some_iff.1 h).1
    have : i = 0 := by simpa using hi
    subst this
    simp at h
    exact ⟨rfl, h.symm⟩
  match j, hj with
  | 0, hj =>
    cases hj
    exact ⟨[_], rfl, ⟨A0, c0, rfl, l0, Kd.C_below h0 hb⟩, fun i u hu => by
      obtain ⟨rfl, rfl⟩ := one _ _ _ hu
      rw [hcell]; rfl⟩
  | 1, hj =>
    cases hj
    exact ⟨[_], rfl, ⟨A1, c1, rfl, l1, Kd.C_below h1 hb⟩, fun i u hu => by
      obtain ⟨rfl, rfl⟩ := one _ _ _ hu
      rw [hcell]; rfl⟩
  | 2, hj =>
    cases hj
    exact ⟨[_], rfl, ⟨A2, c2, rfl, l2, Kd.C_below h2 hb⟩, fun i u hu => by
      obtain ⟨rfl, rfl⟩ := one _ _ _ hu
      rw [hcell]; rfl⟩
end Go.Proofs.YtibgjfeifpanhaaDoor.B
