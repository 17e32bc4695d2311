/- Rows of items that came in; which items the laws look at. -/
import Derived.Test.YtibgjfeifpanhaaDoorR1
import Derived.Test.YtibgjfeifpanhaaDoorV4
set_option linter.unusedVariables false
set_option linter.unusedSimpArgs false
namespace Go.Proofs.YtibgjfeifpanhaaDoor.B
open Go.RowKit Go.Deep Go.ChangeShapes Go.WideShapes Go.Proofs.YtibgjfeifpanhaaDoorW.PrintWords Go.Maps PItemValid

section
variable {H : Type} {enc : TypeId × Value → H} {W : World} {held : Bool}
set_option maxRecDepth 100000 in
theorem open_items_C {a : Option Addr} {len cap fuel : Nat} {x : DataW H × List MemPlace} (h : DataW.trod enc Tryd.prog W 0 (fun _ => true) held fuel 22 [.slice a len cap] = some x) :
    ∃ l : List S32, l.length = len ∧ len ≤ cap ∧ Kd.C k32 W a l.length l := by
  refine open_C k32 Tryd.underlying22 (by kernel_rfl) (fun n cs y hy => ?_) h
  obtain ⟨xs, m, _, _, hl, hn, hf⟩ := DataW.trod_struct Tryd.underlying32 hy
  have hc : Tryd.prog.cellsOf 32 = 5 := by kernel_rfl
  have hc3 : Tryd.prog.cellsOf 3 = 1 := by kernel_rfl
  have hc9 : Tryd.prog.cellsOf 9 = 1 := by kernel_rfl
  rw [hc] at hl
  match cs, hl with
  | [u0, u1, u2, u3, u4], _ =>
    match xs, hn with
    | [x0, x1, x2, x3, x4], _ =>
      have h0 := hf 0 _ rfl
      have h1 := hf 1 _ rfl
      have h2 := hf 2 _ rfl
      have h3 := hf 3 _ rfl
      have h4 := hf 4 _ rfl
      simp [hc3, hc9] at h0 h1 h2 h3 h4
      obtain ⟨s0, e0, _, _⟩ := DataW.trod_string Tryd.underlying9 h0
      obtain ⟨n1, e1, _, _⟩ := DataW.trod_int Tryd.underlying3 h1
      obtain ⟨n2, e2, _, _⟩ := DataW.trod_int Tryd.underlying3 h2
      obtain ⟨n3, e3, _, _⟩ := DataW.trod_int Tryd.underlying3 h3
      obtain ⟨n4, e4, _, _⟩ := DataW.trod_int Tryd.underlying3 h4
      simp at e0 e1 e2 e3 e4
      subst e0 e1 e2 e3 e4
      exact ⟨⟨s0, n1, n2, n3, n4⟩, k32_mk _ _⟩
end
theorem items_end (l : List S32) (i k : Nat) (h : 20 ≤ i ∨ l.length ≤ i) : ringworklaw01_Items.l0 (k + 2) l (i : Int) = some (decide ((l.length : Int) ≤ 20)) := by
  unfold ringworklaw01_Items.l0
  by_cases h1 : i < l.length
  · rw [if_pos (by omega), show decide ((i : Int) < 20) = false from decide_eq_false (by omega)]
    unfold ringworklaw01_Items.j1
    rw [if_neg (by simp)]
  · rw [if_neg (by omega)]
    unfold ringworklaw01_Items.j1
    rw [if_neg (by simp)]
theorem items_loop (l : List S32) (n : Nat) : ∀ (i k : Nat), 20 - i ≤ n → i ≤ 20 → 2 * n + 3 ≤ k → ∃ r, ringworklaw01_Items.l0 k l (i : Int) = some r ∧ (r = true → l.length ≤ 20) := by
  induction n with
  | zero =>
    intro i k hn hi hk
    obtain ⟨k', rfl⟩ : ∃ k', k = k' + 2 := ⟨k - 2, by omega⟩
    exact ⟨_, items_end l i k' (.inl (by omega)), fun h => by have := of_decide_eq_true h; omega⟩
  | succ n IH =>
    intro i k hn hi hk
    obtain ⟨k', rfl⟩ : ∃ k', k = k' + 2 := ⟨k - 2, by omega⟩
    by_cases h0 : 20 ≤ i ∨ l.length ≤ i
    · exact ⟨_, items_end l i k' h0, fun h => by have := of_decide_eq_true h; omega⟩
    · unfold ringworklaw01_Items.l0
      rw [if_pos (by omega), show decide ((i : Int) < 20) = true from decide_eq_true (by omega)]
      unfold ringworklaw01_Items.j1
      rw [if_pos rfl, if_pos (by omega), if_pos (by omega)]
      by_cases h1 : ((rd_T32 l (i : Int)).f0.size : Int) > 100
      · rw [if_pos h1]
        exact ⟨false, rfl, fun h => by cases h⟩
      · rw [if_neg h1, w64 (by omega) (by omega)]
        have := IH (i + 1) k' (by omega) (by omega) (by omega)
        simpa using this
theorem Items_calls (A : Option Addr) (c : Nat) (l : List S32) (w : World) (hr : Kd.C k32 w A l.length l) (hc : l.length ≤ c) :
    ∃ r, (r = true → l.length ≤ 20) ∧ Calls Tryd.prog 9 #[.slice A l.length c] w fun e w' => e = .returned (.bool r) ∧ Drawn0 w w' := by
  obtain ⟨r, h1, h2⟩ := items_loop l 20 0 60 (by omega) (by omega) (by omega)
  exact ⟨r, h2, ringworklaw01_Items.calls 60 A c l r w hr hc (by simpa [ringworklaw01_Items.f] using h1)⟩
end Go.Proofs.YtibgjfeifpanhaaDoor.B
