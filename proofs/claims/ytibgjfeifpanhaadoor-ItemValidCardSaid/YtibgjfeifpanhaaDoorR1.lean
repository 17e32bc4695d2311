/- Arguments that came in: rows of values, of items, of names. -/
import Derived.Deep.Matrix
import Derived.ChangeSame
import Derived.Test.YtibgjfeifpanhaaDoorE4
set_option linter.unusedVariables false
set_option linter.unusedSimpArgs false
namespace Go.Proofs.YtibgjfeifpanhaaDoor.B
open Go.RowKit Go.Deep Go.ChangeShapes Go.WideShapes Go.Proofs.YtibgjfeifpanhaaDoorW.PrintWords Go.Maps PItemValid

theorem add_add (a : Addr) (x y : Nat) : (a.add x).add y = a.add (x + y) := by
  unfold Addr.add
  split <;> split <;> split <;> simp_all <;> omega
instance : Inhabited S29 := ⟨z29⟩
instance : Inhabited S32 := ⟨z32⟩
section
variable {H : Type} {enc : TypeId × Value → H} {W : World} {held : Bool}
/-- A slice that came in, of elements that a kind reads. -/
theorem open_C {α : Type} [Inhabited α] (d : Kd α) {t e : TypeId} (ht : Tryd.prog.underlying t = some (.slice e)) (hce : Tryd.prog.cellsOf e = d.sz)
    (hel : ∀ n cs y, DataW.trod enc Tryd.prog W 0 (fun _ => true) held n e cs = some y → ∃ x, d.K W x cs)
    {a : Option Addr} {len cap fuel : Nat} {x : DataW H × List MemPlace} (h : DataW.trod enc Tryd.prog W 0 (fun _ => true) held fuel t [.slice a len cap] = some x) :
    ∃ l : List α, l.length = len ∧ len ≤ cap ∧ Kd.C d W a l.length l := by
  rcases DataW.trod_slice ht h with ⟨hcs, _⟩ | ⟨a', len', cap', elems, rest, n, _, hcs, _, _, hl, hm, hlen, hall, _⟩
  · simp at hcs
    obtain ⟨rfl, rfl, rfl⟩ := hcs
    exact ⟨[], rfl, Nat.le_refl _, Kd.C_nil _ W⟩
  · simp at hcs
    obtain ⟨rfl, rfl, rfl⟩ := hcs
    have each : ∀ j, j < len → ∃ p : α, ∃ cs : List Value, cs.length = d.sz ∧ d.K W p cs ∧ ∀ i u, cs[i]? = some u → W.cell? (a'.add (j * d.sz + i)) = some u := by
      intro j hj
      have h1 := hall j hj
      rw [List.getElem?_eq_getElem (by omega), Option.bind_eq_some_iff] at h1
      obtain ⟨cs, hcs, hy⟩ := h1
      obtain ⟨p, hp⟩ := hel _ _ _ hy
      obtain ⟨_, hcl, hc⟩ := World.cells?_some hcs
      refine ⟨p, cs, hcl.trans hce, hp, fun i u hu => ?_⟩
      have hi : i < cs.length := (List.getElem?_eq_some_iff.1 hu).1
      have h2 := hc i (by omega)
      rw [add_add, hce] at h2
      exact h2.trans hu
    obtain ⟨f, hf⟩ := choose_lt each
    have hln : ((List.range len).map f).length = len := by simp
    refine ⟨(List.range len).map f, hln, hl, rfl, by rw [hln]; have : maxLen = 9223372036854775807 := rfl; omega, fun _ => ⟨a', rfl, fun j p hj => ?_⟩⟩
    have hjl : j < len := by have := (List.getElem?_eq_some_iff.1 hj).1; omega
    simp [hjl] at hj
    subst hj
    exact hf j hjl
set_option maxRecDepth 100000 in
theorem open_vals_C {a : Option Addr} {len cap fuel : Nat} {x : DataW H × List MemPlace} (h : DataW.trod enc Tryd.prog W 0 (fun _ => true) held fuel 23 [.slice a len cap] = some x) :
    ∃ l : List S29, l.length = len ∧ len ≤ cap ∧ Kd.C k29 W a l.length l := by
  refine open_C k29 Tryd.underlying23 (by kernel_rfl) (fun n cs y hy => ?_) h
  obtain ⟨xs, m, _, _, hl, hn, hf⟩ := DataW.trod_struct Tryd.underlying29 hy
  have hc : Tryd.prog.cellsOf 29 = 3 := by kernel_rfl
  have hc3 : Tryd.prog.cellsOf 3 = 1 := by kernel_rfl
  have hc9 : Tryd.prog.cellsOf 9 = 1 := by kernel_rfl
  rw [hc] at hl
  match cs, hl with
  | [u0, u1, u2], _ =>
    match xs, hn with
    | [x0, x1, x2], _ =>
      have h0 := hf 0 _ rfl
      have h1 := hf 1 _ rfl
      have h2 := hf 2 _ rfl
      simp [hc3, hc9] at h0 h1 h2
      obtain ⟨n0, e0, _, _⟩ := DataW.trod_int Tryd.underlying3 h0
      obtain ⟨n1, e1, _, _⟩ := DataW.trod_int Tryd.underlying3 h1
      obtain ⟨s2, e2, _, _⟩ := DataW.trod_string Tryd.underlying9 h2
      simp at e0 e1 e2
      subst e0 e1 e2
      exact ⟨⟨n0, n1, s2⟩, k29_mk _ _⟩
end
end Go.Proofs.YtibgjfeifpanhaaDoor.B
