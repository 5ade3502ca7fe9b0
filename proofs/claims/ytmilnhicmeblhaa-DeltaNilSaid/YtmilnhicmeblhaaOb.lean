/- Arguments of the delta laws: pushes. -/
import Derived.Test.YtmilnhicmeblhaaOa
namespace Go.Proofs.Ytmilnhicmeblhaa
open Go.ChangeShapes Go.WideShapes Go.ChangeAt Go.RowKit Go.Deep
set_option linter.unusedVariables false
set_option linter.unusedSimpArgs false
set_option maxRecDepth 100000
set_option maxHeartbeats 2000000
theorem three {cs : Array Value} (h : cs.size = 3) : ∃ a b c, cs = #[a, b, c] := by
  obtain ⟨l⟩ := cs
  match l, h with
  | [a, b, c], _ => exact ⟨a, b, c, rfl⟩
theorem csP : Try.prog.cellsOf 50 = 3 := by kernel_rfl
theorem push_cells {H : Type} {enc : TypeId × Value → H} {W : World} {fuel : Nat} {v0 v1 v2 : Value} {x : DataW H × List MemPlace}
    (h : DataW.trod enc Try.prog W 0 (fun _ => true) true fuel 50 [v0, v1, v2] = some x) (hw : ∀ z ∈ x.1.weights Try.prog 50, z ≤ reachBytes) :
    ∃ s u y l, v0 = .string s ∧ v1 = .int .u64 u ∧ v2 = y ∧ RH W y l ∧ WH l ∧ l.length ≤ 140737488355328 ∧ inW u ∧ s.size ≤ maxLen := by
  obtain ⟨xs, k', hk, hxy, _, hxl, hf⟩ := DataW.trod_struct Try.underlying50 h
  match xs, hxl with
  | [y0, y1, y2], _ =>
    have g0 := hf 0 _ rfl
    have g1 := hf 1 _ rfl
    have g2 := hf 2 _ rfl
    simp [cs9, cs32, cs26] at g0 g1 g2
    obtain ⟨s, e0, _, w0⟩ := DataW.trod_string Try.underlying9 g0
    obtain ⟨u, e1, _, w1⟩ := DataW.trod_int Try.underlying32 g1
    simp only [List.cons.injEq, and_true] at e0 e1
    subst e0 e1
    rw [hxy] at hw
    simp only [DataW.weights, Try.underlying50] at hw
    obtain ⟨m, r1, r2, r3⟩ := open_changes g2 (fun z hz => hw z (DataW.weights_mem_each (j := 2) (t := 26) (d := y2.1) rfl rfl z hz))
    exact ⟨s, u, v2, m, rfl, rfl, rfl, r1, r2, r3, bnd_u64 w1, w0⟩
theorem open_push {H : Type} {enc : TypeId × Value → H} {W : World} {fuel base : Nat} {v : Value} {x : DataW H × List MemPlace}
    (o : Value.okWide Try.prog W .any base 50 v) (h : DataW.trod enc Try.prog W 0 (fun _ => true) true fuel 50 v.cells.toList = some x) (hw : ∀ z ∈ x.1.weights Try.prog 50, z ≤ reachBytes) :
    ∃ s u pa pn pc l, v = .agg #[.string s, .int .u64 u, .slice pa pn pc] ∧ RH W (.slice pa pn pc) l ∧ WH l ∧ l.length ≤ 140737488355328 ∧ inW u := by
  obtain ⟨cs, rfl, hsz⟩ := okWide_struct Try.underlying50 o
  rw [csP] at hsz
  obtain ⟨v0, v1, v2, rfl⟩ := three hsz
  obtain ⟨s, u, y, l, rfl, rfl, rfl, h1, h2, h3, h4, _⟩ := push_cells h hw
  obtain ⟨pa, pc, rfl⟩ := h1.at_
  exact ⟨s, u, pa, _, pc, l, rfl, h1, h2, h3, h4⟩
end Go.Proofs.Ytmilnhicmeblhaa
