/- Arguments of the delta laws: their lengths, sharper. -/
import Derived.Test.YtmilnhicmeblhaaOa
namespace Go.Proofs.Ytmilnhicmeblhaa
open Go.ChangeShapes Go.WideShapes Go.ChangeAt Go.RowKit Go.Deep
set_option linter.unusedVariables false
set_option linter.unusedSimpArgs false
set_option maxRecDepth 100000
set_option maxHeartbeats 2000000
theorem open_counts24 {H : Type} {enc : TypeId × Value → H} {W : World} {fuel : Nat} {v : Value} {x : DataW H × List MemPlace}
    (h : DataW.trod enc Try.prog W 0 (fun _ => true) true fuel 24 [v] = some x) (hw : ∀ z ∈ x.1.weights Try.prog 24, z ≤ reachBytes) :
    ∃ l : List Ct, RC W v l ∧ WC l ∧ l.length * 24 ≤ 140737488355328 := by
  obtain ⟨l, h1, h2, h3⟩ := RD.open_ (s := 2) (bt := 24) ctf (fun a => inW a.2) Try.underlying24 (by kernel_rfl) (by decide) (by kernel_rfl) (fun a => rfl) h hw (by
    intro n cs y hy _ hlen
    obtain ⟨xs, k', hk, hxy, _, hxl, hf⟩ := DataW.trod_struct Try.underlying38 hy
    match xs, hxl, cs, hlen with
    | [y0, y1], _, [v0, v1], _ =>
      have g0 := hf 0 _ rfl
      have g1 := hf 1 _ rfl
      simp [cs9, cs32] at g0 g1
      obtain ⟨s, e0, _, w0⟩ := DataW.trod_string Try.underlying9 g0
      obtain ⟨u, e1, _, w1⟩ := DataW.trod_int Try.underlying32 g1
      simp only [List.cons.injEq, and_true] at e0 e1
      subst e0 e1
      exact ⟨(s, u), rfl, bnd_u64 w1⟩)
  have hr : reachBytes < 2 ^ 47 := reachBytes_lt
  exact ⟨l, h1, h2, by omega⟩
theorem open_countss24 {H : Type} {enc : TypeId × Value → H} {W : World} {fuel : Nat} {v : Value} {x : DataW H × List MemPlace}
    (h : DataW.trod enc Try.prog W 0 (fun _ => true) true fuel 22 [v] = some x) (hw : ∀ z ∈ x.1.weights Try.prog 22, z ≤ reachBytes) :
    ∃ l : List Cv2, RD W 1 v l.length (flat1 l) ∧ (∀ a ∈ l, RC W a.1 a.2 ∧ WC a.2 ∧ a.2.length * 24 ≤ 140737488355328) ∧ l.length ≤ 5864062014805 := by
  obtain ⟨l, h1, h2, h3⟩ := RD.open_ (s := 1) (bt := 24) (fun a : Cv2 => [a.1]) (fun a => RC W a.1 a.2 ∧ WC a.2 ∧ a.2.length * 24 ≤ 140737488355328) Try.underlying22 (by kernel_rfl) (by decide) (by kernel_rfl) (fun a => rfl) h hw (by
    intro n cs y hy hwy hlen
    match cs, hlen with
    | [v0], _ =>
      obtain ⟨m, r1, r2, r3⟩ := open_counts24 hy hwy
      exact ⟨(v0, m), rfl, r1, r2, r3⟩)
  have hr : reachBytes < 2 ^ 47 := reachBytes_lt
  exact ⟨l, h1, h2, by omega⟩
end Go.Proofs.Ytmilnhicmeblhaa
