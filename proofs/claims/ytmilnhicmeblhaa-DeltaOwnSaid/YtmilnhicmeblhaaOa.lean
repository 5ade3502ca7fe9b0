/- Arguments of the delta laws. -/
import Derived.Test.YtmilnhicmeblhaaPm
import Derived.Test.YtmilnhicmeblhaaOp
namespace Go.Proofs.Ytmilnhicmeblhaa
open Go.ChangeShapes Go.WideShapes Go.ChangeAt Go.RowKit Go.Deep
set_option linter.unusedVariables false
set_option linter.unusedSimpArgs false
set_option maxRecDepth 100000
set_option maxHeartbeats 2000000
theorem own : ownKnob Try.prog.godebug = none := by kernel_rfl
theorem laidOut : laidOutB Try.prog = true := by kernel_rfl
theorem cs9 : Try.prog.cellsOf 9 = 1 := by kernel_rfl
theorem cs32 : Try.prog.cellsOf 32 = 1 := by kernel_rfl
theorem cs4 : Try.prog.cellsOf 4 = 1 := by kernel_rfl
theorem cs3 : Try.prog.cellsOf 3 = 1 := by kernel_rfl
theorem cs24 : Try.prog.cellsOf 24 = 1 := by kernel_rfl
theorem cs26 : Try.prog.cellsOf 26 = 1 := by kernel_rfl
def ctf (a : Ct) : List Value := [.string a.1, .int .u64 a.2]
def chf (a : Ch) : List Value := [.string a.1, .int .u64 a.2.1, .bool a.2.2.1, .bool a.2.2.2]
theorem open_counts {H : Type} {enc : TypeId × Value → H} {W : World} {fuel : Nat} {v : Value} {x : DataW H × List MemPlace}
    (h : DataW.trod enc Try.prog W 0 (fun _ => true) true fuel 24 [v] = some x) (hw : ∀ z ∈ x.1.weights Try.prog 24, z ≤ reachBytes) :
    ∃ l : List Ct, RC W v l ∧ WC l ∧ l.length ≤ 140737488355328 := by
  obtain ⟨l, h1, h2, h3⟩ := RD.open_ (s := 2) (bt := 24) ctf (fun a => inW a.2) Try.underlying24 (by kernel_rfl) (by decide) (by kernel_rfl) (fun a => rfl) h hw (by
    intro n cs y hy _ hlen
    obtain ⟨xs, k', hk, hxy, _, hxl, hf⟩ := DataW.trod_struct Try.underlying38 hy
    match xs, hxl, cs, hlen with
    | [y0, y1], _, [v0, v1], _ =>
      have g0 := hf 0 _ rfl
      have g1 := hf 1 _ rfl
      simp [cs9, cs32] at g0 g1
      obtain ⟨s, e0, _, w0⟩ := DataW.trod_string Try.underlying9 g0
      obtain ⟨u, e1, _, w1⟩ := DataW.trod_int Try.underlying32 g1
      simp only [List.cons.injEq, and_true] at e0 e1
      subst e0 e1
      exact ⟨(s, u), rfl, bnd_u64 w1⟩)
  have hr : reachBytes < 2 ^ 47 := reachBytes_lt
  exact ⟨l, h1, h2, by omega⟩
theorem open_changes {H : Type} {enc : TypeId × Value → H} {W : World} {fuel : Nat} {v : Value} {x : DataW H × List MemPlace}
    (h : DataW.trod enc Try.prog W 0 (fun _ => true) true fuel 26 [v] = some x) (hw : ∀ z ∈ x.1.weights Try.prog 26, z ≤ reachBytes) :
    ∃ l : List Ch, RH W v l ∧ WH l ∧ l.length ≤ 140737488355328 := by
  obtain ⟨l, h1, h2, h3⟩ := RD.open_ (s := 4) (bt := 32) chf (fun a => inW a.2.1) Try.underlying26 (by kernel_rfl) (by decide) (by kernel_rfl) (fun a => rfl) h hw (by
    intro n cs y hy _ hlen
    obtain ⟨xs, k', hk, hxy, _, hxl, hf⟩ := DataW.trod_struct Try.underlying34 hy
    match xs, hxl, cs, hlen with
    | [y0, y1, y2, y3], _, [v0, v1, v2, v3], _ =>
      have g0 := hf 0 _ rfl
      have g1 := hf 1 _ rfl
      have g2 := hf 2 _ rfl
      have g3 := hf 3 _ rfl
      simp [cs9, cs32, cs4] at g0 g1 g2 g3
      obtain ⟨s, e0, _, w0⟩ := DataW.trod_string Try.underlying9 g0
      obtain ⟨u, e1, _, w1⟩ := DataW.trod_int Try.underlying32 g1
      obtain ⟨r, e2, _⟩ := DataW.trod_bool Try.underlying4 g2
      obtain ⟨q, e3, _⟩ := DataW.trod_bool Try.underlying4 g3
      simp only [List.cons.injEq, and_true] at e0 e1 e2 e3
      subst e0 e1 e2 e3
      exact ⟨(s, u, r, q), rfl, bnd_u64 w1⟩)
  have hr : reachBytes < 2 ^ 47 := reachBytes_lt
  exact ⟨l, h1, h2, by omega⟩
/-- A slice of lists of counts. -/
abbrev Cv2 := Value × List Ct
def flat1 (l : List Cv2) : List Value := l.flatMap fun a => [a.1]
theorem open_countss {H : Type} {enc : TypeId × Value → H} {W : World} {fuel : Nat} {v : Value} {x : DataW H × List MemPlace}
    (h : DataW.trod enc Try.prog W 0 (fun _ => true) true fuel 22 [v] = some x) (hw : ∀ z ∈ x.1.weights Try.prog 22, z ≤ reachBytes) :
    ∃ l : List Cv2, RD W 1 v l.length (flat1 l) ∧ (∀ a ∈ l, RC W a.1 a.2 ∧ WC a.2 ∧ a.2.length ≤ 140737488355328) ∧ l.length ≤ 5864062014806 := by
  obtain ⟨l, h1, h2, h3⟩ := RD.open_ (s := 1) (bt := 24) (fun a : Cv2 => [a.1]) (fun a => RC W a.1 a.2 ∧ WC a.2 ∧ a.2.length ≤ 140737488355328) Try.underlying22 (by kernel_rfl) (by decide) (by kernel_rfl) (fun a => rfl) h hw (by
    intro n cs y hy hwy hlen
    match cs, hlen with
    | [v0], _ =>
      obtain ⟨m, r1, r2, r3⟩ := open_counts hy hwy
      exact ⟨(v0, m), rfl, r1, r2, r3⟩)
  have hr : reachBytes < 2 ^ 47 := reachBytes_lt
  exact ⟨l, h1, h2, by omega⟩
end Go.Proofs.Ytmilnhicmeblhaa
