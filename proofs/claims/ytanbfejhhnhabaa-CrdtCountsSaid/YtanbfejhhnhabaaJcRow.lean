/- PROVED HERE: abacuslaw23.CrdtCounts answers true for every input (a counter's New, Add, Sub, Take, State and Value are what the reference says, and a state only grows), and leaves its arguments as they were. CONDITIONS: the call runs in one goroutine; an argument takes at most 2^47 - 4096 bytes. -/
import Derived.Test.YtanbfejhhnhabaaJc12
namespace Go.Proofs.Ytanbfejhhnhabaa.CrdtCounts
open Go.ChangeShapes Go.WideShapes Go.ChangeAt Go.RowKit Go.Deep
set_option linter.unusedVariables false
set_option maxRecDepth 100000
set_option maxHeartbeats 2000000
theorem own : ownKnob Try.prog.godebug = none := by kernel_rfl
theorem laidOut : laidOutB Try.prog = true := by kernel_rfl
def ndf (a : Nd) : List Value := [.string a.1, .int .u64 a.2.1, .int .u64 a.2.2]
/-- Any argument of nodes. -/
theorem open_nodes {H : Type} {enc : TypeId × Value → H} {W : World} {fuel : Nat} {v : Value} {x : DataW H × List MemPlace}
    (h : DataW.trod enc Try.prog W 0 (fun _ => true) true fuel 28 [v] = some x) (hw : ∀ z ∈ x.1.weights Try.prog 28, z ≤ reachBytes) :
    ∃ l : List Nd, RN W v l ∧ Arg l := by
  obtain ⟨l, h1, h2, h3⟩ := RD.open_ (s := 3) (bt := 32) ndf (fun a => a.1.size ≤ maxLen ∧ 0 ≤ a.2.1 ∧ 0 ≤ a.2.2) Try.underlying28 (by kernel_rfl) (by decide) (by kernel_rfl) (fun a => rfl) h hw (by
    intro n cs y hy _ hlen
    obtain ⟨xs, k', hk, hxy, _, hxl, hf⟩ := DataW.trod_struct Try.underlying33 hy
    match xs, hxl, cs, hlen with
    | [y0, y1, y2], _, [v0, v1, v2], _ =>
      have g0 := hf 0 _ rfl
      have g1 := hf 1 _ rfl
      have g2 := hf 2 _ rfl
      have cs9 : Try.prog.cellsOf 9 = 1 := by kernel_rfl
      have cs31 : Try.prog.cellsOf 31 = 1 := by kernel_rfl
      simp [cs9, cs31] at g0 g1 g2
      obtain ⟨s, e0, _, w0⟩ := DataW.trod_string Try.underlying9 g0
      obtain ⟨u, e1, _, w1⟩ := DataW.trod_int Try.underlying31 g1
      obtain ⟨d, e2, _, w2⟩ := DataW.trod_int Try.underlying31 g2
      simp only [List.cons.injEq, and_true] at e0 e1 e2
      subst e0 e1 e2
      have b1 := bnd_u64 w1
      have b2 := bnd_u64 w2
      exact ⟨(s, u, d), rfl, w0, b1.1, b2.1⟩)
  have hr : reachBytes < 2 ^ 47 := reachBytes_lt
  exact ⟨l, h1, fun a ha => (h2 a ha).1, fun a ha => (h2 a ha).2, by omega⟩
def mvf (a : Mv) : List Value := [.int .i64 a.k, .int .u64 a.n, a.v]
theorem open_moves {H : Type} {enc : TypeId × Value → H} {W : World} {fuel : Nat} {v : Value} {x : DataW H × List MemPlace}
    (h : DataW.trod enc Try.prog W 0 (fun _ => true) true fuel 22 [v] = some x) (hw : ∀ z ∈ x.1.weights Try.prog 22, z ≤ reachBytes) :
    ∃ l : List Mv, RD W 3 v l.length (flatM l) ∧ MArg W l := by
  obtain ⟨l, h1, h2, h3⟩ := RD.open_ (s := 3) (bt := 40) mvf (fun a => (RN W a.v a.l ∧ Arg a.l) ∧ 0 ≤ a.n ∧ a.n < 18446744073709551616) Try.underlying22 (by kernel_rfl) (by decide) (by kernel_rfl) (fun a => rfl) h hw (by
    intro n cs y hy hwy hlen
    obtain ⟨xs, k', hk, hxy, _, hxl, hf⟩ := DataW.trod_struct Try.underlying37 hy
    match xs, hxl, cs, hlen with
    | [y0, y1, y2], _, [v0, v1, v2], _ =>
      have g0 := hf 0 _ rfl
      have g1 := hf 1 _ rfl
      have g2 := hf 2 _ rfl
      have cs3 : Try.prog.cellsOf 3 = 1 := by kernel_rfl
      have cs31 : Try.prog.cellsOf 31 = 1 := by kernel_rfl
      have cs28 : Try.prog.cellsOf 28 = 1 := by kernel_rfl
      simp [cs3, cs31, cs28] at g0 g1 g2
      obtain ⟨k, e0, _, w0⟩ := DataW.trod_int Try.underlying3 g0
      obtain ⟨u, e1, _, w1⟩ := DataW.trod_int Try.underlying31 g1
      simp only [List.cons.injEq, and_true] at e0 e1
      subst e0 e1
      have b1 := bnd_u64 w1
      rw [hxy] at hwy
      simp only [DataW.weights, Try.underlying37] at hwy
      obtain ⟨m, r1, r2⟩ := open_nodes g2 (fun z hz => hwy z (DataW.weights_mem_each (j := 2) (t := 28) (d := y2.1) rfl rfl z hz))
      exact ⟨⟨k, u, v2, m⟩, rfl, ⟨r1, r2⟩, b1.1, b1.2⟩)
  have hr : reachBytes < 2 ^ 47 := reachBytes_lt
  exact ⟨l, h1, ⟨fun a ha => (h2 a ha).1.1, fun a ha => (h2 a ha).1.2, fun a ha => (h2 a ha).2, by omega⟩⟩
/-- What the walk gives, for every argument. -/
theorem contract (H : Type) (enc : TypeId × Value → H) (W : World) (base : Nat) (args : Array Value) (ds gs : List (DataW H)) (before : List MemPlace)
    (hval : ∀ (j : Nat) t v, Try.f3.params[j]? = some t → args[j]? = some v → Value.okWide Try.prog W .any base t v)
    (hW : DataW.Whole enc Try.prog Try.f3.params.toList Rows.crdtCountsSpec.vars false W args.toList ds gs before)
    (hsz : (DataW.weightsEach Try.prog (Try.f3.params.toList ++ Rows.crdtCountsSpec.plain.varTypes Try.prog) (ds ++ gs)).all (· ≤ reachBytes) = true) :
    Calls Try.prog 3 args W fun e W' => ∃ v, e = .returned v ∧ Rows.crdtCountsSpec.post enc Try.prog Try.f3 false true false false W args v W' := by
  have hW' := hW
  obtain ⟨p, q, hA0, hV, rfl, hfz, hnd⟩ := hW
  have hA : DataW.TrodAll enc Try.prog W 0 (fun _ => true) true Try.f3.params.toList args.toList ds p := hA0
  rw [Try.params3] at hA hval hsz
  obtain ⟨v1, vs1, d1, ds1, p1, q1, hargs, rfl, rfl, h1, r1⟩ := trodAll_cons hA
  obtain ⟨v2, vs2, d2, ds2, p2, q2, rfl, rfl, rfl, h2, r2⟩ := trodAll_cons r1
  obtain ⟨rfl, rfl, rfl⟩ := trodAll_nil r2
  obtain rfl : args = #[v1, v2] := by cases args; simp_all
  obtain ⟨rfl, rfl⟩ := trodVars_none hV
  have k1 := h1
  have k2 := h2
  have lt1 : ∀ x ∈ p1, x.block < W.heap.size := by obtain ⟨m, hm⟩ := k1; exact DataW.trod_lt m _ _ _ hm
  have lt2 : ∀ x ∈ p2, x.block < W.heap.size := by obtain ⟨m, hm⟩ := k2; exact DataW.trod_lt m _ _ _ hm
  have o1 := hval 0 9 v1 rfl rfl
  have o2 := hval 1 22 v2 rfl rfl
  obtain ⟨a2, n2, c2, rfl⟩ := okWide_slice Try.underlying22 o2
  clear hA0
  obtain ⟨m1, g1⟩ := h1
  obtain ⟨m2, g2⟩ := h2
  obtain ⟨nm, rfl⟩ := okWide_string Try.underlying9 o1
  obtain ⟨s1, e1, _, w1⟩ := DataW.trod_string Try.underlying9 g1
  simp [Value.cells] at e1
  subst e1
  obtain ⟨l2, R2, A2⟩ := open_moves g2 (wts_arg hsz (j := 1) (t := 22) rfl rfl)
  have walk : Calls Try.prog 3 #[.string nm, .slice a2 n2 c2] W fun e w' => e = .returned (.bool true) ∧ Fr [] W w' := by
    cases hn : nameF nm with
    | true => exact counts_ok nm _ l2 W hn R2 A2
    | false => exact counts_bad nm _ W hn w1
  refine walk.mono fun e W' ⟨he, hF⟩ => ?_
  subst he
  have bel : Below W.heap.size W W' := hF.below (Nat.le_refl _) (by simp)
  exact ⟨_, rfl, _, _, _, [], _, [], hW', trodAll_mk1 (shut_bool Try.underlying4 _), (trodAll_cons_mk (Below.trod laidOut (by kernel_rfl) (of_decide_eq_true (by kernel_rfl)) k1 bel lt1) (trodAll_cons_mk (Below.trod laidOut (by kernel_rfl) (of_decide_eq_true (by kernel_rfl)) k2 bel lt2) trodAll_mk0)), rfl, bel.frame _, fun h => by cases h⟩
set_option maxRecDepth 100000 in
theorem lifted (os : Os) (started : os.Started) (H : Type) (enc : TypeId × Value → H) :
    ReturnsInHanded {} Try.checked os 3 .any (Rows.crdtCountsSpec.pre6 enc Try.prog Try.f3 Rows.crdtCountsRow.domain false) (Rows.crdtCountsSpec.post enc Try.prog Try.f3 false true false false) := by
  refine returnsInHanded_of_change_sized (C := Try.checked) own started (by kernel_rfl) Try.func3
    (ChangeSpec.witness6 (enc := enc) (C := Try.checked) false ⟨#[], #[.string ByteArray.empty, .slice none 0 0], []⟩ 8 (by kernel_rfl) (by kernel_rfl) (by kernel_rfl) (by kernel_rfl)) ?_
  intro W base args ds gs before hval hW _ hsz _
  exact contract H enc W base args ds gs before hval hW hsz
theorem said : Rows.CrdtCountsSaid :=
  OpenClaim.holds_of_wide 3 Try.f3 rfl rfl rfl rfl rfl rfl rfl ⟨rfl, rfl, rfl, rfl, rfl⟩ rfl rfl rfl rfl rfl (by kernel_rfl) Try.func3 (by kernel_rfl)
    (of_decide_eq_true (by kernel_rfl)) (by unfold Func.isWrapper; first | (rw [if_pos (by decide +kernel)]; kernel_rfl) | (rw [if_neg (by decide +kernel)]; exact ⟨rfl, rfl⟩))
    (fun os started H enc _ => lifted os started H enc)
end Go.Proofs.Ytanbfejhhnhabaa.CrdtCounts
namespace Go.Proofs.Ytanbfejhhnhabaa
theorem crdtCounts_holds : Rows.CrdtCountsSaid := CrdtCounts.said
#print axioms crdtCounts_holds
end Go.Proofs.Ytanbfejhhnhabaa
