/- PROVED HERE: abacuslaw23.CrdtStates answers true for every input (Check, Merge, Below, Value, Delta and Later are what the reference says, and the arguments stay), and leaves its arguments as they were. CONDITIONS: the call runs in one goroutine; an argument takes at most 2^47 - 4096 bytes. -/
import Derived.Test.YtanbfejhhnhabaaJs1
import Derived.WalkKit
import Derived.ProofKit
import Derived.OpenShut
import Derived.ChangeOld
import Derived.Below
import Derived.SizedLaws
import Derived.Deep.SlicePairs
import Derived.Test.YtanbfejhhnhabaaJs11
/- Arguments that are slices, also slices in slices: what a law's walk may know of them. -/
namespace Go.Proofs.Ytanbfejhhnhabaa
open Go.ChangeShapes Go.WideShapes Go.ChangeAt Go.RowKit Go.Deep
set_option linter.unusedVariables false
set_option linter.unusedSimpArgs false
set_option maxRecDepth 100000
set_option maxHeartbeats 2000000
theorem flatMap_len {α : Type} {f : α → List Value} {s : Nat} (hf : ∀ a, (f a).length = s) (l : List α) : (l.flatMap f).length = l.length * s := by
  induction l with
  | nil => simp
  | cons a r ih => simp only [List.flatMap_cons, List.length_append, List.length_cons, ih, hf, Nat.add_mul]; omega
theorem flatMap_at {α : Type} {f : α → List Value} {s : Nat} (hf : ∀ a, (f a).length = s) : ∀ (l : List α) (i : Nat) (a : α) (r : Nat), l[i]? = some a → r < s → (l.flatMap f)[i * s + r]? = (f a)[r]?
  | [], i, a, r, h, _ => by simp at h
  | x :: l, 0, a, r, h, hr => by
    simp at h
    subst h
    rw [List.flatMap_cons, List.getElem?_append_left (by rw [hf]; omega)]
    simp
  | x :: l, i + 1, a, r, h, hr => by
    have := flatMap_at hf l i a r (by simpa using h) hr
    rw [List.flatMap_cons, List.getElem?_append_right (by rw [hf, Nat.add_mul]; omega), hf, Nat.add_mul]
    rw [show i * s + 1 * s + r - s = i * s + r by omega]
    exact this
theorem add_none (b o j : Nat) : (⟨b, o, none⟩ : Addr).add j = ⟨b, o + j, none⟩ := by
  unfold Addr.add
  split <;> simp_all
theorem cell_lt {w : World} {a : Addr} {v : Value} (h : w.cell? a = some v) : a.spot = none ∧ a.block < w.heap.size := by
  unfold World.cell? at h
  split at h
  · rename_i c _ _ hb
    split at h
    · cases h
    · rename_i hs
      refine ⟨by simpa using hs, ?_⟩
      rcases Nat.lt_or_ge a.block w.heap.size with hl | hl
      · exact hl
      · rw [Array.getElem?_eq_none hl] at hb; cases hb
  · cases h
theorem wts_all {H : Type} {P : Program} {e : TypeId} : ∀ {ds : List (DataW H)} {d : DataW H}, d ∈ ds → ∀ z ∈ d.weights P e, z ∈ DataW.weightsAll P e ds
  | [], d, h, z, hz => by cases h
  | x :: r, d, h, z, hz => by
    simp only [DataW.weightsAll, List.mem_append]
    rcases List.mem_cons.1 h with rfl | h
    · exact .inl hz
    · exact .inr (wts_all h z hz)
/-- A slice of elements that one function tells by their cells. -/
theorem RD.open_ {H : Type} {enc : TypeId × Value → H} {P : Program} {W : World} {t e : TypeId} {fuel s bt : Nat} {v : Value} {x : DataW H × List MemPlace} {α : Type} (f : α → List Value) (G : α → Prop)
    (ht : P.underlying t = some (.slice e)) (hs : P.cellsOf e = s) (hs0 : 0 < s) (hb : P.bytesOf e = bt) (hf : ∀ a, (f a).length = s)
    (h : DataW.trod enc P W 0 (fun _ => true) true fuel t [v] = some x) (hw : ∀ z ∈ x.1.weights P t, z ≤ reachBytes)
    (dec : ∀ (n : Nat) (cs : List Value) (y : DataW H × List MemPlace), DataW.trod enc P W 0 (fun _ => true) true n e cs = some y → (∀ z ∈ y.1.weights P e, z ≤ reachBytes) → cs.length = s → ∃ a, cs = f a ∧ G a) :
    ∃ l : List α, RD W s v l.length (l.flatMap f) ∧ (∀ a ∈ l, G a) ∧ l.length * bt ≤ reachBytes := by
  rcases open_slice ht h with ⟨h0, _⟩ | ⟨a, n, c, m, k, D, Pl, hcs, _, hl, hm, hmm, hx, hD⟩
  · simp at h0
    subst h0
    exact ⟨[], RD.nil _ _, by simp, by simp⟩
  · simp at hcs
    subst hcs
    rw [if_pos rfl] at hmm
    subst hmm
    rw [hx] at hw
    simp only [DataW.weights, ht, hb] at hw
    have hlen := hw ((((List.range n).map D).length + ((List.range (m - n)).map fun j => D (n + j)).length) * bt) (by simp)
    simp only [List.length_map, List.length_range] at hlen
    have hnb : n * bt ≤ reachBytes := Nat.le_trans (Nat.mul_le_mul_right _ (by omega)) hlen
    have each : ∀ i, i < n → ∃ q : α, (∀ r, r < s → W.cell? ((a.add (i * s)).add r) = (f q)[r]?) ∧ G q := by
      intro i hi
      obtain ⟨cs', h1, h2⟩ := hD i (by omega)
      rw [hs] at h1
      obtain ⟨_, hcl, hcell⟩ := World.cells?_some h1
      obtain ⟨q, hq, hG⟩ := dec k cs' _ h2 (fun z hz => hw z (by
        refine List.mem_cons_of_mem _ (List.mem_append_left _ (wts_all (d := D i) (List.mem_map.2 ⟨i, List.mem_range.2 hi, rfl⟩) z hz))) ) hcl
      exact ⟨q, fun r hr => by rw [← hq]; exact hcell r hr, hG⟩
    rcases Nat.eq_zero_or_pos n with h0 | h0
    · subst h0
      exact ⟨[], RD.empty _ _ hm (fun h => by cases h), by simp, by simp⟩
    · obtain ⟨q0, hq0⟩ := each 0 h0
      haveI : Inhabited α := ⟨q0⟩
      obtain ⟨q, hq⟩ := choose_lt (α := α) (p := fun i x => (∀ r, r < s → W.cell? ((a.add (i * s)).add r) = (f x)[r]?) ∧ G x) each
      have hll : ((List.range n).map q).length = n := by simp
      have hc0 : W.cell? a = (f q0)[0]? := by simpa [Addr.add] using hq0.1 0 hs0
      have hs1 : ∃ u, (f q0)[0]? = some u := ⟨_, List.getElem?_eq_getElem (by rw [hf]; omega)⟩
      obtain ⟨u0, hu0⟩ := hs1
      obtain ⟨ab, ao, asp⟩ := a
      obtain ⟨hsp, hlt⟩ := cell_lt (hc0.trans hu0)
      simp only at hsp hlt
      subst hsp
      refine ⟨(List.range n).map q, ?_, ?_, by rw [hll]; exact hnb⟩
      · rw [hll]
        refine ⟨by rw [flatMap_len hf, hll], .inr ⟨ab, ao, _, rfl, hlt, hl, hm, fun j u hj => ?_⟩⟩
        have hjl := (List.getElem?_eq_some_iff.1 hj).1
        rw [flatMap_len hf, hll] at hjl
        have hj2 : j = j / s * s + j % s := by rw [Nat.mul_comm]; exact (Nat.div_add_mod j s).symm
        have hr : j % s < s := Nat.mod_lt _ hs0
        have hi : j / s < n := (Nat.div_lt_iff_lt_mul hs0).2 hjl
        have hat := flatMap_at hf ((List.range n).map q) (j / s) (q (j / s)) (j % s) (by simp [hi]) hr
        rw [← hj2, hj] at hat
        have hcell := (hq (j / s) hi).1 (j % s) hr
        rw [add_none, add_none, Nat.add_assoc, ← hj2] at hcell
        rw [hcell]
        exact hat.symm
      · intro y hy
        obtain ⟨i, hi, rfl⟩ := List.mem_map.1 hy
        exact (hq i (List.mem_range.1 hi)).2
theorem wts_arg {H : Type} {P : Program} {ts : List TypeId} {ds : List (DataW H)} (h : (DataW.weightsEach P ts ds).all (· ≤ reachBytes) = true) {j : Nat} {t : TypeId} {d : DataW H} (ht : ts[j]? = some t) (hd : ds[j]? = some d) : ∀ z ∈ d.weights P t, z ≤ reachBytes :=
  fun z hz => by simpa using List.all_eq_true.1 h z (DataW.weights_mem_each ht hd z hz)
theorem trod_value {H : Type} {enc : TypeId × Value → H} {P : Program} {W : World} {t e : TypeId} {fuel : Nat} {cs : List Value} {x : DataW H × List MemPlace} (ht : P.underlying t = some (.slice e)) (h : DataW.trod enc P W 0 (fun _ => true) true fuel t cs = some x) : ∃ v, cs = [v] := by
  rcases open_slice ht h with ⟨h0, _⟩ | ⟨a, n, c, m, k, D, Pl, hcs, _⟩
  · exact ⟨_, h0⟩
  · exact ⟨_, hcs⟩
theorem bnd_u64 {n : Int} (h : (Lit.int .u64 n).wf = true) : 0 ≤ n ∧ n < 18446744073709551616 := by
  have := bounds_u64 h
  omega
end Go.Proofs.Ytanbfejhhnhabaa

namespace Go.Proofs.Ytanbfejhhnhabaa.CrdtStates
open Go.ChangeShapes Go.WideShapes Go.ChangeAt Go.RowKit Go.Deep
set_option linter.unusedVariables false
set_option maxRecDepth 100000
set_option maxHeartbeats 2000000
theorem own : ownKnob Try.prog.godebug = none := by kernel_rfl
theorem laidOut : laidOutB Try.prog = true := by kernel_rfl
def ndf (a : Nd) : List Value := [.string a.1, .int .u64 a.2.1, .int .u64 a.2.2]
/-- Any argument of nodes. -/
theorem open_nodes {H : Type} {enc : TypeId × Value → H} {W : World} {fuel : Nat} {v : Value} {x : DataW H × List MemPlace}
    (h : DataW.trod enc Try.prog W 0 (fun _ => true) true fuel 28 [v] = some x) (hw : ∀ z ∈ x.1.weights Try.prog 28, z ≤ reachBytes) :
    ∃ l : List Nd, RN W v l ∧ Arg l ∧ l.length ≤ 4398046511104 := by
  obtain ⟨l, h1, h2, h3⟩ := RD.open_ (s := 3) (bt := 32) ndf (fun a => a.1.size ≤ maxLen ∧ 0 ≤ a.2.1 ∧ 0 ≤ a.2.2) Try.underlying28 (by kernel_rfl) (by decide) (by kernel_rfl) (fun a => rfl) h hw (by
    intro n cs y hy _ hlen
    obtain ⟨xs, k', hk, hxy, _, hxl, hf⟩ := DataW.trod_struct Try.underlying33 hy
    match xs, hxl, cs, hlen with
    | [y0, y1, y2], _, [v0, v1, v2], _ =>
      have g0 := hf 0 _ rfl
      have g1 := hf 1 _ rfl
      have g2 := hf 2 _ rfl
      have cs9 : Try.prog.cellsOf 9 = 1 := by kernel_rfl
      have cs31 : Try.prog.cellsOf 31 = 1 := by kernel_rfl
      simp [cs9, cs31] at g0 g1 g2
      obtain ⟨s, e0, _, w0⟩ := DataW.trod_string Try.underlying9 g0
      obtain ⟨u, e1, _, w1⟩ := DataW.trod_int Try.underlying31 g1
      obtain ⟨d, e2, _, w2⟩ := DataW.trod_int Try.underlying31 g2
      simp only [List.cons.injEq, and_true] at e0 e1 e2
      subst e0 e1 e2
      have b1 := bnd_u64 w1
      have b2 := bnd_u64 w2
      exact ⟨(s, u, d), rfl, w0, b1.1, b2.1⟩)
  have hr : reachBytes < 2 ^ 47 := reachBytes_lt
  exact ⟨l, h1, ⟨fun a ha => (h2 a ha).1, fun a ha => (h2 a ha).2, by omega⟩, by omega⟩
theorem trod_float {H : Type} {enc : TypeId × Value → H} {P : Program} {W : World} {t : TypeId} {k : FloatKind} {fuel : Nat} {cs : List Value} {x : DataW H × List MemPlace} (ht : P.underlying t = some (.float k)) (h : DataW.trod enc P W 0 (fun _ => true) true fuel t cs = some x) : ∃ n, cs = [.float k n] ∧ (Lit.float k n).wf = true := by
  cases fuel with
  | zero => simp [DataW.trod] at h
  | succ n =>
    unfold DataW.trod at h
    rw [ht] at h
    split at h <;> simp_all
theorem open_stamp {H : Type} {enc : TypeId × Value → H} {W : World} {fuel : Nat} {v : Value} {base : Nat} {x : DataW H × List MemPlace}
    (h : DataW.trod enc Try.prog W 0 (fun _ => true) true fuel 61 v.cells.toList = some x) (hok : Value.okWide Try.prog W .any base 61 v) :
    ∃ s : Sp, v = spV s ∧ s.v < 18446744073709551616 := by
  obtain ⟨cs, rfl, hcs⟩ := okWide_struct Try.underlying61 hok
  obtain ⟨xs, k', hk, hxy, hl, hxl, hf⟩ := DataW.trod_struct Try.underlying61 h
  have e3 : Try.prog.cellsOf 61 = 3 := by kernel_rfl
  rw [e3] at hcs
  obtain ⟨cs⟩ := cs
  match xs, hxl, cs, hcs with
  | [y0, y1, y2], _, [v0, v1, v2], _ =>
    have g0 := hf 0 _ rfl
    have g1 := hf 1 _ rfl
    have g2 := hf 2 _ rfl
    have cs2 : Try.prog.cellsOf 2 = 1 := by kernel_rfl
    have cs9 : Try.prog.cellsOf 9 = 1 := by kernel_rfl
    have cs59 : Try.prog.cellsOf 59 = 1 := by kernel_rfl
    simp [cs2, cs9, cs59, Value.cells] at g0 g1 g2
    obtain ⟨a, e0, _, w0⟩ := DataW.trod_int Try.underlying2 g0
    obtain ⟨n, e1, _, w1⟩ := DataW.trod_string Try.underlying9 g1
    obtain ⟨f, e2, w2⟩ := trod_float Try.underlying59 g2
    simp only [List.cons.injEq, and_true] at e0 e1 e2
    subst e0 e1 e2
    refine ⟨⟨a, n, f⟩, rfl, ?_⟩
    simpa [Lit.wf] using w2
/-- What the walk gives, for every argument. -/
theorem contract (H : Type) (enc : TypeId × Value → H) (W : World) (base : Nat) (args : Array Value) (ds gs : List (DataW H)) (before : List MemPlace)
    (hval : ∀ (j : Nat) t v, Try.f6.params[j]? = some t → args[j]? = some v → Value.okWide Try.prog W .any base t v)
    (hW : DataW.Whole enc Try.prog Try.f6.params.toList Rows.crdtStatesSpec.vars false W args.toList ds gs before)
    (hsz : (DataW.weightsEach Try.prog (Try.f6.params.toList ++ Rows.crdtStatesSpec.plain.varTypes Try.prog) (ds ++ gs)).all (· ≤ reachBytes) = true) :
    Calls Try.prog 6 args W fun e W' => ∃ v, e = .returned v ∧ Rows.crdtStatesSpec.post enc Try.prog Try.f6 false true false false W args v W' := by
  have hW' := hW
  obtain ⟨p, q, hA0, hV, rfl, hfz, hnd⟩ := hW
  have hA : DataW.TrodAll enc Try.prog W 0 (fun _ => true) true Try.f6.params.toList args.toList ds p := hA0
  rw [Try.params6] at hA hval hsz
  obtain ⟨v1, vs1, d1, ds1, p1, q1, hargs, rfl, rfl, h1, r1⟩ := trodAll_cons hA
  obtain ⟨v2, vs2, d2, ds2, p2, q2, rfl, rfl, rfl, h2, r2⟩ := trodAll_cons r1
  obtain ⟨v3, vs3, d3, ds3, p3, q3, rfl, rfl, rfl, h3, r3⟩ := trodAll_cons r2
  obtain ⟨v4, vs4, d4, ds4, p4, q4, rfl, rfl, rfl, h4, r4⟩ := trodAll_cons r3
  obtain ⟨rfl, rfl, rfl⟩ := trodAll_nil r4
  obtain rfl : args = #[v1, v2, v3, v4] := by cases args; simp_all
  obtain ⟨rfl, rfl⟩ := trodVars_none hV
  have k1 := h1
  have k2 := h2
  have k3 := h3
  have k4 := h4
  have lt1 : ∀ x ∈ p1, x.block < W.heap.size := by obtain ⟨m, hm⟩ := k1; exact DataW.trod_lt m _ _ _ hm
  have lt2 : ∀ x ∈ p2, x.block < W.heap.size := by obtain ⟨m, hm⟩ := k2; exact DataW.trod_lt m _ _ _ hm
  have lt3 : ∀ x ∈ p3, x.block < W.heap.size := by obtain ⟨m, hm⟩ := k3; exact DataW.trod_lt m _ _ _ hm
  have lt4 : ∀ x ∈ p4, x.block < W.heap.size := by obtain ⟨m, hm⟩ := k4; exact DataW.trod_lt m _ _ _ hm
  have o1 := hval 0 28 v1 rfl rfl
  have o2 := hval 1 28 v2 rfl rfl
  have o3 := hval 2 61 v3 rfl rfl
  have o4 := hval 3 61 v4 rfl rfl
  obtain ⟨a1, n1, c1, rfl⟩ := okWide_slice Try.underlying28 o1
  obtain ⟨a2, n2, c2, rfl⟩ := okWide_slice Try.underlying28 o2
  clear hA0
  obtain ⟨m1, g1⟩ := h1
  obtain ⟨m2, g2⟩ := h2
  obtain ⟨m3, g3⟩ := h3
  obtain ⟨m4, g4⟩ := h4
  obtain ⟨s3, rfl, b3⟩ := open_stamp g3 o3
  obtain ⟨s4, rfl, b4⟩ := open_stamp g4 o4
  obtain ⟨l1, R1, A1, z1⟩ := open_nodes g1 (wts_arg hsz (j := 0) (t := 28) rfl rfl)
  obtain ⟨l2, R2, A2, z2⟩ := open_nodes g2 (wts_arg hsz (j := 1) (t := 28) rfl rfl)
  have walk : Calls Try.prog 6 #[.slice a1 n1 c1, .slice a2 n2 c2, spV s3, spV s4] W fun e w' => e = .returned (.bool true) ∧ Fr [] W w' := by
    cases hr : rightL l1 with
    | true => exact states_true _ _ l1 l2 s3 s4 W R1 R2 A1 A2 z1 z2 b3 b4 hr
    | false => exact states_false _ _ l1 l2 s3 s4 W R1 R2 A1 A2 z1 z2 b3 b4 hr
  refine walk.mono fun e W' ⟨he, hF⟩ => ?_
  subst he
  have bel : Below W.heap.size W W' := hF.below (Nat.le_refl _) (by simp)
  exact ⟨_, rfl, _, _, _, [], _, [], hW', trodAll_mk1 (shut_bool Try.underlying4 _), (trodAll_cons_mk (Below.trod laidOut (by kernel_rfl) (of_decide_eq_true (by kernel_rfl)) k1 bel lt1) (trodAll_cons_mk (Below.trod laidOut (by kernel_rfl) (of_decide_eq_true (by kernel_rfl)) k2 bel lt2) (trodAll_cons_mk (Below.trod laidOut (by kernel_rfl) (of_decide_eq_true (by kernel_rfl)) k3 bel lt3) (trodAll_cons_mk (Below.trod laidOut (by kernel_rfl) (of_decide_eq_true (by kernel_rfl)) k4 bel lt4) trodAll_mk0)))), rfl, bel.frame _, fun h => by cases h⟩
set_option maxRecDepth 100000 in
theorem lifted (os : Os) (started : os.Started) (H : Type) (enc : TypeId × Value → H) :
    ReturnsInHanded {} Try.checked os 6 .any (Rows.crdtStatesSpec.pre6 enc Try.prog Try.f6 Rows.crdtStatesRow.domain false) (Rows.crdtStatesSpec.post enc Try.prog Try.f6 false true false false) := by
  refine returnsInHanded_of_change_sized (C := Try.checked) own started (by kernel_rfl) Try.func6
    (ChangeSpec.witness6 (enc := enc) (C := Try.checked) false ⟨#[], #[.slice none 0 0, .slice none 0 0, .agg #[.int .i64 0, .string ByteArray.empty, .float .f64 0], .agg #[.int .i64 0, .string ByteArray.empty, .float .f64 0]], []⟩ 8 (by kernel_rfl) (by kernel_rfl) (by kernel_rfl) (by kernel_rfl)) ?_
  intro W base args ds gs before hval hW _ hsz _
  exact contract H enc W base args ds gs before hval hW hsz
theorem said : Rows.CrdtStatesSaid :=
  OpenClaim.holds_of_wide 6 Try.f6 rfl rfl rfl rfl rfl rfl rfl ⟨rfl, rfl, rfl, rfl, rfl⟩ rfl rfl rfl rfl rfl (by kernel_rfl) Try.func6 (by kernel_rfl)
    (of_decide_eq_true (by kernel_rfl)) (by unfold Func.isWrapper; first | (rw [if_pos (by decide +kernel)]; kernel_rfl) | (rw [if_neg (by decide +kernel)]; exact ⟨rfl, rfl⟩))
    (fun os started H enc _ => lifted os started H enc)
end Go.Proofs.Ytanbfejhhnhabaa.CrdtStates
namespace Go.Proofs.Ytanbfejhhnhabaa
theorem crdtStates_holds : Rows.CrdtStatesSaid := CrdtStates.said
#print axioms crdtStates_holds
end Go.Proofs.Ytanbfejhhnhabaa
