/- PROVED HERE: abacuslaw23.CrdtLattice answers true for every input (merging states is a lattice's join), and leaves its arguments as they were. CONDITIONS: the call runs in one goroutine; an argument takes at most 2^47 - 4096 bytes. -/
import Derived.Test.YtanbfejhhnhabaaLat
import Derived.WalkKit
import Derived.ProofKit
import Derived.OpenShut
import Derived.ChangeOld
import Derived.Below
import Derived.SizedLaws
import Derived.Deep.SlicePairs
namespace Go.Proofs.Ytanbfejhhnhabaa.CrdtLattice
open Go.ChangeShapes Go.WideShapes Go.ChangeAt Go.RowKit Go.Deep
set_option linter.unusedVariables false
set_option maxRecDepth 100000
set_option maxHeartbeats 2000000
theorem own : ownKnob Try.prog.godebug = none := by kernel_rfl
theorem laidOut : laidOutB Try.prog = true := by kernel_rfl
theorem slice_has {W : World} {base : Nat} {a : Addr} {n c : Nat} (h : Value.okWide Try.prog W .any base 28 (.slice (some a) n c)) : a.spot = none ∧ a.block < W.heap.size := by
  simp only [Value.okWide, Try.underlying28, Cell.okWide, Cell.ok] at h
  obtain ⟨_, _, _, hs, row, cells, hsh, _⟩ := h
  refine ⟨hs, ?_⟩
  rcases Nat.lt_or_ge a.block W.heap.size with hlt | hge
  · exact hlt
  · unfold World.shape? at hsh
    rw [Array.getElem?_eq_none hge] at hsh
    simp at hsh
/-- Any argument of nodes. -/
theorem open_nodes {H : Type} {enc : TypeId × Value → H} {W : World} {A : Option Addr} {n c fuel base : Nat} {x : DataW H × List MemPlace}
    (h : DataW.trod enc Try.prog W 0 (fun _ => true) true fuel 28 [.slice A n c] = some x) (hok : Value.okWide Try.prog W .any base 28 (.slice A n c))
    (hsz : ∀ es sp, x.1 = .slice es sp → (es.length + sp.length) * 32 ≤ reachBytes) :
    ∃ l : List Nd, l.length = n ∧ RN W (.slice A n c) l ∧ Arg l := by
  rcases open_slice Try.underlying28 h with ⟨h0, _⟩ | ⟨a, len, cap, m, k, D, Pl, hcs, hb, hl, hm, hmm, hx, hD⟩
  · simp at h0
    obtain ⟨rfl, rfl, rfl⟩ := h0
    exact ⟨[], rfl, RD.nil _ _, ⟨by simp, by simp [Pos], by simp⟩⟩
  · simp at hcs
    obtain ⟨rfl, rfl, rfl⟩ := hcs
    rw [if_pos rfl] at hmm
    subst hmm
    have z := hsz _ _ (by rw [hx])
    simp [reachBytes] at z
    have each : ∀ i, i < n → ∃ q : Nd, W.cell? (a.add (i * 3)) = some (.string q.1) ∧ W.cell? (a.add (i * 3 + 1)) = some (.int .u64 q.2.1) ∧ W.cell? (a.add (i * 3 + 2)) = some (.int .u64 q.2.2) ∧ q.1.size ≤ maxLen ∧ 0 ≤ q.2.1 ∧ 0 ≤ q.2.2 := by
      intro i hi
      obtain ⟨cs', h1, h2⟩ := hD i (by omega)
      rw [show Try.prog.cellsOf 33 = 3 by kernel_rfl] at h1
      obtain ⟨_, hlen, hcell⟩ := World.cells?_some h1
      obtain ⟨xs, k', hk, hxy, _, hxl, hf⟩ := DataW.trod_struct Try.underlying33 h2
      match xs, hxl, cs', hlen with
      | [y0, y1, y2], _, [v0, v1, v2], _ =>
        have g0 := hf 0 _ rfl
        have g1 := hf 1 _ rfl
        have g2 := hf 2 _ rfl
        have cs9 : Try.prog.cellsOf 9 = 1 := by kernel_rfl
        have cs31 : Try.prog.cellsOf 31 = 1 := by kernel_rfl
        simp [cs9, cs31] at g0 g1 g2
        obtain ⟨s, e0, _, w0⟩ := DataW.trod_string Try.underlying9 g0
        obtain ⟨u, e1, _, w1⟩ := DataW.trod_int Try.underlying31 g1
        obtain ⟨d, e2, _, w2⟩ := DataW.trod_int Try.underlying31 g2
        simp only [List.cons.injEq, and_true] at e0 e1 e2
        subst e0 e1 e2
        have c0 := hcell 0 (by omega)
        have c1 := hcell 1 (by omega)
        have c2 := hcell 2 (by omega)
        rw [add_add] at c0 c1 c2
        refine ⟨(s, u, d), by simpa using c0, by simpa using c1, by simpa using c2, w0, ?_, ?_⟩
        · have := bounds_u64 w1; simp only; omega
        · have := bounds_u64 w2; simp only; omega
    obtain ⟨q, hq⟩ := choose_lt (α := ByteArray × Int × Int) each
    have hlen : ((List.range n).map q).length = n := by simp
    have hat : ∀ j x, ((List.range n).map q)[j]? = some x → j < n ∧ x = q j := fun j x hj => by
      obtain ⟨h1, h2⟩ := List.getElem?_eq_some_iff.1 hj
      simp at h1 h2
      exact ⟨h1, h2.symm⟩
    have hin : ∀ x ∈ (List.range n).map q, ∃ j, j < n ∧ x = q j := fun x hx => by
      obtain ⟨j, hj, rfl⟩ := List.mem_map.1 hx
      exact ⟨j, List.mem_range.1 hj, rfl⟩
    refine ⟨(List.range n).map q, hlen, ⟨by rw [flat3_len, hlen], ?_⟩, ⟨fun x hx => ?_, fun x hx => ?_, by rw [hlen]; omega⟩⟩
    · skip
      · obtain ⟨ab, ao, asp⟩ := a
        obtain ⟨hsp, hlt⟩ := slice_has hok
        simp only at hsp hlt
        subst hsp
        refine .inr ⟨ab, ao, _, by rw [hlen], hlt, by rw [hlen]; exact hl, hm, fun j u hj => ?_⟩
        have ea : ∀ j, (⟨ab, ao, none⟩ : Addr).add j = ⟨ab, ao + j, none⟩ := fun j => by unfold Addr.add; split <;> simp_all
        have hjl := (List.getElem?_eq_some_iff.1 hj).1
        rw [flat3_len, hlen] at hjl
        obtain ⟨i, r, hr, rfl⟩ : ∃ i r, r < 3 ∧ j = i * 3 + r := ⟨j / 3, j % 3, by omega, by omega⟩
        have hi : i < n := by omega
        have hf := flat3_get ((List.range n).map q) i (q i) (by simp [hi])
        obtain ⟨c0, c1, c2, _⟩ := hq i hi
        rw [ea] at c0 c1 c2
        rcases (by omega : r = 0 ∨ r = 1 ∨ r = 2) with rfl | rfl | rfl
        · rw [Nat.add_zero, hf.1] at hj; cases hj; exact c0
        · rw [hf.2.1] at hj; cases hj; exact c1
        · rw [hf.2.2] at hj; cases hj; exact c2
    · obtain ⟨j, hj, rfl⟩ := hin x hx
      exact (hq j hj).2.2.2.1
    · obtain ⟨j, hj, rfl⟩ := hin x hx
      exact (hq j hj).2.2.2.2
/-- What the walk gives, for every argument. -/
theorem contract (H : Type) (enc : TypeId × Value → H) (W : World) (base : Nat) (args : Array Value) (ds gs : List (DataW H)) (before : List MemPlace)
    (hval : ∀ (j : Nat) t v, Try.f4.params[j]? = some t → args[j]? = some v → Value.okWide Try.prog W .any base t v)
    (hW : DataW.Whole enc Try.prog Try.f4.params.toList Rows.crdtLatticeSpec.vars false W args.toList ds gs before)
    (hsz : (DataW.weightsEach Try.prog (Try.f4.params.toList ++ Rows.crdtLatticeSpec.plain.varTypes Try.prog) (ds ++ gs)).all (· ≤ reachBytes) = true) :
    Calls Try.prog 4 args W fun e W' => ∃ v, e = .returned v ∧ Rows.crdtLatticeSpec.post enc Try.prog Try.f4 false true false false W args v W' := by
  have hW' := hW
  obtain ⟨p, q, hA0, hV, rfl, hfz, hnd⟩ := hW
  have hA : DataW.TrodAll enc Try.prog W 0 (fun _ => true) true Try.f4.params.toList args.toList ds p := hA0
  rw [Try.params4] at hA hval hsz
  obtain ⟨v1, vs1, d1, ds1, p1, q1, hargs, rfl, rfl, h1, r1⟩ := trodAll_cons hA
  obtain ⟨v2, vs2, d2, ds2, p2, q2, rfl, rfl, rfl, h2, r2⟩ := trodAll_cons r1
  obtain ⟨v3, vs3, d3, ds3, p3, q3, rfl, rfl, rfl, h3, r3⟩ := trodAll_cons r2
  obtain ⟨rfl, rfl, rfl⟩ := trodAll_nil r3
  obtain rfl : args = #[v1, v2, v3] := by cases args; simp_all
  obtain ⟨rfl, rfl⟩ := trodVars_none hV
  have k1 := h1
  have k2 := h2
  have k3 := h3
  have lt1 : ∀ x ∈ p1, x.block < W.heap.size := by obtain ⟨m, hm⟩ := k1; exact DataW.trod_lt m _ _ _ hm
  have lt2 : ∀ x ∈ p2, x.block < W.heap.size := by obtain ⟨m, hm⟩ := k2; exact DataW.trod_lt m _ _ _ hm
  have lt3 : ∀ x ∈ p3, x.block < W.heap.size := by obtain ⟨m, hm⟩ := k3; exact DataW.trod_lt m _ _ _ hm
  have o1 := hval 0 28 v1 rfl rfl
  have o2 := hval 1 28 v2 rfl rfl
  have o3 := hval 2 28 v3 rfl rfl
  obtain ⟨a1, n1, c1, rfl⟩ := okWide_slice Try.underlying28 o1
  obtain ⟨a2, n2, c2, rfl⟩ := okWide_slice Try.underlying28 o2
  obtain ⟨a3, n3, c3, rfl⟩ := okWide_slice Try.underlying28 o3
  clear hA0
  have e32 : Try.prog.bytesOf 33 = 32 := by kernel_rfl
  have z1 : ∀ es sp, d1 = .slice es sp → (es.length + sp.length) * 32 ≤ reachBytes := fun es sp hd => by
    have z := sized_slice hsz (j := 0) (t := 28) rfl (by rw [hd]; rfl) Try.underlying28
    rwa [e32] at z
  have z2 : ∀ es sp, d2 = .slice es sp → (es.length + sp.length) * 32 ≤ reachBytes := fun es sp hd => by
    have z := sized_slice hsz (j := 1) (t := 28) rfl (by rw [hd]; rfl) Try.underlying28
    rwa [e32] at z
  have z3 : ∀ es sp, d3 = .slice es sp → (es.length + sp.length) * 32 ≤ reachBytes := fun es sp hd => by
    have z := sized_slice hsz (j := 2) (t := 28) rfl (by rw [hd]; rfl) Try.underlying28
    rwa [e32] at z
  obtain ⟨m1, g1⟩ := h1
  obtain ⟨m2, g2⟩ := h2
  obtain ⟨m3, g3⟩ := h3
  obtain ⟨l1, _, R1, A1⟩ := open_nodes g1 o1 z1
  obtain ⟨l2, _, R2, A2⟩ := open_nodes g2 o2 z2
  obtain ⟨l3, _, R3, A3⟩ := open_nodes g3 o3 z3
  refine (lattice_walk _ _ _ l1 l2 l3 W R1 R2 R3 A1 A2 A3).mono fun e W' ⟨he, hF⟩ => ?_
  subst he
  have bel : Below W.heap.size W W' := hF.below (Nat.le_refl _) (by simp)
  exact ⟨_, rfl, _, _, _, [], _, [], hW', trodAll_mk1 (shut_bool Try.underlying4 _), (trodAll_cons_mk (Below.trod laidOut (by kernel_rfl) (of_decide_eq_true (by kernel_rfl)) k1 bel lt1) (trodAll_cons_mk (Below.trod laidOut (by kernel_rfl) (of_decide_eq_true (by kernel_rfl)) k2 bel lt2) (trodAll_cons_mk (Below.trod laidOut (by kernel_rfl) (of_decide_eq_true (by kernel_rfl)) k3 bel lt3) trodAll_mk0))), rfl, bel.frame _, fun h => by cases h⟩
set_option maxRecDepth 100000 in
theorem lifted (os : Os) (started : os.Started) (H : Type) (enc : TypeId × Value → H) :
    ReturnsInHanded {} Try.checked os 4 .any (Rows.crdtLatticeSpec.pre6 enc Try.prog Try.f4 Rows.crdtLatticeRow.domain false) (Rows.crdtLatticeSpec.post enc Try.prog Try.f4 false true false false) := by
  refine returnsInHanded_of_change_sized (C := Try.checked) own started (by kernel_rfl) Try.func4
    (ChangeSpec.witness6 (enc := enc) (C := Try.checked) false ⟨#[], #[.slice none 0 0, .slice none 0 0, .slice none 0 0], []⟩ 8 (by kernel_rfl) (by kernel_rfl) (by kernel_rfl) (by kernel_rfl)) ?_
  intro W base args ds gs before hval hW _ hsz _
  exact contract H enc W base args ds gs before hval hW hsz
theorem said : Rows.CrdtLatticeSaid :=
  OpenClaim.holds_of_wide 4 Try.f4 rfl rfl rfl rfl rfl rfl rfl ⟨rfl, rfl, rfl, rfl, rfl⟩ rfl rfl rfl rfl rfl (by kernel_rfl) Try.func4 (by kernel_rfl)
    (of_decide_eq_true (by kernel_rfl)) (by unfold Func.isWrapper; first | (rw [if_pos (by decide +kernel)]; kernel_rfl) | (rw [if_neg (by decide +kernel)]; exact ⟨rfl, rfl⟩))
    (fun os started H enc _ => lifted os started H enc)
end Go.Proofs.Ytanbfejhhnhabaa.CrdtLattice
namespace Go.Proofs.Ytanbfejhhnhabaa
theorem crdtLattice_holds : Rows.CrdtLatticeSaid := CrdtLattice.said
#print axioms crdtLattice_holds
end Go.Proofs.Ytanbfejhhnhabaa
