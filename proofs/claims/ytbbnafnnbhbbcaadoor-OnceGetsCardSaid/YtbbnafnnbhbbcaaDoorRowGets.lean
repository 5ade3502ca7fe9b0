/- PROVED HERE: abacuslaw13.OnceGets answers true for every input (every Get of a cell: which makings are called, and what is told), and leaves its argument as it was. CONDITIONS: the variable abacus/cells.uses holds what the program's text lays in it (the card ties that); the call runs in one goroutine; an argument takes at most 2^47 - 4096 bytes. -/
import Derived.Test.YtbbnafnnbhbbcaaDoorGets
import Derived.Test.YtbbnafnnbhbbcaaDoorCards
import Derived.Test.YtbbnafnnbhbbcaaDoorTie
import Derived.WalkKit
import Derived.ProofKit
import Derived.OpenShut
import Derived.ChangeOld
import Derived.Below
import Derived.SizedLaws
import Derived.Deep.SlicePairs
import Derived.Deep.DeepHandedRow
import Derived.Lib.LaidTab
namespace Go.Proofs.YtbbnafnnbhbbcaaDoor.OnceGets
open Go.ChangeShapes Go.WideShapes Go.ChangeAt Go.RowKit Go.Deep
set_option linter.unusedVariables false
set_option maxRecDepth 100000
set_option maxHeartbeats 2000000
theorem own : ownKnob Tryd.prog.godebug = none := by kernel_rfl
theorem laidOut : laidOutB Tryd.prog = true := by kernel_rfl
theorem gTab : Tryd.prog.globalNamed "abacus/cells.uses" = some 0 := by kernel_rfl
theorem gTabType : (Tryd.prog.globals[0]?).map (·.type) = some 147 := by kernel_rfl
theorem uTab : Tryd.prog.underlying 147 = some (.array 6 146) := by kernel_rfl
theorem uTab2 : Tryd.prog.underlying 146 = some (.array 2 4) := by kernel_rfl
theorem cTab : Tryd.prog.cellsOf 146 = 2 := by kernel_rfl
theorem cBool : Tryd.prog.cellsOf 4 = 1 := by kernel_rfl
theorem trod_arr {H : Type} {enc : TypeId × Value → H} {P : Program} {w : World} {base : Nat} {sp : Nat → Bool} {held : Bool} {fuel : Nat} {t e : TypeId} {n : Nat} {cs : List Value} {ds : List (DataW H)} {p : List MemPlace}
    (ht : P.underlying t = some (.array n e)) (h : DataW.trod enc P w base sp held fuel t cs = some (.agg ds, p)) :
    ∃ f, ∀ i, i < n → ∃ d q, ds[i]? = some d ∧ DataW.trod enc P w base sp held f e ((cs.drop (i * P.cellsOf e)).take (P.cellsOf e)) = some (d, q) := by
  cases fuel with
  | zero => simp [DataW.trod] at h
  | succ fuel =>
    simp only [DataW.trod, ht] at h
    split at h
    · rename_i hl
      obtain ⟨xs, hm, hx⟩ := Option.map_eq_some_iff.1 h
      have hxs : xs.map (·.1) = ds := by simpa using congrArg Prod.fst hx
      refine ⟨fuel, fun i hi => ?_⟩
      obtain ⟨b, hb, hf⟩ := Lib.mapM_at hm i i (by simp [hi])
      exact ⟨b.1, b.2, by simp [← hxs, hb], hf⟩
    · cases h
/-- What the row's list gives: the table. -/
theorem uses_of {W : World} (h : laidMetH Tryd.prog Rows.onceGetsRow.laid W) : Uses W := by
  have h' : laidMet Tryd.prog Rows.onceGetsRow.laid W := h
  obtain ⟨ps, ⟨g', t', cs, fuel, p, q, hg', ht', hvar, hd, _, _⟩, _⟩ := h'
  obtain rfl := Option.some.inj (gTab.symm.trans hg')
  obtain rfl := Option.some.inj (gTabType.symm.trans ht')
  obtain ⟨f, hi⟩ := trod_arr uTab hd
  rw [cTab] at hi
  have key : ∀ i j b, i < 6 → j < 2 → ((Rows.laid_abacus_cells_uses : DataW Unit) matches .agg _) → (∀ d, (match (Rows.laid_abacus_cells_uses : DataW Unit) with | .agg ds => ds | _ => [])[i]? = some d → ∃ ds, d = .agg ds ∧ ds[j]? = some (.lit (.bool b))) → W.cell? ⟨0, i * 2 + j, none⟩ = some (.bool b) := by
    intro i j b h6 h2 _ hdat
    obtain ⟨d, q', hd', htr⟩ := hi i h6
    obtain ⟨ds, rfl, hb⟩ := hdat d hd'
    obtain ⟨f2, hi2⟩ := trod_arr uTab2 htr
    rw [cBool] at hi2
    obtain ⟨d2, q2, hd2, htr2⟩ := hi2 j h2
    obtain rfl := Option.some.inj (hb.symm.trans hd2)
    obtain ⟨b', hcs, hx⟩ := DataW.trod_bool Tryd.underlying4 htr2
    simp only [Prod.mk.injEq, DataW.lit.injEq, Lit.bool.injEq] at hx
    obtain ⟨rfl, -⟩ := hx
    have hcell := World.var?_cell gTab hvar (i * 2 + j)
    rw [hcell]
    have h1 := congrArg (·[0]?) hcs
    simp [List.getElem?_take, List.getElem?_drop] at h1
    have e2 : j < 2 := h2
    simp [h2] at h1
    simpa [Nat.add_comm, Nat.add_assoc] using h1
  refine ⟨key 1 0 _ (by decide) (by decide) rfl ?_, key 1 1 _ (by decide) (by decide) rfl ?_, key 2 0 _ (by decide) (by decide) rfl ?_, key 2 1 _ (by decide) (by decide) rfl ?_, key 5 0 _ (by decide) (by decide) rfl ?_, key 5 1 _ (by decide) (by decide) rfl ?_⟩
  all_goals
    intro d hd
    cases hd
    exact ⟨_, rfl, rfl⟩
/-- What the walk gives, for every argument and every world that holds the table. -/
theorem contract (H : Type) (enc : TypeId × Value → H) (W : World) (base : Nat) (args : Array Value) (ds gs : List (DataW H)) (before : List MemPlace)
    (hval : ∀ (j : Nat) t v, Tryd.f6.params[j]? = some t → args[j]? = some v → Value.okWide Tryd.prog W .any base t v)
    (hW : DataW.Whole enc Tryd.prog Tryd.f6.params.toList Rows.onceGetsSpec.vars false W args.toList ds gs before)
    (hsz : (DataW.weightsEach Tryd.prog (Tryd.f6.params.toList ++ Rows.onceGetsSpec.plain.varTypes Tryd.prog) (ds ++ gs)).all (· ≤ reachBytes) = true) (hL : laidMetH Tryd.prog Rows.onceGetsRow.laid W) :
    Calls Tryd.prog 6 args W fun e W' => ∃ v, e = .returned v ∧ Rows.onceGetsSpec.post enc Tryd.prog Tryd.f6 false true false false W args v W' := by
  have hW' := hW
  have hU := uses_of hL
  obtain ⟨p, q, hA0, hV, rfl, hfz, hnd⟩ := hW
  have hA : DataW.TrodAll enc Tryd.prog W 0 (fun _ => true) true Tryd.f6.params.toList args.toList ds p := hA0
  rw [Tryd.params6] at hA hval hsz
  obtain ⟨v1, vs1, d1, ds1, p1, q1, hargs, rfl, rfl, h1, r1⟩ := trodAll_cons hA
  obtain ⟨rfl, rfl, rfl⟩ := trodAll_nil r1
  obtain rfl : args = #[v1] := by cases args; simp_all
  obtain ⟨rfl, rfl⟩ := trodVars_none hV
  have k1 := h1
  have lt1 : ∀ x ∈ p1, x.block < W.heap.size := by obtain ⟨m, hm⟩ := k1; exact DataW.trod_lt m _ _ _ hm
  obtain ⟨a1, len, cap, rfl⟩ := okWide_slice Tryd.underlying22 (hval 0 22 v1 rfl rfl)
  clear hA0
  have walk : Calls Tryd.prog 6 #[.slice a1 len cap] W fun e w' => e = .returned (.bool true) ∧ Fr [] W w' := by
    obtain ⟨fuel, hf⟩ := h1
    rcases open_slice_pairs Tryd.underlying22 Tryd.underlying34 (by kernel_rfl) rfl rfl (by kernel_rfl) (by kernel_rfl) hf with ⟨hcs, _⟩ | ⟨a, l, c, m, n', V0, V1, D0, D1, P0, P1, hcs, _, hl, hm, hmm, hx, hi⟩
    · simp [Value.cells] at hcs
      obtain ⟨rfl, rfl, rfl⟩ := hcs
      exact gets_ok none 0 0 0 0 (fun _ => 0) (fun _ => 0) W hU (by omega) (by omega) (by omega) (by omega)
    · simp [Value.cells] at hcs
      obtain ⟨rfl, rfl, rfl⟩ := hcs
      rw [if_pos rfl] at hmm
      subst hmm
      simp only [Prod.mk.injEq] at hx
      have hd1 := hx.1
      have z := sized_slice hsz (j := 0) (t := 22) rfl (by rw [hd1]; rfl) Tryd.underlying22
      have e16 : Tryd.prog.bytesOf 34 = 16 := by kernel_rfl
      rw [e16] at z
      simp [reachBytes] at z
      have hk (j : Nat) (hj : j < len) := DataW.trod_int Tryd.underlying32 (hi j (by omega)).2.2.1
      have hxx (j : Nat) (hj : j < len) := DataW.trod_int Tryd.underlying27 (hi j (by omega)).2.2.2
      let kf : Nat → Int := fun j => match V0 j with | .int _ z => z | _ => 0
      let xf : Nat → Int := fun j => match V1 j with | .int _ z => z | _ => 0
      obtain ⟨ab, ao, asp⟩ := a
      have hspot : 0 < len → asp = none := by
        intro h
        have := (hi 0 (by omega)).1
        rcases asp with _ | y
        · rfl
        · simp [World.cell?, Addr.add] at this
          split at this <;> simp at this
      refine gets_ok (some ⟨ab, ao, asp⟩) ab ao len m kf xf W hU (fun h => by rw [hspot h]) ?_ ?_ (by omega)
      · intro h
        exact World.block_lt_of_cell? W _ (hi 0 (by omega)).1
      · intro j hj
        have e := hspot (by omega)
        subst e
        obtain ⟨z0, h0, _⟩ := hk j hj
        obtain ⟨z1, h1, _⟩ := hxx j hj
        simp only [List.cons.injEq, and_true] at h0 h1
        have c := hi j (by omega)
        refine ⟨?_, ?_⟩
        · show W.cell? _ = some (.int .u8 (match V0 j with | .int _ z => z | _ => 0))
          rw [h0]
          have c0 := c.1
          rw [h0] at c0
          have ea : (⟨ab, ao, none⟩ : Addr).add (j * 2) = ⟨ab, ao + j * 2, none⟩ := by unfold Addr.add; split <;> simp_all
          rw [ea] at c0
          exact c0
        · show W.cell? _ = some (.int .u64 (match V1 j with | .int _ z => z | _ => 0))
          rw [h1]
          exact c.2.1.trans (congrArg some h1)
  refine walk.mono fun e W' ⟨he, hF⟩ => ?_
  subst he
  have bel : Below W.heap.size W W' := hF.below (Nat.le_refl _) (by simp)
  exact ⟨_, rfl, _, _, _, [], _, [], hW', trodAll_mk1 (shut_bool Tryd.underlying4 _), (trodAll_cons_mk (Below.trod laidOut (by kernel_rfl) (of_decide_eq_true (by kernel_rfl)) k1 bel lt1) trodAll_mk0), rfl, bel.frame _, fun h => by cases h⟩
/-- A world for the witness: the settled one, the table holding what its initialiser lays. -/
noncomputable def laidWorld (os : Os) : World :=
  { World.holding Tryd.prog os ⟨#[], #[], []⟩ with heap := (World.holding Tryd.prog os ⟨#[], #[], []⟩).heap.modify 0 fun
      | .cells _ t frozen => .cells #[.bool false, .bool false, .bool false, .bool false, .bool false, .bool true, .bool false, .bool true, .bool false, .bool true, .bool true, .bool true] t frozen
      | o => o }
theorem laid_met (os : Os) : laidMet Tryd.prog Rows.onceGetsRow.laid ((laidWorld os).forCall (fun _ _ => 0) ⟨#[], #[.slice none 0 0], []⟩).memory :=
  laidMet_of_run' 8 (by kernel_rfl) (by kernel_rfl)
theorem reads (os : Os) {H : Type} (enc : TypeId × Value → H) : ∃ places, DataW.whole enc Tryd.prog ((laidWorld os).forCall (fun _ _ => 0) ⟨#[], #[.slice none 0 0], []⟩).memory Tryd.f6.params.toList Rows.onceGetsSpec.vars false #[Value.slice none 0 0].toList 8 = some ([.nil], [], places) :=
  ⟨[], by kernel_rfl⟩
set_option maxRecDepth 100000 in
theorem lifted (os : Os) (started : os.Started) (H : Type) (enc : TypeId × Value → H) (F : Stop.Interp) :
    ReturnsInHanded {} Tryd.checked os 6 .any ((OpenSpec.ofChange Rows.onceGetsSpec).preRow enc Tryd.prog Tryd.f6 Rows.onceGetsRow.domain false Rows.onceGetsRow.laid) (((OpenSpec.ofChange Rows.onceGetsSpec).at F).post enc Tryd.prog Tryd.f6 false true false false) := by
  obtain ⟨places, hx⟩ := reads os enc
  refine returnsInHanded_of_row (C := Tryd.checked) (s := OpenSpec.ofChange Rows.onceGetsSpec) own started (by kernel_rfl) Tryd.func6
    (witness_row_at (enc := enc) (C := Tryd.checked) false (laidWorld os) #[.slice none 0 0] rfl (by kernel_rfl) (by kernel_rfl) (by kernel_rfl)
      (OpenSpec.preRow_of_cond 8 hx (by kernel_rfl) (fun k hk => by cases hk) (by kernel_rfl) (laid_met os))) ?_
  intro W base args ds gs before hval hW _ _ hsz hL _ _
  exact contract H enc W base args ds gs before hval hW hsz hL
theorem said : Rows.OnceGetsSaid :=
  OpenClaim.holds_of_cond 6 Tryd.f6 rfl rfl rfl rfl rfl rfl rfl ⟨rfl, rfl, rfl, rfl, rfl⟩ rfl rfl rfl rfl rfl (by kernel_rfl) Tryd.func6 (by kernel_rfl)
    (of_decide_eq_true (by kernel_rfl)) (by unfold Func.isWrapper; first | (rw [if_pos (by decide +kernel)]; kernel_rfl) | (rw [if_neg (by decide +kernel)]; exact ⟨rfl, rfl⟩))
    (fun os started H enc _ F => by rw [OpenClaim.pre_eq_preRow]; exact lifted os started H enc F)
/-- No parameter wants a stand-in; the program's own looks are off: what the card asks. -/
theorem plain (f : FuncId) (fn : Func) (hf : Tryd.pinned.checked.prog.funcNamed "abacus/abacuslaw13.OnceGets" = some f) (hfn : Tryd.pinned.checked.prog.funcs[f]? = some fn) :
    false = Tryd.pinned.checked.prog.looks [] ∧ ∀ (j : Nat) t, fn.params[j]? = some t → Tryd.pinned.checked.prog.wantsStandIn t = false := by
  obtain rfl : f = 6 := Option.some.inj ((show Tryd.prog.funcNamed "abacus/abacuslaw13.OnceGets" = some 6 by kernel_rfl).symm.trans hf) |>.symm
  obtain rfl : fn = Tryd.f6 := (Option.some.inj (Tryd.func6.symm.trans hfn)).symm
  refine ⟨by kernel_rfl, fun j t ht => ?_⟩
  rw [Tryd.params6] at ht
  match j, ht with
  | 0, ht => obtain rfl : t = 22 := (by simpa using ht.symm); exact (show Tryd.prog.wantsStandIn 22 = false by kernel_rfl)
  | j + 1, ht => simp at ht
theorem card : Rows.OnceGetsCardSaid :=
  Claim7.holds_tied_plain_at .later [] _ _ _ _ said (fun _ h => by cases h) (by kernel_rfl) (fun _ h => by cases h) onceGets_row_tie rfl ⟨rfl, rfl⟩ (by kernel_rfl) rfl plain (by kernel_rfl)
end Go.Proofs.YtbbnafnnbhbbcaaDoor.OnceGets
namespace Go.Proofs.YtbbnafnnbhbbcaaDoor
theorem onceGets_holds : Rows.OnceGetsCardSaid := OnceGets.card
#print axioms onceGets_holds
end Go.Proofs.YtbbnafnnbhbbcaaDoor
