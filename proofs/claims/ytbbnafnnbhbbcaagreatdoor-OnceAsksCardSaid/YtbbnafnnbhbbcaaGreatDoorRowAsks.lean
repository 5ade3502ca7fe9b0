/- PROVED HERE: abacuslaw13.OnceAsks answers true for every input (every Ask and every View of a registry, ask by ask; earlier views stay), and leaves its arguments as they were. CONDITIONS: the variable abacus/cells.uses holds what the program's text lays in it (the card ties that); the call runs in one goroutine; an argument takes at most 2^47 - 4096 bytes. -/
import Derived.Test.YtbbnafnnbhbbcaaGreatDoorAsks
import Derived.Test.YtbbnafnnbhbbcaaGreatDoorCards
import Derived.Test.YtbbnafnnbhbbcaaGreatDoorTie
import Derived.WalkKit
import Derived.ProofKit
import Derived.OpenShut
import Derived.ChangeOld
import Derived.Below
import Derived.SizedLaws
import Derived.Deep.SlicePairs
import Derived.SliceStrings
import Derived.Deep.DeepHandedRow
import Derived.Lib.LaidTab
namespace Go.Proofs.YtbbnafnnbhbbcaaGreatDoor.OnceAsks
open Go.ChangeShapes Go.WideShapes Go.ChangeAt Go.RowKit Go.Deep
set_option linter.unusedVariables false
set_option maxRecDepth 100000
set_option maxHeartbeats 2000000
theorem own : ownKnob Tryz.prog.godebug = none := by kernel_rfl
theorem laidOut : laidOutB Tryz.prog = true := by kernel_rfl
theorem gTab : Tryz.prog.globalNamed "abacus/cells.uses" = some 0 := by kernel_rfl
theorem gTabType : (Tryz.prog.globals[0]?).map (·.type) = some 147 := by kernel_rfl
theorem uTab : Tryz.prog.underlying 147 = some (.array 6 146) := by kernel_rfl
theorem uTab2 : Tryz.prog.underlying 146 = some (.array 2 4) := by kernel_rfl
theorem cTab : Tryz.prog.cellsOf 146 = 2 := by kernel_rfl
theorem cBool : Tryz.prog.cellsOf 4 = 1 := by kernel_rfl
theorem trod_arr {H : Type} {enc : TypeId × Value → H} {P : Program} {w : World} {base : Nat} {sp : Nat → Bool} {held : Bool} {fuel : Nat} {t e : TypeId} {n : Nat} {cs : List Value} {ds : List (DataW H)} {p : List MemPlace}
    (ht : P.underlying t = some (.array n e)) (h : DataW.trod enc P w base sp held fuel t cs = some (.agg ds, p)) :
    ∃ f, ∀ i, i < n → ∃ d q, ds[i]? = some d ∧ DataW.trod enc P w base sp held f e ((cs.drop (i * P.cellsOf e)).take (P.cellsOf e)) = some (d, q) := by
  cases fuel with
  | zero => simp [DataW.trod] at h
  | succ fuel =>
    simp only [DataW.trod, ht] at h
    split at h
    · rename_i hl
      obtain ⟨xs, hm, hx⟩ := Option.map_eq_some_iff.1 h
      have hxs : xs.map (·.1) = ds := by simpa using congrArg Prod.fst hx
      refine ⟨fuel, fun i hi => ?_⟩
      obtain ⟨b, hb, hf⟩ := Lib.mapM_at hm i i (by simp [hi])
      exact ⟨b.1, b.2, by simp [← hxs, hb], hf⟩
    · cases h
/-- What the row's list gives: the table. -/
theorem uses_of {W : World} (h : laidMetH Tryz.prog Rows.onceAsksRow.laid W) : Uses W := by
  have h' : laidMet Tryz.prog Rows.onceAsksRow.laid W := h
  obtain ⟨ps, ⟨g', t', cs, fuel, p, q, hg', ht', hvar, hd, _, _⟩, _⟩ := h'
  obtain rfl := Option.some.inj (gTab.symm.trans hg')
  obtain rfl := Option.some.inj (gTabType.symm.trans ht')
  obtain ⟨f, hi⟩ := trod_arr uTab hd
  rw [cTab] at hi
  have key : ∀ i j b, i < 6 → j < 2 → ((Rows.laid_abacus_cells_uses : DataW Unit) matches .agg _) → (∀ d, (match (Rows.laid_abacus_cells_uses : DataW Unit) with | .agg ds => ds | _ => [])[i]? = some d → ∃ ds, d = .agg ds ∧ ds[j]? = some (.lit (.bool b))) → W.cell? ⟨0, i * 2 + j, none⟩ = some (.bool b) := by
    intro i j b h6 h2 _ hdat
    obtain ⟨d, q', hd', htr⟩ := hi i h6
    obtain ⟨ds, rfl, hb⟩ := hdat d hd'
    obtain ⟨f2, hi2⟩ := trod_arr uTab2 htr
    rw [cBool] at hi2
    obtain ⟨d2, q2, hd2, htr2⟩ := hi2 j h2
    obtain rfl := Option.some.inj (hb.symm.trans hd2)
    obtain ⟨b', hcs, hx⟩ := DataW.trod_bool Tryz.underlying4 htr2
    simp only [Prod.mk.injEq, DataW.lit.injEq, Lit.bool.injEq] at hx
    obtain ⟨rfl, -⟩ := hx
    have hcell := World.var?_cell gTab hvar (i * 2 + j)
    rw [hcell]
    have h1 := congrArg (·[0]?) hcs
    simp [List.getElem?_take, List.getElem?_drop] at h1
    have e2 : j < 2 := h2
    simp [h2] at h1
    simpa [Nat.add_comm, Nat.add_assoc] using h1
  refine ⟨key 1 0 _ (by decide) (by decide) rfl ?_, key 1 1 _ (by decide) (by decide) rfl ?_, key 2 0 _ (by decide) (by decide) rfl ?_, key 2 1 _ (by decide) (by decide) rfl ?_, key 5 0 _ (by decide) (by decide) rfl ?_, key 5 1 _ (by decide) (by decide) rfl ?_⟩
  all_goals
    intro d hd
    cases hd
    exact ⟨_, rfl, rfl⟩
/-- What the walk gives, for every argument and every world that holds the table. -/
theorem contract (H : Type) (enc : TypeId × Value → H) (W : World) (base : Nat) (args : Array Value) (ds gs : List (DataW H)) (before : List MemPlace)
    (hval : ∀ (j : Nat) t v, Tryz.f3.params[j]? = some t → args[j]? = some v → Value.okWide Tryz.prog W .any base t v)
    (hW : DataW.Whole enc Tryz.prog Tryz.f3.params.toList Rows.onceAsksSpec.vars false W args.toList ds gs before)
    (hsz : (DataW.weightsEach Tryz.prog (Tryz.f3.params.toList ++ Rows.onceAsksSpec.plain.varTypes Tryz.prog) (ds ++ gs)).all (· ≤ reachBytes) = true) (hL : laidMetH Tryz.prog Rows.onceAsksRow.laid W) :
    Calls Tryz.prog 3 args W fun e W' => ∃ v, e = .returned v ∧ Rows.onceAsksSpec.post enc Tryz.prog Tryz.f3 false true false false W args v W' := by
  have hW' := hW
  have hU := uses_of hL
  obtain ⟨p, q, hA0, hV, rfl, hfz, hnd⟩ := hW
  have hA : DataW.TrodAll enc Tryz.prog W 0 (fun _ => true) true Tryz.f3.params.toList args.toList ds p := hA0
  rw [Tryz.params3] at hA hval hsz
  obtain ⟨v1, vs1, d1, ds1, p1, q1, hargs, rfl, rfl, h1, r1⟩ := trodAll_cons hA
  obtain ⟨v2, vs2, d2, ds2, p2, q2, rfl, rfl, rfl, h2, r2⟩ := trodAll_cons r1
  obtain ⟨rfl, rfl, rfl⟩ := trodAll_nil r2
  obtain rfl : args = #[v1, v2] := by cases args; simp_all
  obtain ⟨rfl, rfl⟩ := trodVars_none hV
  have k1 := h1
  have k2 := h2
  have lt2 : ∀ x ∈ p2, x.block < W.heap.size := by obtain ⟨m, hm⟩ := k2; exact DataW.trod_lt m _ _ _ hm
  have lt1 : ∀ x ∈ p1, x.block < W.heap.size := by obtain ⟨m, hm⟩ := k1; exact DataW.trod_lt m _ _ _ hm
  obtain ⟨a1, len, cap, rfl⟩ := okWide_slice Tryz.underlying22 (hval 0 22 v1 rfl rfl)
  obtain ⟨a2, len2, cap2, rfl⟩ := okWide_slice Tryz.underlying23 (hval 1 23 v2 rfl rfl)
  clear hA0
  have names : ∃ nm : List ByteArray, nm.length = len2 ∧ RS W W.heap.size (.slice a2 len2 cap2) nm.length (nm.map Value.string) ∧ (∀ s ∈ nm, s.size ≤ maxLen) ∧ nm.length ≤ 9223372036854775806 := by
    obtain ⟨fuel, hf⟩ := h2
    rcases open_strings Tryz.underlying23 Tryz.underlying9 (by kernel_rfl) hf with ⟨hcs, _⟩ | ⟨a, l, c, ss, hcs, _, hl, hm, hmm, hx, hi, hw⟩
    · simp [Value.cells] at hcs
      obtain ⟨rfl, rfl, rfl⟩ := hcs
      exact ⟨[], rfl, ⟨rfl, _, _, rfl, fun h => absurd h (by simp)⟩, by simp, by simp⟩
    · simp [Value.cells] at hcs
      obtain ⟨rfl, rfl, rfl⟩ := hcs
      rw [if_pos rfl] at hmm
      simp only [Prod.mk.injEq] at hx
      have hd1 := hx.1
      have z := sized_slice hsz (j := 1) (t := 23) rfl (by rw [hd1]; rfl) Tryz.underlying23
      have e16 : Tryz.prog.bytesOf 9 = 16 := by kernel_rfl
      rw [e16] at z
      simp [reachBytes, strs] at z
      have hlen : (ss.take len2).length = len2 := by simp; omega
      refine ⟨ss.take len2, hlen, ⟨by simp, _, _, by rw [hlen], fun hp => ?_⟩, fun s hs => hw s (List.mem_of_mem_take hs), by rw [hlen]; omega⟩
      obtain ⟨ab, ao, asp⟩ := a
      have h0 := hi 0 (by omega)
      have hsp : asp = none := by
        rcases asp with _ | y
        · rfl
        · simp [World.cell?, Addr.add] at h0
          split at h0 <;> simp at h0
      subst hsp
      refine ⟨ab, ao, rfl, World.block_lt_of_cell? W _ h0, World.block_lt_of_cell? W _ h0, fun j u hj => ?_⟩
      simp only [List.getElem?_map, Option.map_eq_some_iff] at hj
      obtain ⟨s, hs, rfl⟩ := hj
      obtain ⟨hj1, hj2⟩ := List.getElem?_eq_some_iff.1 hs
      rw [List.getElem_take] at hj2
      have c0 := hi j (by simp at hj1; omega)
      have ea : (⟨ab, ao, none⟩ : Addr).add j = ⟨ab, ao + j, none⟩ := by unfold Addr.add; split <;> simp_all
      rw [ea] at c0
      rw [c0]
      simp at hj1
      rw [List.getD_eq_getElem?_getD, List.getElem?_eq_getElem (by omega), Option.getD_some, hj2]
  obtain ⟨nm, hnml, hnr, hns, hnl⟩ := names
  rw [hnml] at hnr
  have walk : Calls Tryz.prog 3 #[.slice a1 len cap, .slice a2 len2 cap2] W fun e w' => e = .returned (.bool true) ∧ Fr [] W w' := by
    rw [← hnml] at hnr ⊢
    obtain ⟨fuel, hf⟩ := h1
    rcases open_slice_pairs Tryz.underlying22 Tryz.underlying31 (by kernel_rfl) rfl rfl (by kernel_rfl) (by kernel_rfl) hf with ⟨hcs, _⟩ | ⟨a, l, c, m, n', V0, V1, D0, D1, P0, P1, hcs, _, hl, hm, hmm, hx, hi⟩
    · simp [Value.cells] at hcs
      obtain ⟨rfl, rfl, rfl⟩ := hcs
      exact asks_ok none 0 0 0 0 (fun _ => ByteArray.empty) (fun _ => 0) _ nm W hU (by omega) (by omega) (by omega) (by omega) (by omega) hnr hns hnl
    · simp [Value.cells] at hcs
      obtain ⟨rfl, rfl, rfl⟩ := hcs
      rw [if_pos rfl] at hmm
      subst hmm
      simp only [Prod.mk.injEq] at hx
      have hd1 := hx.1
      have z := sized_slice hsz (j := 0) (t := 22) rfl (by rw [hd1]; rfl) Tryz.underlying22
      have e16 : Tryz.prog.bytesOf 31 = 24 := by kernel_rfl
      rw [e16] at z
      simp [reachBytes] at z
      have hk (j : Nat) (hj : j < len) := DataW.trod_string Tryz.underlying9 (hi j (by omega)).2.2.1
      have hxx (j : Nat) (hj : j < len) := DataW.trod_int Tryz.underlying29 (hi j (by omega)).2.2.2
      let kf : Nat → ByteArray := fun j => match V0 j with | .string z => z | _ => ByteArray.empty
      let xf : Nat → Int := fun j => match V1 j with | .int _ z => z | _ => 0
      obtain ⟨ab, ao, asp⟩ := a
      have hspot : 0 < len → asp = none := by
        intro h
        have := (hi 0 (by omega)).1
        rcases asp with _ | y
        · rfl
        · simp [World.cell?, Addr.add] at this
          split at this <;> simp at this
      refine asks_ok (some ⟨ab, ao, asp⟩) ab ao len m kf xf _ nm W hU (fun h => by rw [hspot h]) ?_ ?_ ?_ (by omega) hnr hns hnl
      · intro h
        exact World.block_lt_of_cell? W _ (hi 0 (by omega)).1
      · intro j hj
        have e := hspot (by omega)
        subst e
        obtain ⟨z0, h0, _⟩ := hk j hj
        obtain ⟨z1, h1, _⟩ := hxx j hj
        simp only [List.cons.injEq, and_true] at h0 h1
        have c := hi j (by omega)
        refine ⟨?_, ?_⟩
        · show W.cell? _ = some (.string (match V0 j with | .string z => z | _ => ByteArray.empty))
          rw [h0]
          have c0 := c.1
          rw [h0] at c0
          have ea : (⟨ab, ao, none⟩ : Addr).add (j * 2) = ⟨ab, ao + j * 2, none⟩ := by unfold Addr.add; split <;> simp_all
          rw [ea] at c0
          exact c0
        · show W.cell? _ = some (.int .u8 (match V1 j with | .int _ z => z | _ => 0))
          rw [h1]
          exact c.2.1.trans (congrArg some h1)
      · intro j hj
        obtain ⟨z0, h0, _, hw⟩ := hk j hj
        simp only [List.cons.injEq, and_true] at h0
        show (match V0 j with | .string z => z | _ => ByteArray.empty).size ≤ maxLen
        rw [h0]
        exact hw
  refine walk.mono fun e W' ⟨he, hF⟩ => ?_
  subst he
  have bel : Below W.heap.size W W' := hF.below (Nat.le_refl _) (by simp)
  exact ⟨_, rfl, _, _, _, [], _, [], hW', trodAll_mk1 (shut_bool Tryz.underlying4 _), (trodAll_cons_mk (Below.trod laidOut (by kernel_rfl) (of_decide_eq_true (by kernel_rfl)) k1 bel lt1) (trodAll_cons_mk (Below.trod laidOut (by kernel_rfl) (of_decide_eq_true (by kernel_rfl)) k2 bel lt2) trodAll_mk0)), rfl, bel.frame _, fun h => by cases h⟩
/-- A world for the witness: the settled one, the table holding what its initialiser lays. -/
noncomputable def laidWorld (os : Os) : World :=
  { World.holding Tryz.prog os ⟨#[], #[], []⟩ with heap := (World.holding Tryz.prog os ⟨#[], #[], []⟩).heap.modify 0 fun
      | .cells _ t frozen => .cells #[.bool false, .bool false, .bool false, .bool false, .bool false, .bool true, .bool false, .bool true, .bool false, .bool true, .bool true, .bool true] t frozen
      | o => o }
theorem laid_met (os : Os) : laidMet Tryz.prog Rows.onceAsksRow.laid ((laidWorld os).forCall (fun _ _ => 0) ⟨#[], #[.slice none 0 0, .slice none 0 0], []⟩).memory :=
  laidMet_of_run' 8 (by kernel_rfl) (by kernel_rfl)
theorem reads (os : Os) {H : Type} (enc : TypeId × Value → H) : ∃ places, DataW.whole enc Tryz.prog ((laidWorld os).forCall (fun _ _ => 0) ⟨#[], #[.slice none 0 0, .slice none 0 0], []⟩).memory Tryz.f3.params.toList Rows.onceAsksSpec.vars false #[Value.slice none 0 0, Value.slice none 0 0].toList 8 = some ([.nil, .nil], [], places) :=
  ⟨[], by kernel_rfl⟩
set_option maxRecDepth 100000 in
theorem lifted (os : Os) (started : os.Started) (H : Type) (enc : TypeId × Value → H) (F : Stop.Interp) :
    ReturnsInHanded {} Tryz.checked os 3 .any ((OpenSpec.ofChange Rows.onceAsksSpec).preRow enc Tryz.prog Tryz.f3 Rows.onceAsksRow.domain false Rows.onceAsksRow.laid) (((OpenSpec.ofChange Rows.onceAsksSpec).at F).post enc Tryz.prog Tryz.f3 false true false false) := by
  obtain ⟨places, hx⟩ := reads os enc
  refine returnsInHanded_of_row (C := Tryz.checked) (s := OpenSpec.ofChange Rows.onceAsksSpec) own started (by kernel_rfl) Tryz.func3
    (witness_row_at (enc := enc) (C := Tryz.checked) false (laidWorld os) #[.slice none 0 0, .slice none 0 0] rfl (by kernel_rfl) (by kernel_rfl) (by kernel_rfl)
      (OpenSpec.preRow_of_cond 8 hx (by kernel_rfl) (fun k hk => by cases hk) (by kernel_rfl) (laid_met os))) ?_
  intro W base args ds gs before hval hW _ _ hsz hL _ _
  exact contract H enc W base args ds gs before hval hW hsz hL
theorem said : Rows.OnceAsksSaid :=
  OpenClaim.holds_of_cond 3 Tryz.f3 rfl rfl rfl rfl rfl rfl rfl ⟨rfl, rfl, rfl, rfl, rfl⟩ rfl rfl rfl rfl rfl (by kernel_rfl) Tryz.func3 (by kernel_rfl)
    (of_decide_eq_true (by kernel_rfl)) (by unfold Func.isWrapper; first | (rw [if_pos (by decide +kernel)]; kernel_rfl) | (rw [if_neg (by decide +kernel)]; exact ⟨rfl, rfl⟩))
    (fun os started H enc _ F => by rw [OpenClaim.pre_eq_preRow]; exact lifted os started H enc F)
/-- No parameter wants a stand-in; the program's own looks are off: what the card asks. -/
theorem plain (f : FuncId) (fn : Func) (hf : Tryz.pinned.checked.prog.funcNamed "abacus/abacuslaw13.OnceAsks" = some f) (hfn : Tryz.pinned.checked.prog.funcs[f]? = some fn) :
    false = Tryz.pinned.checked.prog.looks [] ∧ ∀ (j : Nat) t, fn.params[j]? = some t → Tryz.pinned.checked.prog.wantsStandIn t = false := by
  obtain rfl : f = 3 := Option.some.inj ((show Tryz.prog.funcNamed "abacus/abacuslaw13.OnceAsks" = some 3 by kernel_rfl).symm.trans hf) |>.symm
  obtain rfl : fn = Tryz.f3 := (Option.some.inj (Tryz.func3.symm.trans hfn)).symm
  refine ⟨by kernel_rfl, fun j t ht => ?_⟩
  rw [Tryz.params3] at ht
  match j, ht with
  | 0, ht => obtain rfl : t = 22 := (by simpa using ht.symm); exact (show Tryz.prog.wantsStandIn 22 = false by kernel_rfl)
  | 1, ht => obtain rfl : t = 23 := (by simpa using ht.symm); exact (show Tryz.prog.wantsStandIn 23 = false by kernel_rfl)
  | j + 2, ht => simp at ht
theorem card : Rows.OnceAsksCardSaid :=
  Claim7.holds_tied_plain_at .later [] _ _ _ _ said (fun _ h => by cases h) (by kernel_rfl) (fun _ h => by cases h) onceAsks_row_tie rfl ⟨rfl, rfl⟩ (by kernel_rfl) rfl plain (by kernel_rfl)
end Go.Proofs.YtbbnafnnbhbbcaaGreatDoor.OnceAsks
namespace Go.Proofs.YtbbnafnnbhbbcaaGreatDoor
theorem onceAsks_holds : Rows.OnceAsksCardSaid := OnceAsks.card
#print axioms onceAsks_holds
end Go.Proofs.YtbbnafnnbhbbcaaGreatDoor
