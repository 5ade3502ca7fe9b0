/- The package delta: pairs, the iterator: CC. -/
import Derived.Test.YtmilnhicmeblhaaPr
import Derived.RangeFuncNested
import Derived.RangeFuncBound
import Derived.RangeFuncCalls
import Derived.RangeFuncLeaves
import Derived.Shelf.Abstract
import Derived.Shelf.RegionOpen
import Derived.OwnWalkIn
import Derived.TacticsInMore
import Derived.LoopNIn
import Derived.LoopIn
namespace Go.Proofs.Ytmilnhicmeblhaa
open Go.RowKit Go.Shelf Go.Sort
set_option maxRecDepth 100000
set_option linter.unusedVariables false
set_option linter.unusedSimpArgs false
set_option maxHeartbeats 4000000
attribute [local go_sem] Oper.semAt_some
theorem pairsCC_in (n l Ba Bb Bk Bj n₀ : Nat) (A : List Ct) (B : List Ct) (va vb : Value) (J Jx : List It → World → Prop) (W : World)
    (hJ : AbidesFrom W.heap.size J) (hn0 : n₀ ≤ W.heap.size)
    (hY : ∀ pre x W1, (pre ++ [x]) <+: zipP (A.map (·.1)) (B.map (·.1)) 0 0 → J pre W1 → pre.length < A.length + B.length → YieldAt Fence.wide (n - 1) Try.prog l #[.string x.1, .agg #[adr va 2 x.2.1, adr vb 2 x.2.2]] W1 fun e W' =>
      (e = .returned (.bool true) ∧ J (pre ++ [x]) W' ∧ KB n₀ [Ba, Bb, Bk, Bj] W1 W') ∨ (e = .returned (.bool false) ∧ Jx (pre ++ [x]) W'))
    (hA : RC W va A) (hB : RC W vb B) (ha : Blk W Ba #[va] 24) (hb : Blk W Bb #[vb] 24) (hk : Blk W Bk #[.func (.func 45) #[] #[]] 91) (hj : Blk W Bj #[.func (.func 45) #[] #[]] 91)
    (hnA : 0 < A.length → ∀ g, va.ownBlock = some g → g < n₀) (hnB : 0 < B.length → ∀ g, vb.ownBlock = some g → g < n₀) (h0 : J [] W) :
    Calls Try.prog 66 #[.func (.yield l) #[] #[], .pointer (some ⟨Ba, 0, none⟩), .pointer (some ⟨Bb, 0, none⟩), .pointer (some ⟨Bk, 0, none⟩), .pointer (some ⟨Bj, 0, none⟩)] W fun e W' => (∃ v, e = .returned v) ∧
      ((∃ xs, xs = zipP (A.map (·.1)) (B.map (·.1)) 0 0 ∧ J xs W') ∨ (∃ pre, pre <+: zipP (A.map (·.1)) (B.map (·.1)) 0 0 ∧ Jx pre W')) := by
  obtain ⟨aa, ac, ea⟩ := hA.at_
  obtain ⟨ba, bc, eb⟩ := hB.at_
  subst ea eb
  have HJ := Lib.hid hJ
  have HYd := Lib.hid hY
  have HA := Lib.hid hA
  have HB := Lib.hid hB
  have H1 := Lib.hid ha
  have H2 := Lib.hid hb
  have H3 := Lib.hid hk
  have H4 := Lib.hid hj
  have HnA := Lib.hid hnA
  have HnB := Lib.hid hnB
  clear hJ hY hA hB ha hb hk hj hnA hnB
  go_enter Try.func66, Try.ntmps66
  go_wp2
  go_loopw [6, 7] (fun i k wr => ∃ (p q : Nat) (pre : List It), p ≤ A.length ∧ q ≤ B.length ∧ i = .int .i64 p ∧ k = .int .i64 q ∧ Hid (J pre wr) ∧ Hid (pre ++ zipP ((A.map (·.1)).drop p) ((B.map (·.1)).drop q) p q = zipP (A.map (·.1)) (B.map (·.1)) 0 0) ∧ Hid (KB n₀ [Ba, Bb, Bk, Bj] W wr)) (fun i k _ => (A.length - (intOf i).toNat) + (B.length - (intOf k).toNat))
  case atStart => exact ⟨0, 0, [], Nat.zero_le _, Nat.zero_le _, rfl, rfl, Lib.hid h0, Lib.hid rfl, Lib.hid (KB.refl _ _ _)⟩
  case round =>
    clear h0
    obtain ⟨p, q, pre, hp, hq, rfl, rfl, HJs, HZ, HX⟩ := hrel
    replace HA := Lib.hid (RD.kb HX.out HA.out HnA.out)
    replace HB := Lib.hid (RD.kb HX.out HB.out HnB.out)
    have hsW := HX.out.size
    replace H1 := Lib.hid (H1.out.kb HX.out (.inr (by simp)))
    replace H2 := Lib.hid (H2.out.kb HX.out (.inr (by simp)))
    replace H3 := Lib.hid (H3.out.kb HX.out (.inr (by simp)))
    replace H4 := Lib.hid (H4.out.kb HX.out (.inr (by simp)))
    have hd1 := H1.out.lt
    have hd2 := H2.out.lt
    have hd3 := H3.out.lt
    have hd4 := H4.out.lt
    have hn1 : Ba ≠ wr.heap.size := by omega
    have hn2 : Bb ≠ wr.heap.size := by omega
    have hn3 : Bk ≠ wr.heap.size := by omega
    have hn4 : Bj ≠ wr.heap.size := by omega
    have HF0 := Lib.hid (Fr.refl [] wr)
    by_cases hpl : p < A.length
    · by_cases hql : q < B.length
      · obtain ⟨x, hx⟩ : ∃ x, A[p]? = some x := ⟨_, List.getElem?_eq_getElem hpl⟩
        obtain ⟨ag, ao, ac', he, ag1, ag2, ag3, ag4⟩ := HA.out.cells (by omega)
        simp only [Value.slice.injEq] at he
        obtain ⟨rfl, -, rfl⟩ := he
        have ak0 := ag4 (p * 2) _ (flat2_get A p x hx).1
        have ak1 := ag4 (p * 2 + 1) _ (flat2_get A p x hx).2
        rw [← Nat.add_assoc] at ak1
        have Hx := Lib.hid hx
        have Ka0 := Lib.hid ak0
        have Ka1 := Lib.hid ak1
        have ane : wr.heap.size ≠ ag := by omega
        have ane2 : ag ≠ wr.heap.size := by omega
        have am : (A.length : Int) ≤ 9223372036854775807 := by unfold maxLen at ag3; omega
        clear ag4 hx ak0 ak1
        obtain ⟨y, hy⟩ : ∃ x, B[q]? = some x := ⟨_, List.getElem?_eq_getElem hql⟩
        obtain ⟨bg, bo, bc', he, bg1, bg2, bg3, bg4⟩ := HB.out.cells (by omega)
        simp only [Value.slice.injEq] at he
        obtain ⟨rfl, -, rfl⟩ := he
        have bk0 := bg4 (q * 2) _ (flat2_get B q y hy).1
        have bk1 := bg4 (q * 2 + 1) _ (flat2_get B q y hy).2
        rw [← Nat.add_assoc] at bk1
        have Hy := Lib.hid hy
        have Kb0 := Lib.hid bk0
        have Kb1 := Lib.hid bk1
        have bne : wr.heap.size ≠ bg := by omega
        have bne2 : bg ≠ wr.heap.size := by omega
        have bm : (B.length : Int) ≤ 9223372036854775807 := by unfold maxLen at bg3; omega
        clear bg4 hy bk0 bk1
        have cq : ((q : Int) == (B.length : Int)) = false := by simp; omega
        rcases Decidable.em (bts x.1 < bts y.1) with hlt | hnl
        · have HL := Lib.hid hlt
          have c1 : Op.bytesLess x.1.toList y.1.toList = true := by rw [bytesLess_lt]; simpa using hlt
          have c2 : Op.bytesLess y.1.toList x.1.toList = false := by rw [bytesLess_lt]; simpa using fun h => bts_irrefl _ (bts_trans h hlt)
          have c3 := ba_beq (bts_ne hlt)
          have c4 := ba_beq (bts_ne hlt).symm
          clear hlt
          have q1 := (HF0.out.blk H1.out (by simp)).cell
          have l1 := (HF0.out.blk H1.out (by simp)).lt
          have q2 := (HF0.out.blk H2.out (by simp)).cell
          have l2 := (HF0.out.blk H2.out (by simp)).lt
          have q3 := (HF0.out.blk H3.out (by simp)).cell
          have l3 := (HF0.out.blk H3.out (by simp)).lt
          have q4 := (HF0.out.blk H4.out (by simp)).cell
          have l4 := (HF0.out.blk H4.out (by simp)).lt
          go_upto_region 4 with fail
          clear q1 q2 q3 q4 l1 l2 l3 l4
          generalize hws : wr.alloc (.cells #[.pointer none, .pointer none] 94) = ws
          have HS0 := Lib.hid (show Blk ws wr.heap.size #[.pointer none, .pointer none] 94 from hws ▸ Blk.new wr _ _)
          have HFs := Lib.hid (show Fr [] wr ws from hws ▸ (Fr.refl _ _).alloc _)
          clear hws
          have q1 := (HFs.out.blk H1.out (by simp)).cell
          have l1 := (HFs.out.blk H1.out (by simp)).lt
          have q2 := (HFs.out.blk H2.out (by simp)).cell
          have l2 := (HFs.out.blk H2.out (by simp)).lt
          have q3 := (HFs.out.blk H3.out (by simp)).cell
          have l3 := (HFs.out.blk H3.out (by simp)).lt
          have q4 := (HFs.out.blk H4.out (by simp)).cell
          have l4 := (HFs.out.blk H4.out (by simp)).lt
          have aw := Nat.lt_of_lt_of_le ag1 HFs.out.size
          have ak0 := HFs.out.cl Ka0.out
          have ak1 := HFs.out.cl Ka1.out
          have bw := Nat.lt_of_lt_of_le bg1 HFs.out.size
          have bk0 := HFs.out.cl Kb0.out
          have bk1 := HFs.out.cl Kb1.out
          have sc0 := HS0.out.cell
          have m1 : Ba < ws.heap.size + 1 := by omega
          have m2 : Bb < ws.heap.size + 1 := by omega
          have m3 : Bk < ws.heap.size + 1 := by omega
          have m4 : Bj < ws.heap.size + 1 := by omega
          have m5 : ag < ws.heap.size + 1 := by omega
          have m6 : bg < ws.heap.size + 1 := by omega
          go_cut [44] (fun v wx => v = .bool true ∧ Hid (Blk wx wr.heap.size #[.pointer none, .pointer none] 94) ∧ Hid (Fr [] wr wx))
          case first =>
            go_region_held3 (fun w' => w'.cell? ⟨Ba, 0, none⟩ = some (.slice (some ⟨ag, ao, none⟩) A.length ac) ∧ w'.cell? ⟨Bk, 0, none⟩ = some (.func (.func 45) #[] #[]) ∧ w'.cell? ⟨ag, ao + p * 2, none⟩ = some (.string x.1) ∧ w'.cell? ⟨ag, ao + p * 2 + 1, none⟩ = some (.int .u64 x.2) ∧ w'.cell? ⟨Bb, 0, none⟩ = some (.slice (some ⟨bg, bo, none⟩) B.length bc) ∧ w'.cell? ⟨Bj, 0, none⟩ = some (.func (.func 45) #[] #[]) ∧ w'.cell? ⟨bg, bo + q * 2, none⟩ = some (.string y.1) ∧ w'.cell? ⟨bg, bo + q * 2 + 1, none⟩ = some (.int .u64 y.2)) (first | ((try dsimp only); refine ⟨?_, ?_, ?_, ?_, ?_, ?_, ?_, ?_⟩ <;> (first | (simp [go_sem, *]; done) | (simp [go_sem, *, World.cell?_alloc_some, World.cell?_setCell_far]; done))) | (simp [go_sem, *]; done) | (simp [go_sem, *, World.cell?_alloc_some, World.cell?_setCell_far]; done)) ((first | (go_at_call 45; (with_reducible refine (countKey_any _ _ _).mono ?_); rintro e w5 ⟨rfl, rfl⟩)))
            all_goals go_wp2
            all_goals go_meet
            all_goals (exact ⟨rfl, Lib.hid (by repeat' (first | (with_reducible exact HS0.out) | (with_reducible refine Blk.drew ?_) | (with_reducible refine Blk.drN ?_ _) | (with_reducible refine Blk.set ?_ _ _) | (with_reducible refine Blk.other ?_ ?_ _) | (with_reducible refine Blk.alloc ?_ _) | (simp; done) | (simp; omega))), Lib.hid (by repeat' (first | (with_reducible exact HFs.out) | (with_reducible refine Fr.drew ?_) | (with_reducible refine Fr.drN ?_ _) | (with_reducible refine Fr.alloc ?_ _) | (with_reducible refine Fr.set ?_ ?_ _) | (left; simp; done) | (right; simp; done) | (right; simp; omega)))⟩)
          case rest =>
          clear sc0 m1 m2 m3 m4 m5 m6
          obtain ⟨rfl, HS, HF⟩ := hcut
          clear q1 q2 q3 q4 l1 l2 l3 l4
          clear aw ak0 ak1
          clear bw bk0 bk1
          have q1 := (HF.out.blk H1.out (by simp)).cell
          have l1 := (HF.out.blk H1.out (by simp)).lt
          have q2 := (HF.out.blk H2.out (by simp)).cell
          have l2 := (HF.out.blk H2.out (by simp)).lt
          have q3 := (HF.out.blk H3.out (by simp)).cell
          have l3 := (HF.out.blk H3.out (by simp)).lt
          have q4 := (HF.out.blk H4.out (by simp)).cell
          have l4 := (HF.out.blk H4.out (by simp)).lt
          have aw := Nat.lt_of_lt_of_le ag1 HF.out.size
          have ak0 := HF.out.cl Ka0.out
          have ak1 := HF.out.cl Ka1.out
          have bw := Nat.lt_of_lt_of_le bg1 HF.out.size
          have bk0 := HF.out.cl Kb0.out
          have bk1 := HF.out.cl Kb1.out
          have sc := HS.out.cell
          have sf := HS.out.free
          have sl := HS.out.lt
          go_upto_region 5 with fail
          go_cut [9] (fun v wx => v = .string x.1 ∧ Hid (Blk wx wr.heap.size #[(.pointer (some ⟨ag, ao + p * 2, none⟩)), .pointer none] 94) ∧ Hid (Fr [] wr wx))
          case first =>
            go_region_held3 (fun w' => w'.cell? ⟨Ba, 0, none⟩ = some (.slice (some ⟨ag, ao, none⟩) A.length ac) ∧ w'.cell? ⟨Bk, 0, none⟩ = some (.func (.func 45) #[] #[]) ∧ w'.cell? ⟨ag, ao + p * 2, none⟩ = some (.string x.1) ∧ w'.cell? ⟨ag, ao + p * 2 + 1, none⟩ = some (.int .u64 x.2)) (first | ((try dsimp only); refine ⟨?_, ?_, ?_, ?_⟩ <;> (first | (simp [go_sem, *]; done) | (simp [go_sem, *, World.cell?_alloc_some, World.cell?_setCell_far]; done))) | (simp [go_sem, *]; done) | (simp [go_sem, *, World.cell?_alloc_some, World.cell?_setCell_far]; done)) ((first | (go_at_call 45; (with_reducible refine (countKey_any _ _ _).mono ?_); rintro e w5 ⟨rfl, rfl⟩)))
            all_goals go_wp2
            all_goals go_meet
            all_goals (exact ⟨rfl, Lib.hid (Blk.cast (cs := Array.setIfInBounds #[.pointer none, .pointer none] 0 (.pointer (some ⟨ag, ao + p * 2, none⟩))) (by repeat' (first | (with_reducible exact HS.out) | (with_reducible refine Blk.drew ?_) | (with_reducible refine Blk.drN ?_ _) | (with_reducible refine Blk.set ?_ _ _) | (with_reducible refine Blk.other ?_ ?_ _) | (with_reducible refine Blk.alloc ?_ _) | (simp; done) | (simp; omega))) (by simp)), Lib.hid (by repeat' (first | (with_reducible exact HF.out) | (with_reducible refine Fr.drew ?_) | (with_reducible refine Fr.drN ?_ _) | (with_reducible refine Fr.alloc ?_ _) | (with_reducible refine Fr.set ?_ ?_ _) | (left; simp; done) | (right; simp; done) | (right; simp; omega)))⟩)
          case rest =>
          clear sc sf sl HS HF
          clear q1 q2 q3 q4 l1 l2 l3 l4
          clear aw ak0 ak1
          clear bw bk0 bk1
          obtain ⟨rfl, HS, HF⟩ := hcut
          have q1 := (HF.out.blk H1.out (by simp)).cell
          have l1 := (HF.out.blk H1.out (by simp)).lt
          have q2 := (HF.out.blk H2.out (by simp)).cell
          have l2 := (HF.out.blk H2.out (by simp)).lt
          have q3 := (HF.out.blk H3.out (by simp)).cell
          have l3 := (HF.out.blk H3.out (by simp)).lt
          have q4 := (HF.out.blk H4.out (by simp)).cell
          have l4 := (HF.out.blk H4.out (by simp)).lt
          have aw := Nat.lt_of_lt_of_le ag1 HF.out.size
          have ak0 := HF.out.cl Ka0.out
          have ak1 := HF.out.cl Ka1.out
          have bw := Nat.lt_of_lt_of_le bg1 HF.out.size
          have bk0 := HF.out.cl Kb0.out
          have bk1 := HF.out.cl Kb1.out
          have sc := HS.out.cell
          have sl := HS.out.lt
          go_upto_region 6 with fail
          go_cut [73] (fun v wx => v = .bool false ∧ Hid (Blk wx wr.heap.size #[(.pointer (some ⟨ag, ao + p * 2, none⟩)), .pointer none] 94) ∧ Hid (Fr [] wr wx))
          case first =>
            go_region_held3 (fun w' => w'.cell? ⟨Bb, 0, none⟩ = some (.slice (some ⟨bg, bo, none⟩) B.length bc) ∧ w'.cell? ⟨Bj, 0, none⟩ = some (.func (.func 45) #[] #[]) ∧ w'.cell? ⟨bg, bo + q * 2, none⟩ = some (.string y.1) ∧ w'.cell? ⟨bg, bo + q * 2 + 1, none⟩ = some (.int .u64 y.2) ∧ w'.cell? ⟨wr.heap.size, 0, none⟩ = some (.pointer (some ⟨ag, ao + p * 2, none⟩))) (first | ((try dsimp only); refine ⟨?_, ?_, ?_, ?_, ?_⟩ <;> (first | (simp [go_sem, *]; done) | (simp [go_sem, *, World.cell?_alloc_some, World.cell?_setCell_far]; done))) | (simp [go_sem, *]; done) | (simp [go_sem, *, World.cell?_alloc_some, World.cell?_setCell_far]; done)) ((first | (go_at_call 45; (with_reducible refine (countKey_any _ _ _).mono ?_); rintro e w5 ⟨rfl, rfl⟩)))
            all_goals go_wp2
            all_goals go_meet
            all_goals (exact ⟨rfl, Lib.hid (by repeat' (first | (with_reducible exact HS.out) | (with_reducible refine Blk.drew ?_) | (with_reducible refine Blk.drN ?_ _) | (with_reducible refine Blk.set ?_ _ _) | (with_reducible refine Blk.other ?_ ?_ _) | (with_reducible refine Blk.alloc ?_ _) | (simp; done) | (simp; omega))), Lib.hid (by repeat' (first | (with_reducible exact HF.out) | (with_reducible refine Fr.drew ?_) | (with_reducible refine Fr.drN ?_ _) | (with_reducible refine Fr.alloc ?_ _) | (with_reducible refine Fr.set ?_ ?_ _) | (left; simp; done) | (right; simp; done) | (right; simp; omega)))⟩)
          case rest =>
          clear sc sl HS HF
          clear q1 q2 q3 q4 l1 l2 l3 l4
          clear aw ak0 ak1
          clear bw bk0 bk1
          obtain ⟨rfl, HS, HF⟩ := hcut
          have sc := HS.out.cell
          have sl := HS.out.lt
          go_upto_region 12 with fail
          have hJ5 := HJ.out pre wr _ none HJs.out HF.out.grown (fun r h => by cases h)
          have hz5 := HZ.out
          rw [zipP_lt (a := A.map (·.1)) (b := B.map (·.1)) (x := x.1) (y := y.1) (by rw [List.getElem?_map, Hx.out]; rfl) (by rw [List.getElem?_map, Hy.out]; rfl) HL.out] at hz5
          obtain ⟨z1, z2, z3⟩ := step_pre hz5
          have HZ1 := Lib.hid z1
          have HZ2 := Lib.hid z2
          have hzl := zipP_len (A.map (·.1)) (B.map (·.1)) 0 0
          simp only [List.length_map] at hzl
          obtain ⟨fn, tmps, assign, body, hy, hR⟩ := HYd.out pre (x.1, some p, none) _ HZ2.out hJ5 (by omega)
          simp only [adr, add_none] at hy
          clear hz5 z1 z2 hzl z3 hJ5
          refine (wpIn_wide (n := n)).1 ?_
          gi_wp2
          refine ⟨fun h => (by simp [Fence.wide] at h), hR.mono ?_⟩
          rintro e W3 (⟨rfl, hJ3, hk3⟩ | ⟨rfl, hJx3⟩)
          · gi_wp2
            go_wp2
            go_roundw
            case rel => exact ⟨p + 1, q, _, by omega, by omega, by go_num, by go_num, Lib.hid hJ3, HZ1, Lib.hid ((HX.out.trans (KB.of_fr HF.out (by simp))).trans hk3)⟩
            case measure => simp [intOf]; omega
          · gi_wp2
            go_wp2
            refine bodyPost_ret (results_none rfl _ _ _) rfl ?_
            exact ⟨⟨_, rfl⟩, .inr ⟨_, HZ2.out, hJx3⟩⟩
        · by_cases he : x.1 = y.1
          · have HL := Lib.hid he
            have c1 : Op.bytesLess x.1.toList y.1.toList = false := by rw [he, bytesLess_lt]; exact decide_eq_false (bts_irrefl _)
            have c2 : Op.bytesLess y.1.toList x.1.toList = false := by rw [he, bytesLess_lt]; exact decide_eq_false (bts_irrefl _)
            have c3 : (x.1.toList == y.1.toList) = true := by rw [he]; simp
            have c4 : (y.1.toList == x.1.toList) = true := by rw [he]; simp
            clear he hnl
            have q1 := (HF0.out.blk H1.out (by simp)).cell
            have l1 := (HF0.out.blk H1.out (by simp)).lt
            have q2 := (HF0.out.blk H2.out (by simp)).cell
            have l2 := (HF0.out.blk H2.out (by simp)).lt
            have q3 := (HF0.out.blk H3.out (by simp)).cell
            have l3 := (HF0.out.blk H3.out (by simp)).lt
            have q4 := (HF0.out.blk H4.out (by simp)).cell
            have l4 := (HF0.out.blk H4.out (by simp)).lt
            go_upto_region 4 with fail
            clear q1 q2 q3 q4 l1 l2 l3 l4
            generalize hws : wr.alloc (.cells #[.pointer none, .pointer none] 94) = ws
            have HS0 := Lib.hid (show Blk ws wr.heap.size #[.pointer none, .pointer none] 94 from hws ▸ Blk.new wr _ _)
            have HFs := Lib.hid (show Fr [] wr ws from hws ▸ (Fr.refl _ _).alloc _)
            clear hws
            have q1 := (HFs.out.blk H1.out (by simp)).cell
            have l1 := (HFs.out.blk H1.out (by simp)).lt
            have q2 := (HFs.out.blk H2.out (by simp)).cell
            have l2 := (HFs.out.blk H2.out (by simp)).lt
            have q3 := (HFs.out.blk H3.out (by simp)).cell
            have l3 := (HFs.out.blk H3.out (by simp)).lt
            have q4 := (HFs.out.blk H4.out (by simp)).cell
            have l4 := (HFs.out.blk H4.out (by simp)).lt
            have aw := Nat.lt_of_lt_of_le ag1 HFs.out.size
            have ak0 := HFs.out.cl Ka0.out
            have ak1 := HFs.out.cl Ka1.out
            have bw := Nat.lt_of_lt_of_le bg1 HFs.out.size
            have bk0 := HFs.out.cl Kb0.out
            have bk1 := HFs.out.cl Kb1.out
            have sc0 := HS0.out.cell
            have m1 : Ba < ws.heap.size + 1 := by omega
            have m2 : Bb < ws.heap.size + 1 := by omega
            have m3 : Bk < ws.heap.size + 1 := by omega
            have m4 : Bj < ws.heap.size + 1 := by omega
            have m5 : ag < ws.heap.size + 1 := by omega
            have m6 : bg < ws.heap.size + 1 := by omega
            go_cut [44] (fun v wx => v = .bool true ∧ Hid (Blk wx wr.heap.size #[.pointer none, .pointer none] 94) ∧ Hid (Fr [] wr wx))
            case first =>
              go_region_held3 (fun w' => w'.cell? ⟨Ba, 0, none⟩ = some (.slice (some ⟨ag, ao, none⟩) A.length ac) ∧ w'.cell? ⟨Bk, 0, none⟩ = some (.func (.func 45) #[] #[]) ∧ w'.cell? ⟨ag, ao + p * 2, none⟩ = some (.string x.1) ∧ w'.cell? ⟨ag, ao + p * 2 + 1, none⟩ = some (.int .u64 x.2) ∧ w'.cell? ⟨Bb, 0, none⟩ = some (.slice (some ⟨bg, bo, none⟩) B.length bc) ∧ w'.cell? ⟨Bj, 0, none⟩ = some (.func (.func 45) #[] #[]) ∧ w'.cell? ⟨bg, bo + q * 2, none⟩ = some (.string y.1) ∧ w'.cell? ⟨bg, bo + q * 2 + 1, none⟩ = some (.int .u64 y.2)) (first | ((try dsimp only); refine ⟨?_, ?_, ?_, ?_, ?_, ?_, ?_, ?_⟩ <;> (first | (simp [go_sem, *]; done) | (simp [go_sem, *, World.cell?_alloc_some, World.cell?_setCell_far]; done))) | (simp [go_sem, *]; done) | (simp [go_sem, *, World.cell?_alloc_some, World.cell?_setCell_far]; done)) ((first | (go_at_call 45; (with_reducible refine (countKey_any _ _ _).mono ?_); rintro e w5 ⟨rfl, rfl⟩)))
              all_goals go_wp2
              all_goals go_meet
              all_goals (exact ⟨rfl, Lib.hid (by repeat' (first | (with_reducible exact HS0.out) | (with_reducible refine Blk.drew ?_) | (with_reducible refine Blk.drN ?_ _) | (with_reducible refine Blk.set ?_ _ _) | (with_reducible refine Blk.other ?_ ?_ _) | (with_reducible refine Blk.alloc ?_ _) | (simp; done) | (simp; omega))), Lib.hid (by repeat' (first | (with_reducible exact HFs.out) | (with_reducible refine Fr.drew ?_) | (with_reducible refine Fr.drN ?_ _) | (with_reducible refine Fr.alloc ?_ _) | (with_reducible refine Fr.set ?_ ?_ _) | (left; simp; done) | (right; simp; done) | (right; simp; omega)))⟩)
            case rest =>
            clear sc0 m1 m2 m3 m4 m5 m6
            obtain ⟨rfl, HS, HF⟩ := hcut
            clear q1 q2 q3 q4 l1 l2 l3 l4
            clear aw ak0 ak1
            clear bw bk0 bk1
            have q1 := (HF.out.blk H1.out (by simp)).cell
            have l1 := (HF.out.blk H1.out (by simp)).lt
            have q2 := (HF.out.blk H2.out (by simp)).cell
            have l2 := (HF.out.blk H2.out (by simp)).lt
            have q3 := (HF.out.blk H3.out (by simp)).cell
            have l3 := (HF.out.blk H3.out (by simp)).lt
            have q4 := (HF.out.blk H4.out (by simp)).cell
            have l4 := (HF.out.blk H4.out (by simp)).lt
            have aw := Nat.lt_of_lt_of_le ag1 HF.out.size
            have ak0 := HF.out.cl Ka0.out
            have ak1 := HF.out.cl Ka1.out
            have bw := Nat.lt_of_lt_of_le bg1 HF.out.size
            have bk0 := HF.out.cl Kb0.out
            have bk1 := HF.out.cl Kb1.out
            have sc := HS.out.cell
            have sf := HS.out.free
            have sl := HS.out.lt
            go_upto_region 5 with fail
            go_cut [9] (fun v wx => v = .string x.1 ∧ Hid (Blk wx wr.heap.size #[(.pointer (some ⟨ag, ao + p * 2, none⟩)), .pointer none] 94) ∧ Hid (Fr [] wr wx))
            case first =>
              go_region_held3 (fun w' => w'.cell? ⟨Ba, 0, none⟩ = some (.slice (some ⟨ag, ao, none⟩) A.length ac) ∧ w'.cell? ⟨Bk, 0, none⟩ = some (.func (.func 45) #[] #[]) ∧ w'.cell? ⟨ag, ao + p * 2, none⟩ = some (.string x.1) ∧ w'.cell? ⟨ag, ao + p * 2 + 1, none⟩ = some (.int .u64 x.2)) (first | ((try dsimp only); refine ⟨?_, ?_, ?_, ?_⟩ <;> (first | (simp [go_sem, *]; done) | (simp [go_sem, *, World.cell?_alloc_some, World.cell?_setCell_far]; done))) | (simp [go_sem, *]; done) | (simp [go_sem, *, World.cell?_alloc_some, World.cell?_setCell_far]; done)) ((first | (go_at_call 45; (with_reducible refine (countKey_any _ _ _).mono ?_); rintro e w5 ⟨rfl, rfl⟩)))
              all_goals go_wp2
              all_goals go_meet
              all_goals (exact ⟨rfl, Lib.hid (Blk.cast (cs := Array.setIfInBounds #[.pointer none, .pointer none] 0 (.pointer (some ⟨ag, ao + p * 2, none⟩))) (by repeat' (first | (with_reducible exact HS.out) | (with_reducible refine Blk.drew ?_) | (with_reducible refine Blk.drN ?_ _) | (with_reducible refine Blk.set ?_ _ _) | (with_reducible refine Blk.other ?_ ?_ _) | (with_reducible refine Blk.alloc ?_ _) | (simp; done) | (simp; omega))) (by simp)), Lib.hid (by repeat' (first | (with_reducible exact HF.out) | (with_reducible refine Fr.drew ?_) | (with_reducible refine Fr.drN ?_ _) | (with_reducible refine Fr.alloc ?_ _) | (with_reducible refine Fr.set ?_ ?_ _) | (left; simp; done) | (right; simp; done) | (right; simp; omega)))⟩)
            case rest =>
            clear sc sf sl HS HF
            clear q1 q2 q3 q4 l1 l2 l3 l4
            clear aw ak0 ak1
            clear bw bk0 bk1
            obtain ⟨rfl, HS, HF⟩ := hcut
            have q1 := (HF.out.blk H1.out (by simp)).cell
            have l1 := (HF.out.blk H1.out (by simp)).lt
            have q2 := (HF.out.blk H2.out (by simp)).cell
            have l2 := (HF.out.blk H2.out (by simp)).lt
            have q3 := (HF.out.blk H3.out (by simp)).cell
            have l3 := (HF.out.blk H3.out (by simp)).lt
            have q4 := (HF.out.blk H4.out (by simp)).cell
            have l4 := (HF.out.blk H4.out (by simp)).lt
            have aw := Nat.lt_of_lt_of_le ag1 HF.out.size
            have ak0 := HF.out.cl Ka0.out
            have ak1 := HF.out.cl Ka1.out
            have bw := Nat.lt_of_lt_of_le bg1 HF.out.size
            have bk0 := HF.out.cl Kb0.out
            have bk1 := HF.out.cl Kb1.out
            have sc := HS.out.cell
            have sl := HS.out.lt
            go_upto_region 6 with fail
            go_cut [73] (fun v wx => v = .bool true ∧ Hid (Blk wx wr.heap.size #[(.pointer (some ⟨ag, ao + p * 2, none⟩)), .pointer none] 94) ∧ Hid (Fr [] wr wx))
            case first =>
              go_region_held3 (fun w' => w'.cell? ⟨Bb, 0, none⟩ = some (.slice (some ⟨bg, bo, none⟩) B.length bc) ∧ w'.cell? ⟨Bj, 0, none⟩ = some (.func (.func 45) #[] #[]) ∧ w'.cell? ⟨bg, bo + q * 2, none⟩ = some (.string y.1) ∧ w'.cell? ⟨bg, bo + q * 2 + 1, none⟩ = some (.int .u64 y.2) ∧ w'.cell? ⟨wr.heap.size, 0, none⟩ = some (.pointer (some ⟨ag, ao + p * 2, none⟩))) (first | ((try dsimp only); refine ⟨?_, ?_, ?_, ?_, ?_⟩ <;> (first | (simp [go_sem, *]; done) | (simp [go_sem, *, World.cell?_alloc_some, World.cell?_setCell_far]; done))) | (simp [go_sem, *]; done) | (simp [go_sem, *, World.cell?_alloc_some, World.cell?_setCell_far]; done)) ((first | (go_at_call 45; (with_reducible refine (countKey_any _ _ _).mono ?_); rintro e w5 ⟨rfl, rfl⟩)))
              all_goals go_wp2
              all_goals go_meet
              all_goals (exact ⟨rfl, Lib.hid (by repeat' (first | (with_reducible exact HS.out) | (with_reducible refine Blk.drew ?_) | (with_reducible refine Blk.drN ?_ _) | (with_reducible refine Blk.set ?_ _ _) | (with_reducible refine Blk.other ?_ ?_ _) | (with_reducible refine Blk.alloc ?_ _) | (simp; done) | (simp; omega))), Lib.hid (by repeat' (first | (with_reducible exact HF.out) | (with_reducible refine Fr.drew ?_) | (with_reducible refine Fr.drN ?_ _) | (with_reducible refine Fr.alloc ?_ _) | (with_reducible refine Fr.set ?_ ?_ _) | (left; simp; done) | (right; simp; done) | (right; simp; omega)))⟩)
            case rest =>
            clear sc sl HS HF
            clear q1 q2 q3 q4 l1 l2 l3 l4
            clear aw ak0 ak1
            clear bw bk0 bk1
            obtain ⟨rfl, HS, HF⟩ := hcut
            have q1 := (HF.out.blk H1.out (by simp)).cell
            have l1 := (HF.out.blk H1.out (by simp)).lt
            have q2 := (HF.out.blk H2.out (by simp)).cell
            have l2 := (HF.out.blk H2.out (by simp)).lt
            have q3 := (HF.out.blk H3.out (by simp)).cell
            have l3 := (HF.out.blk H3.out (by simp)).lt
            have q4 := (HF.out.blk H4.out (by simp)).cell
            have l4 := (HF.out.blk H4.out (by simp)).lt
            have aw := Nat.lt_of_lt_of_le ag1 HF.out.size
            have ak0 := HF.out.cl Ka0.out
            have ak1 := HF.out.cl Ka1.out
            have bw := Nat.lt_of_lt_of_le bg1 HF.out.size
            have bk0 := HF.out.cl Kb0.out
            have bk1 := HF.out.cl Kb1.out
            have sc := HS.out.cell
            have sf := HS.out.free
            have sl := HS.out.lt
            go_upto_region 7 with fail
            go_cut [9] (fun v wx => v = .string y.1 ∧ Hid (Blk wx wr.heap.size #[(.pointer (some ⟨ag, ao + p * 2, none⟩)), (.pointer (some ⟨bg, bo + q * 2, none⟩))] 94) ∧ Hid (Fr [] wr wx))
            case first =>
              go_region_held3 (fun w' => w'.cell? ⟨Bb, 0, none⟩ = some (.slice (some ⟨bg, bo, none⟩) B.length bc) ∧ w'.cell? ⟨Bj, 0, none⟩ = some (.func (.func 45) #[] #[]) ∧ w'.cell? ⟨bg, bo + q * 2, none⟩ = some (.string y.1) ∧ w'.cell? ⟨bg, bo + q * 2 + 1, none⟩ = some (.int .u64 y.2)) (first | ((try dsimp only); refine ⟨?_, ?_, ?_, ?_⟩ <;> (first | (simp [go_sem, *]; done) | (simp [go_sem, *, World.cell?_alloc_some, World.cell?_setCell_far]; done))) | (simp [go_sem, *]; done) | (simp [go_sem, *, World.cell?_alloc_some, World.cell?_setCell_far]; done)) ((first | (go_at_call 45; (with_reducible refine (countKey_any _ _ _).mono ?_); rintro e w5 ⟨rfl, rfl⟩)))
              all_goals go_wp2
              all_goals go_meet
              all_goals (exact ⟨rfl, Lib.hid (Blk.cast (cs := Array.setIfInBounds #[(.pointer (some ⟨ag, ao + p * 2, none⟩)), .pointer none] 1 (.pointer (some ⟨bg, bo + q * 2, none⟩))) (by repeat' (first | (with_reducible exact HS.out) | (with_reducible refine Blk.drew ?_) | (with_reducible refine Blk.drN ?_ _) | (with_reducible refine Blk.set ?_ _ _) | (with_reducible refine Blk.other ?_ ?_ _) | (with_reducible refine Blk.alloc ?_ _) | (simp; done) | (simp; omega))) (by simp)), Lib.hid (by repeat' (first | (with_reducible exact HF.out) | (with_reducible refine Fr.drew ?_) | (with_reducible refine Fr.drN ?_ _) | (with_reducible refine Fr.alloc ?_ _) | (with_reducible refine Fr.set ?_ ?_ _) | (left; simp; done) | (right; simp; done) | (right; simp; omega)))⟩)
            case rest =>
            clear sc sf sl HS HF
            clear q1 q2 q3 q4 l1 l2 l3 l4
            clear aw ak0 ak1
            clear bw bk0 bk1
            obtain ⟨rfl, HS, HF⟩ := hcut
            have sc := HS.out.cell
            have sl := HS.out.lt
            go_upto_region 12 with fail
            have hJ5 := HJ.out pre wr _ none HJs.out HF.out.grown (fun r h => by cases h)
            have hz5 := HZ.out
            rw [zipP_eq (a := A.map (·.1)) (b := B.map (·.1)) (x := x.1) (by rw [List.getElem?_map, Hx.out]; rfl) (by rw [List.getElem?_map, Hy.out]; exact congrArg some HL.out.symm)] at hz5
            obtain ⟨z1, z2, z3⟩ := step_pre hz5
            have HZ1 := Lib.hid z1
            have HZ2 := Lib.hid z2
            have hzl := zipP_len (A.map (·.1)) (B.map (·.1)) 0 0
            simp only [List.length_map] at hzl
            obtain ⟨fn, tmps, assign, body, hy, hR⟩ := HYd.out pre (x.1, some p, some q) _ HZ2.out hJ5 (by omega)
            simp only [adr, add_none] at hy
            simp only [HL.out] at hy
            clear hz5 z1 z2 hzl z3 hJ5
            refine (wpIn_wide (n := n)).1 ?_
            gi_wp2
            refine ⟨fun h => (by simp [Fence.wide] at h), hR.mono ?_⟩
            rintro e W3 (⟨rfl, hJ3, hk3⟩ | ⟨rfl, hJx3⟩)
            · gi_wp2
              go_wp2
              go_roundw
              case rel => exact ⟨p + 1, q + 1, _, by omega, by omega, by go_num, by go_num, Lib.hid hJ3, HZ1, Lib.hid ((HX.out.trans (KB.of_fr HF.out (by simp))).trans hk3)⟩
              case measure => simp [intOf]; omega
            · gi_wp2
              go_wp2
              refine bodyPost_ret (results_none rfl _ _ _) rfl ?_
              exact ⟨⟨_, rfl⟩, .inr ⟨_, HZ2.out, hJx3⟩⟩
          · have hgt := bts_lt_of hnl he
            have HL := Lib.hid hgt
            have c1 : Op.bytesLess x.1.toList y.1.toList = false := by rw [bytesLess_lt]; simpa using hnl
            have c2 : Op.bytesLess y.1.toList x.1.toList = true := by rw [bytesLess_lt]; simpa using hgt
            have c3 := ba_beq he
            have c4 := ba_beq (Ne.symm he)
            clear hgt hnl he
            have q1 := (HF0.out.blk H1.out (by simp)).cell
            have l1 := (HF0.out.blk H1.out (by simp)).lt
            have q2 := (HF0.out.blk H2.out (by simp)).cell
            have l2 := (HF0.out.blk H2.out (by simp)).lt
            have q3 := (HF0.out.blk H3.out (by simp)).cell
            have l3 := (HF0.out.blk H3.out (by simp)).lt
            have q4 := (HF0.out.blk H4.out (by simp)).cell
            have l4 := (HF0.out.blk H4.out (by simp)).lt
            go_upto_region 4 with fail
            clear q1 q2 q3 q4 l1 l2 l3 l4
            generalize hws : wr.alloc (.cells #[.pointer none, .pointer none] 94) = ws
            have HS0 := Lib.hid (show Blk ws wr.heap.size #[.pointer none, .pointer none] 94 from hws ▸ Blk.new wr _ _)
            have HFs := Lib.hid (show Fr [] wr ws from hws ▸ (Fr.refl _ _).alloc _)
            clear hws
            have q1 := (HFs.out.blk H1.out (by simp)).cell
            have l1 := (HFs.out.blk H1.out (by simp)).lt
            have q2 := (HFs.out.blk H2.out (by simp)).cell
            have l2 := (HFs.out.blk H2.out (by simp)).lt
            have q3 := (HFs.out.blk H3.out (by simp)).cell
            have l3 := (HFs.out.blk H3.out (by simp)).lt
            have q4 := (HFs.out.blk H4.out (by simp)).cell
            have l4 := (HFs.out.blk H4.out (by simp)).lt
            have aw := Nat.lt_of_lt_of_le ag1 HFs.out.size
            have ak0 := HFs.out.cl Ka0.out
            have ak1 := HFs.out.cl Ka1.out
            have bw := Nat.lt_of_lt_of_le bg1 HFs.out.size
            have bk0 := HFs.out.cl Kb0.out
            have bk1 := HFs.out.cl Kb1.out
            have sc0 := HS0.out.cell
            have m1 : Ba < ws.heap.size + 1 := by omega
            have m2 : Bb < ws.heap.size + 1 := by omega
            have m3 : Bk < ws.heap.size + 1 := by omega
            have m4 : Bj < ws.heap.size + 1 := by omega
            have m5 : ag < ws.heap.size + 1 := by omega
            have m6 : bg < ws.heap.size + 1 := by omega
            go_cut [44] (fun v wx => v = .bool false ∧ Hid (Blk wx wr.heap.size #[.pointer none, .pointer none] 94) ∧ Hid (Fr [] wr wx))
            case first =>
              go_region_held3 (fun w' => w'.cell? ⟨Ba, 0, none⟩ = some (.slice (some ⟨ag, ao, none⟩) A.length ac) ∧ w'.cell? ⟨Bk, 0, none⟩ = some (.func (.func 45) #[] #[]) ∧ w'.cell? ⟨ag, ao + p * 2, none⟩ = some (.string x.1) ∧ w'.cell? ⟨ag, ao + p * 2 + 1, none⟩ = some (.int .u64 x.2) ∧ w'.cell? ⟨Bb, 0, none⟩ = some (.slice (some ⟨bg, bo, none⟩) B.length bc) ∧ w'.cell? ⟨Bj, 0, none⟩ = some (.func (.func 45) #[] #[]) ∧ w'.cell? ⟨bg, bo + q * 2, none⟩ = some (.string y.1) ∧ w'.cell? ⟨bg, bo + q * 2 + 1, none⟩ = some (.int .u64 y.2)) (first | ((try dsimp only); refine ⟨?_, ?_, ?_, ?_, ?_, ?_, ?_, ?_⟩ <;> (first | (simp [go_sem, *]; done) | (simp [go_sem, *, World.cell?_alloc_some, World.cell?_setCell_far]; done))) | (simp [go_sem, *]; done) | (simp [go_sem, *, World.cell?_alloc_some, World.cell?_setCell_far]; done)) ((first | (go_at_call 45; (with_reducible refine (countKey_any _ _ _).mono ?_); rintro e w5 ⟨rfl, rfl⟩)))
              all_goals go_wp2
              all_goals go_meet
              all_goals (exact ⟨rfl, Lib.hid (by repeat' (first | (with_reducible exact HS0.out) | (with_reducible refine Blk.drew ?_) | (with_reducible refine Blk.drN ?_ _) | (with_reducible refine Blk.set ?_ _ _) | (with_reducible refine Blk.other ?_ ?_ _) | (with_reducible refine Blk.alloc ?_ _) | (simp; done) | (simp; omega))), Lib.hid (by repeat' (first | (with_reducible exact HFs.out) | (with_reducible refine Fr.drew ?_) | (with_reducible refine Fr.drN ?_ _) | (with_reducible refine Fr.alloc ?_ _) | (with_reducible refine Fr.set ?_ ?_ _) | (left; simp; done) | (right; simp; done) | (right; simp; omega)))⟩)
            case rest =>
            clear sc0 m1 m2 m3 m4 m5 m6
            obtain ⟨rfl, HS, HF⟩ := hcut
            clear q1 q2 q3 q4 l1 l2 l3 l4
            clear aw ak0 ak1
            clear bw bk0 bk1
            have q1 := (HF.out.blk H1.out (by simp)).cell
            have l1 := (HF.out.blk H1.out (by simp)).lt
            have q2 := (HF.out.blk H2.out (by simp)).cell
            have l2 := (HF.out.blk H2.out (by simp)).lt
            have q3 := (HF.out.blk H3.out (by simp)).cell
            have l3 := (HF.out.blk H3.out (by simp)).lt
            have q4 := (HF.out.blk H4.out (by simp)).cell
            have l4 := (HF.out.blk H4.out (by simp)).lt
            have aw := Nat.lt_of_lt_of_le ag1 HF.out.size
            have ak0 := HF.out.cl Ka0.out
            have ak1 := HF.out.cl Ka1.out
            have bw := Nat.lt_of_lt_of_le bg1 HF.out.size
            have bk0 := HF.out.cl Kb0.out
            have bk1 := HF.out.cl Kb1.out
            have sc := HS.out.cell
            have sl := HS.out.lt
            go_upto_region 6 with fail
            go_quiet (fail)
            generalize hwq : World.drewN _ nq = wq2
            replace HS := Lib.hid (show Blk wq2 wr.heap.size #[.pointer none, .pointer none] 94 from hwq ▸ HS.out.drN nq)
            replace HF := Lib.hid (show Fr [] wr wq2 from hwq ▸ HF.out.drN nq)
            clear hwq sc sl
            clear q1 q2 q3 q4 l1 l2 l3 l4
            clear aw ak0 ak1
            clear bw bk0 bk1
            have q1 := (HF.out.blk H1.out (by simp)).cell
            have l1 := (HF.out.blk H1.out (by simp)).lt
            have q2 := (HF.out.blk H2.out (by simp)).cell
            have l2 := (HF.out.blk H2.out (by simp)).lt
            have q3 := (HF.out.blk H3.out (by simp)).cell
            have l3 := (HF.out.blk H3.out (by simp)).lt
            have q4 := (HF.out.blk H4.out (by simp)).cell
            have l4 := (HF.out.blk H4.out (by simp)).lt
            have aw := Nat.lt_of_lt_of_le ag1 HF.out.size
            have ak0 := HF.out.cl Ka0.out
            have ak1 := HF.out.cl Ka1.out
            have bw := Nat.lt_of_lt_of_le bg1 HF.out.size
            have bk0 := HF.out.cl Kb0.out
            have bk1 := HF.out.cl Kb1.out
            have sc := HS.out.cell
            have sf := HS.out.free
            have sl := HS.out.lt
            go_upto_region 7 with fail
            go_cut [9] (fun v wx => v = .string y.1 ∧ Hid (Blk wx wr.heap.size #[.pointer none, (.pointer (some ⟨bg, bo + q * 2, none⟩))] 94) ∧ Hid (Fr [] wr wx))
            case first =>
              go_region_held3 (fun w' => w'.cell? ⟨Bb, 0, none⟩ = some (.slice (some ⟨bg, bo, none⟩) B.length bc) ∧ w'.cell? ⟨Bj, 0, none⟩ = some (.func (.func 45) #[] #[]) ∧ w'.cell? ⟨bg, bo + q * 2, none⟩ = some (.string y.1) ∧ w'.cell? ⟨bg, bo + q * 2 + 1, none⟩ = some (.int .u64 y.2)) (first | ((try dsimp only); refine ⟨?_, ?_, ?_, ?_⟩ <;> (first | (simp [go_sem, *]; done) | (simp [go_sem, *, World.cell?_alloc_some, World.cell?_setCell_far]; done))) | (simp [go_sem, *]; done) | (simp [go_sem, *, World.cell?_alloc_some, World.cell?_setCell_far]; done)) ((first | (go_at_call 45; (with_reducible refine (countKey_any _ _ _).mono ?_); rintro e w5 ⟨rfl, rfl⟩)))
              all_goals go_wp2
              all_goals go_meet
              all_goals (exact ⟨rfl, Lib.hid (Blk.cast (cs := Array.setIfInBounds #[.pointer none, .pointer none] 1 (.pointer (some ⟨bg, bo + q * 2, none⟩))) (by repeat' (first | (with_reducible exact HS.out) | (with_reducible refine Blk.drew ?_) | (with_reducible refine Blk.drN ?_ _) | (with_reducible refine Blk.set ?_ _ _) | (with_reducible refine Blk.other ?_ ?_ _) | (with_reducible refine Blk.alloc ?_ _) | (simp; done) | (simp; omega))) (by simp)), Lib.hid (by repeat' (first | (with_reducible exact HF.out) | (with_reducible refine Fr.drew ?_) | (with_reducible refine Fr.drN ?_ _) | (with_reducible refine Fr.alloc ?_ _) | (with_reducible refine Fr.set ?_ ?_ _) | (left; simp; done) | (right; simp; done) | (right; simp; omega)))⟩)
            case rest =>
            clear sc sf sl HS HF
            clear q1 q2 q3 q4 l1 l2 l3 l4
            clear aw ak0 ak1
            clear bw bk0 bk1
            obtain ⟨rfl, HS, HF⟩ := hcut
            have sc := HS.out.cell
            have sl := HS.out.lt
            go_upto_region 12 with fail
            have hJ5 := HJ.out pre wr _ none HJs.out HF.out.grown (fun r h => by cases h)
            have hz5 := HZ.out
            rw [zipP_gt (a := A.map (·.1)) (b := B.map (·.1)) (x := x.1) (y := y.1) (by rw [List.getElem?_map, Hx.out]; rfl) (by rw [List.getElem?_map, Hy.out]; rfl) HL.out] at hz5
            obtain ⟨z1, z2, z3⟩ := step_pre hz5
            have HZ1 := Lib.hid z1
            have HZ2 := Lib.hid z2
            have hzl := zipP_len (A.map (·.1)) (B.map (·.1)) 0 0
            simp only [List.length_map] at hzl
            obtain ⟨fn, tmps, assign, body, hy, hR⟩ := HYd.out pre (y.1, none, some q) _ HZ2.out hJ5 (by omega)
            simp only [adr, add_none] at hy
            clear hz5 z1 z2 hzl z3 hJ5
            refine (wpIn_wide (n := n)).1 ?_
            gi_wp2
            refine ⟨fun h => (by simp [Fence.wide] at h), hR.mono ?_⟩
            rintro e W3 (⟨rfl, hJ3, hk3⟩ | ⟨rfl, hJx3⟩)
            · gi_wp2
              go_wp2
              go_roundw
              case rel => exact ⟨p, q + 1, _, by omega, by omega, by go_num, by go_num, Lib.hid hJ3, HZ1, Lib.hid ((HX.out.trans (KB.of_fr HF.out (by simp))).trans hk3)⟩
              case measure => simp [intOf]; omega
            · gi_wp2
              go_wp2
              refine bodyPost_ret (results_none rfl _ _ _) rfl ?_
              exact ⟨⟨_, rfl⟩, .inr ⟨_, HZ2.out, hJx3⟩⟩
      · obtain rfl : q = B.length := by omega
        obtain ⟨x, hx⟩ : ∃ x, A[p]? = some x := ⟨_, List.getElem?_eq_getElem hpl⟩
        obtain ⟨ag, ao, ac', he, ag1, ag2, ag3, ag4⟩ := HA.out.cells (by omega)
        simp only [Value.slice.injEq] at he
        obtain ⟨rfl, -, rfl⟩ := he
        have ak0 := ag4 (p * 2) _ (flat2_get A p x hx).1
        have ak1 := ag4 (p * 2 + 1) _ (flat2_get A p x hx).2
        rw [← Nat.add_assoc] at ak1
        have Hx := Lib.hid hx
        have Ka0 := Lib.hid ak0
        have Ka1 := Lib.hid ak1
        have ane : wr.heap.size ≠ ag := by omega
        have ane2 : ag ≠ wr.heap.size := by omega
        have am : (A.length : Int) ≤ 9223372036854775807 := by unfold maxLen at ag3; omega
        clear ag4 hx ak0 ak1
        have q1 := (HF0.out.blk H1.out (by simp)).cell
        have l1 := (HF0.out.blk H1.out (by simp)).lt
        have q2 := (HF0.out.blk H2.out (by simp)).cell
        have l2 := (HF0.out.blk H2.out (by simp)).lt
        have q3 := (HF0.out.blk H3.out (by simp)).cell
        have l3 := (HF0.out.blk H3.out (by simp)).lt
        have q4 := (HF0.out.blk H4.out (by simp)).cell
        have l4 := (HF0.out.blk H4.out (by simp)).lt
        go_upto_region 4 with fail
        clear q1 q2 q3 q4 l1 l2 l3 l4
        generalize hws : wr.alloc (.cells #[.pointer none, .pointer none] 94) = ws
        have HS0 := Lib.hid (show Blk ws wr.heap.size #[.pointer none, .pointer none] 94 from hws ▸ Blk.new wr _ _)
        have HFs := Lib.hid (show Fr [] wr ws from hws ▸ (Fr.refl _ _).alloc _)
        clear hws
        have q1 := (HFs.out.blk H1.out (by simp)).cell
        have l1 := (HFs.out.blk H1.out (by simp)).lt
        have q2 := (HFs.out.blk H2.out (by simp)).cell
        have l2 := (HFs.out.blk H2.out (by simp)).lt
        have q3 := (HFs.out.blk H3.out (by simp)).cell
        have l3 := (HFs.out.blk H3.out (by simp)).lt
        have q4 := (HFs.out.blk H4.out (by simp)).cell
        have l4 := (HFs.out.blk H4.out (by simp)).lt
        have aw := Nat.lt_of_lt_of_le ag1 HFs.out.size
        have ak0 := HFs.out.cl Ka0.out
        have ak1 := HFs.out.cl Ka1.out
        go_quiet (fail)
        clear q1 q2 q3 q4 l1 l2 l3 l4
        clear aw ak0 ak1
        generalize hwq : ws.drewN nq = wq
        have HS := Lib.hid (show Blk wq wr.heap.size #[.pointer none, .pointer none] 94 from hwq ▸ HS0.out.drN nq)
        have HF := Lib.hid (show Fr [] wr wq from hwq ▸ HFs.out.drN nq)
        clear hwq
        have q1 := (HF.out.blk H1.out (by simp)).cell
        have l1 := (HF.out.blk H1.out (by simp)).lt
        have q2 := (HF.out.blk H2.out (by simp)).cell
        have l2 := (HF.out.blk H2.out (by simp)).lt
        have q3 := (HF.out.blk H3.out (by simp)).cell
        have l3 := (HF.out.blk H3.out (by simp)).lt
        have q4 := (HF.out.blk H4.out (by simp)).cell
        have l4 := (HF.out.blk H4.out (by simp)).lt
        have aw := Nat.lt_of_lt_of_le ag1 HF.out.size
        have ak0 := HF.out.cl Ka0.out
        have ak1 := HF.out.cl Ka1.out
        have sc := HS.out.cell
        have sf := HS.out.free
        have sl := HS.out.lt
        go_upto_region 5 with fail
        go_cut [9] (fun v wx => v = .string x.1 ∧ Hid (Blk wx wr.heap.size #[(.pointer (some ⟨ag, ao + p * 2, none⟩)), .pointer none] 94) ∧ Hid (Fr [] wr wx))
        case first =>
          go_region_held3 (fun w' => w'.cell? ⟨Ba, 0, none⟩ = some (.slice (some ⟨ag, ao, none⟩) A.length ac) ∧ w'.cell? ⟨Bk, 0, none⟩ = some (.func (.func 45) #[] #[]) ∧ w'.cell? ⟨ag, ao + p * 2, none⟩ = some (.string x.1) ∧ w'.cell? ⟨ag, ao + p * 2 + 1, none⟩ = some (.int .u64 x.2)) (first | ((try dsimp only); refine ⟨?_, ?_, ?_, ?_⟩ <;> (first | (simp [go_sem, *]; done) | (simp [go_sem, *, World.cell?_alloc_some, World.cell?_setCell_far]; done))) | (simp [go_sem, *]; done) | (simp [go_sem, *, World.cell?_alloc_some, World.cell?_setCell_far]; done)) ((first | (go_at_call 45; (with_reducible refine (countKey_any _ _ _).mono ?_); rintro e w5 ⟨rfl, rfl⟩)))
          all_goals go_wp2
          all_goals go_meet
          all_goals (exact ⟨rfl, Lib.hid (Blk.cast (cs := Array.setIfInBounds #[.pointer none, .pointer none] 0 (.pointer (some ⟨ag, ao + p * 2, none⟩))) (by repeat' (first | (with_reducible exact HS.out) | (with_reducible refine Blk.drew ?_) | (with_reducible refine Blk.drN ?_ _) | (with_reducible refine Blk.set ?_ _ _) | (with_reducible refine Blk.other ?_ ?_ _) | (with_reducible refine Blk.alloc ?_ _) | (simp; done) | (simp; omega))) (by simp)), Lib.hid (by repeat' (first | (with_reducible exact HF.out) | (with_reducible refine Fr.drew ?_) | (with_reducible refine Fr.drN ?_ _) | (with_reducible refine Fr.alloc ?_ _) | (with_reducible refine Fr.set ?_ ?_ _) | (left; simp; done) | (right; simp; done) | (right; simp; omega)))⟩)
        case rest =>
        clear sc sf sl HS HF
        clear q1 q2 q3 q4 l1 l2 l3 l4
        clear aw ak0 ak1
        obtain ⟨rfl, HS, HF⟩ := hcut
        have q1 := (HF.out.blk H1.out (by simp)).cell
        have l1 := (HF.out.blk H1.out (by simp)).lt
        have q2 := (HF.out.blk H2.out (by simp)).cell
        have l2 := (HF.out.blk H2.out (by simp)).lt
        have q3 := (HF.out.blk H3.out (by simp)).cell
        have l3 := (HF.out.blk H3.out (by simp)).lt
        have q4 := (HF.out.blk H4.out (by simp)).cell
        have l4 := (HF.out.blk H4.out (by simp)).lt
        have aw := Nat.lt_of_lt_of_le ag1 HF.out.size
        have ak0 := HF.out.cl Ka0.out
        have ak1 := HF.out.cl Ka1.out
        have sc := HS.out.cell
        have sl := HS.out.lt
        go_upto_region 6 with fail
        go_quiet (fail)
        generalize hwq : World.drewN _ nq = wq2
        replace HS := Lib.hid (show Blk wq2 wr.heap.size #[(.pointer (some ⟨ag, ao + p * 2, none⟩)), .pointer none] 94 from hwq ▸ HS.out.drN nq)
        replace HF := Lib.hid (show Fr [] wr wq2 from hwq ▸ HF.out.drN nq)
        clear hwq sc sl
        clear q1 q2 q3 q4 l1 l2 l3 l4
        clear aw ak0 ak1
        have sc := HS.out.cell
        have sl := HS.out.lt
        go_upto_region 12 with fail
        have hJ5 := HJ.out pre wr _ none HJs.out HF.out.grown (fun r h => by cases h)
        have hz5 := HZ.out
        rw [zipP_a (a := A.map (·.1)) (b := B.map (·.1)) (x := x.1) (by rw [List.getElem?_map, Hx.out]; rfl) (by simp <;> omega)] at hz5
        obtain ⟨z1, z2, z3⟩ := step_pre hz5
        have HZ1 := Lib.hid z1
        have HZ2 := Lib.hid z2
        have hzl := zipP_len (A.map (·.1)) (B.map (·.1)) 0 0
        simp only [List.length_map] at hzl
        obtain ⟨fn, tmps, assign, body, hy, hR⟩ := HYd.out pre (x.1, some p, none) _ HZ2.out hJ5 (by omega)
        simp only [adr, add_none] at hy
        clear hz5 z1 z2 hzl z3 hJ5
        refine (wpIn_wide (n := n)).1 ?_
        gi_wp2
        refine ⟨fun h => (by simp [Fence.wide] at h), hR.mono ?_⟩
        rintro e W3 (⟨rfl, hJ3, hk3⟩ | ⟨rfl, hJx3⟩)
        · gi_wp2
          go_wp2
          go_roundw
          case rel => exact ⟨p + 1, B.length, _, by omega, by omega, by go_num, by go_num, Lib.hid hJ3, HZ1, Lib.hid ((HX.out.trans (KB.of_fr HF.out (by simp))).trans hk3)⟩
          case measure => simp [intOf]; omega
        · gi_wp2
          go_wp2
          refine bodyPost_ret (results_none rfl _ _ _) rfl ?_
          exact ⟨⟨_, rfl⟩, .inr ⟨_, HZ2.out, hJx3⟩⟩
    · obtain rfl : p = A.length := by omega
      by_cases hql : q < B.length
      · obtain ⟨y, hy⟩ : ∃ x, B[q]? = some x := ⟨_, List.getElem?_eq_getElem hql⟩
        obtain ⟨bg, bo, bc', he, bg1, bg2, bg3, bg4⟩ := HB.out.cells (by omega)
        simp only [Value.slice.injEq] at he
        obtain ⟨rfl, -, rfl⟩ := he
        have bk0 := bg4 (q * 2) _ (flat2_get B q y hy).1
        have bk1 := bg4 (q * 2 + 1) _ (flat2_get B q y hy).2
        rw [← Nat.add_assoc] at bk1
        have Hy := Lib.hid hy
        have Kb0 := Lib.hid bk0
        have Kb1 := Lib.hid bk1
        have bne : wr.heap.size ≠ bg := by omega
        have bne2 : bg ≠ wr.heap.size := by omega
        have bm : (B.length : Int) ≤ 9223372036854775807 := by unfold maxLen at bg3; omega
        clear bg4 hy bk0 bk1
        have q1 := (HF0.out.blk H1.out (by simp)).cell
        have l1 := (HF0.out.blk H1.out (by simp)).lt
        have q2 := (HF0.out.blk H2.out (by simp)).cell
        have l2 := (HF0.out.blk H2.out (by simp)).lt
        have q3 := (HF0.out.blk H3.out (by simp)).cell
        have l3 := (HF0.out.blk H3.out (by simp)).lt
        have q4 := (HF0.out.blk H4.out (by simp)).cell
        have l4 := (HF0.out.blk H4.out (by simp)).lt
        go_upto_region 4 with fail
        clear q1 q2 q3 q4 l1 l2 l3 l4
        generalize hws : wr.alloc (.cells #[.pointer none, .pointer none] 94) = ws
        have HS0 := Lib.hid (show Blk ws wr.heap.size #[.pointer none, .pointer none] 94 from hws ▸ Blk.new wr _ _)
        have HFs := Lib.hid (show Fr [] wr ws from hws ▸ (Fr.refl _ _).alloc _)
        clear hws
        have q1 := (HFs.out.blk H1.out (by simp)).cell
        have l1 := (HFs.out.blk H1.out (by simp)).lt
        have q2 := (HFs.out.blk H2.out (by simp)).cell
        have l2 := (HFs.out.blk H2.out (by simp)).lt
        have q3 := (HFs.out.blk H3.out (by simp)).cell
        have l3 := (HFs.out.blk H3.out (by simp)).lt
        have q4 := (HFs.out.blk H4.out (by simp)).cell
        have l4 := (HFs.out.blk H4.out (by simp)).lt
        have bw := Nat.lt_of_lt_of_le bg1 HFs.out.size
        have bk0 := HFs.out.cl Kb0.out
        have bk1 := HFs.out.cl Kb1.out
        go_quiet (fail)
        clear q1 q2 q3 q4 l1 l2 l3 l4
        clear bw bk0 bk1
        generalize hwq : ws.drewN nq = wq
        have HS := Lib.hid (show Blk wq wr.heap.size #[.pointer none, .pointer none] 94 from hwq ▸ HS0.out.drN nq)
        have HF := Lib.hid (show Fr [] wr wq from hwq ▸ HFs.out.drN nq)
        clear hwq
        have q1 := (HF.out.blk H1.out (by simp)).cell
        have l1 := (HF.out.blk H1.out (by simp)).lt
        have q2 := (HF.out.blk H2.out (by simp)).cell
        have l2 := (HF.out.blk H2.out (by simp)).lt
        have q3 := (HF.out.blk H3.out (by simp)).cell
        have l3 := (HF.out.blk H3.out (by simp)).lt
        have q4 := (HF.out.blk H4.out (by simp)).cell
        have l4 := (HF.out.blk H4.out (by simp)).lt
        have bw := Nat.lt_of_lt_of_le bg1 HF.out.size
        have bk0 := HF.out.cl Kb0.out
        have bk1 := HF.out.cl Kb1.out
        have sc := HS.out.cell
        have sl := HS.out.lt
        go_upto_region 6 with fail
        go_quiet (fail)
        generalize hwq : World.drewN _ nq = wq2
        replace HS := Lib.hid (show Blk wq2 wr.heap.size #[.pointer none, .pointer none] 94 from hwq ▸ HS.out.drN nq)
        replace HF := Lib.hid (show Fr [] wr wq2 from hwq ▸ HF.out.drN nq)
        clear hwq sc sl
        clear q1 q2 q3 q4 l1 l2 l3 l4
        clear bw bk0 bk1
        have q1 := (HF.out.blk H1.out (by simp)).cell
        have l1 := (HF.out.blk H1.out (by simp)).lt
        have q2 := (HF.out.blk H2.out (by simp)).cell
        have l2 := (HF.out.blk H2.out (by simp)).lt
        have q3 := (HF.out.blk H3.out (by simp)).cell
        have l3 := (HF.out.blk H3.out (by simp)).lt
        have q4 := (HF.out.blk H4.out (by simp)).cell
        have l4 := (HF.out.blk H4.out (by simp)).lt
        have bw := Nat.lt_of_lt_of_le bg1 HF.out.size
        have bk0 := HF.out.cl Kb0.out
        have bk1 := HF.out.cl Kb1.out
        have sc := HS.out.cell
        have sf := HS.out.free
        have sl := HS.out.lt
        go_upto_region 7 with fail
        go_cut [9] (fun v wx => v = .string y.1 ∧ Hid (Blk wx wr.heap.size #[.pointer none, (.pointer (some ⟨bg, bo + q * 2, none⟩))] 94) ∧ Hid (Fr [] wr wx))
        case first =>
          go_region_held3 (fun w' => w'.cell? ⟨Bb, 0, none⟩ = some (.slice (some ⟨bg, bo, none⟩) B.length bc) ∧ w'.cell? ⟨Bj, 0, none⟩ = some (.func (.func 45) #[] #[]) ∧ w'.cell? ⟨bg, bo + q * 2, none⟩ = some (.string y.1) ∧ w'.cell? ⟨bg, bo + q * 2 + 1, none⟩ = some (.int .u64 y.2)) (first | ((try dsimp only); refine ⟨?_, ?_, ?_, ?_⟩ <;> (first | (simp [go_sem, *]; done) | (simp [go_sem, *, World.cell?_alloc_some, World.cell?_setCell_far]; done))) | (simp [go_sem, *]; done) | (simp [go_sem, *, World.cell?_alloc_some, World.cell?_setCell_far]; done)) ((first | (go_at_call 45; (with_reducible refine (countKey_any _ _ _).mono ?_); rintro e w5 ⟨rfl, rfl⟩)))
          all_goals go_wp2
          all_goals go_meet
          all_goals (exact ⟨rfl, Lib.hid (Blk.cast (cs := Array.setIfInBounds #[.pointer none, .pointer none] 1 (.pointer (some ⟨bg, bo + q * 2, none⟩))) (by repeat' (first | (with_reducible exact HS.out) | (with_reducible refine Blk.drew ?_) | (with_reducible refine Blk.drN ?_ _) | (with_reducible refine Blk.set ?_ _ _) | (with_reducible refine Blk.other ?_ ?_ _) | (with_reducible refine Blk.alloc ?_ _) | (simp; done) | (simp; omega))) (by simp)), Lib.hid (by repeat' (first | (with_reducible exact HF.out) | (with_reducible refine Fr.drew ?_) | (with_reducible refine Fr.drN ?_ _) | (with_reducible refine Fr.alloc ?_ _) | (with_reducible refine Fr.set ?_ ?_ _) | (left; simp; done) | (right; simp; done) | (right; simp; omega)))⟩)
        case rest =>
        clear sc sf sl HS HF
        clear q1 q2 q3 q4 l1 l2 l3 l4
        clear bw bk0 bk1
        obtain ⟨rfl, HS, HF⟩ := hcut
        have sc := HS.out.cell
        have sl := HS.out.lt
        go_upto_region 12 with fail
        have hJ5 := HJ.out pre wr _ none HJs.out HF.out.grown (fun r h => by cases h)
        have hz5 := HZ.out
        rw [zipP_b (a := A.map (·.1)) (b := B.map (·.1)) (y := y.1) (by simp <;> omega) (by rw [List.getElem?_map, Hy.out]; rfl)] at hz5
        obtain ⟨z1, z2, z3⟩ := step_pre hz5
        have HZ1 := Lib.hid z1
        have HZ2 := Lib.hid z2
        have hzl := zipP_len (A.map (·.1)) (B.map (·.1)) 0 0
        simp only [List.length_map] at hzl
        obtain ⟨fn, tmps, assign, body, hy, hR⟩ := HYd.out pre (y.1, none, some q) _ HZ2.out hJ5 (by omega)
        simp only [adr, add_none] at hy
        clear hz5 z1 z2 hzl z3 hJ5
        refine (wpIn_wide (n := n)).1 ?_
        gi_wp2
        refine ⟨fun h => (by simp [Fence.wide] at h), hR.mono ?_⟩
        rintro e W3 (⟨rfl, hJ3, hk3⟩ | ⟨rfl, hJx3⟩)
        · gi_wp2
          go_wp2
          go_roundw
          case rel => exact ⟨A.length, q + 1, _, by omega, by omega, by go_num, by go_num, Lib.hid hJ3, HZ1, Lib.hid ((HX.out.trans (KB.of_fr HF.out (by simp))).trans hk3)⟩
          case measure => simp [intOf]; omega
        · gi_wp2
          go_wp2
          refine bodyPost_ret (results_none rfl _ _ _) rfl ?_
          exact ⟨⟨_, rfl⟩, .inr ⟨_, HZ2.out, hJx3⟩⟩
      · obtain rfl : q = B.length := by omega
        have q1 := H1.out.cell
        have q2 := H2.out.cell
        have l1 := H1.out.lt
        have l2 := H2.out.lt
        have hz5 := HZ.out
        rw [zipP_nil (by simp) (by simp), List.append_nil] at hz5
        have HZ5 := Lib.hid hz5
        clear hz5
        go_wp2
        go_end0
        exact ⟨⟨_, rfl⟩, .inl (by rw [← HZ5.out]; exact HJs.out)⟩
end Go.Proofs.Ytmilnhicmeblhaa
