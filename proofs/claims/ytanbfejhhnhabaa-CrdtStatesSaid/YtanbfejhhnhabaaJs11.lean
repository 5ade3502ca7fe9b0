/- The law CrdtStates: the walk. -/
import Derived.Test.YtanbfejhhnhabaaJs7
import Derived.Test.YtanbfejhhnhabaaJs8
import Derived.Test.YtanbfejhhnhabaaJs9
import Derived.Test.YtanbfejhhnhabaaJs10
/- The law CrdtStates: the walk. -/
namespace Go.Proofs.Ytanbfejhhnhabaa
open Go.RowKit Go.Maps Go.Sort
set_option maxRecDepth 100000
set_option linter.unusedVariables false
set_option linter.unusedSimpArgs false
set_option maxHeartbeats 2000000
theorem merge2_to {f : FuncId} {v1 v2 : Value} {l1 l2 l : List Nd} {y : Int} {w : World} (hf : Calls Try.prog f #[v1, v2] w (MergePost l1 l2 w)) (h : mergeF l1 l2 = (l, y)) :
    Calls Try.prog f #[v1, v2] w fun e w' => ∃ v, e = .returned (.tuple #[v, .int .i64 y]) ∧ RN w' v l ∧ Fr [] w w' :=
  hf.mono fun e w' ⟨v, k1, k2, k3⟩ => ⟨v, by rw [k1, h], by rw [h] at k2; exact k2.rd, k3⟩
theorem delta2_to {f : FuncId} {v1 v2 : Value} {l1 l2 l : List Nd} {y : Int} {w : World} (hf : Calls Try.prog f #[v1, v2] w (DeltaPost l1 l2 w)) (h : deltaF l1 l2 = (l, y)) :
    Calls Try.prog f #[v1, v2] w fun e w' => ∃ v, e = .returned (.tuple #[v, .int .i64 y]) ∧ RN w' v l ∧ Fr [] w w' :=
  hf.mono fun e w' ⟨v, k1, k2, k3⟩ => ⟨v, by rw [k1, h], by rw [h] at k2; exact k2.rd, k3⟩
theorem below2_to {f : FuncId} {v1 v2 : Value} {l1 l2 : List Nd} {p : Bool} {y : Int} {w : World} (hf : Calls Try.prog f #[v1, v2] w fun e w' => e = .returned (.tuple #[.bool (belowF l1 l2).1, .int .i64 (belowF l1 l2).2]) ∧ Fr [] w w') (h : belowF l1 l2 = (p, y)) :
    Calls Try.prog f #[v1, v2] w fun e w' => e = .returned (.tuple #[.bool p, .int .i64 y]) ∧ Fr [] w w' := by rwa [h] at hf
theorem value2_to {f : FuncId} {v1 : Value} {l1 : List Nd} {p y : Int} {w : World} (hf : Calls Try.prog f #[v1] w fun e w' => e = .returned (.tuple #[.int .i64 (valueF l1).1, .int .i64 (valueF l1).2]) ∧ Fr [] w w') (h : valueF l1 = (p, y)) :
    Calls Try.prog f #[v1] w fun e w' => e = .returned (.tuple #[.int .i64 p, .int .i64 y]) ∧ Fr [] w w' := by rwa [h] at hf
theorem chk_to {v1 : Value} {l1 : List Nd} {y : Int} {w : World} (h1 : RN w v1 l1) (a1 : Arg l1) (h : chkF l1 = y) :
    Calls Try.prog 26 #[v1] w fun e w' => e = .returned (.int .i64 y) ∧ Fr [] w w' := by
  have := chk v1 l1 w h1 a1
  rwa [h] at this
theorem sames_to {v1 v2 : Value} {l : List Nd} {w : World} (h1 : RN w v1 l) (h2 : RN w v2 l) :
    Calls Try.prog 18 #[v1, v2] w fun e w' => e = .returned (.bool true) ∧ Fr [] w w' :=
  (same_any v1 v2 l l w h1 h2).mono fun e w' ⟨k1, k2⟩ => ⟨by rw [k1]; simp, k2⟩
theorem copied_to {v : Value} {l : List Nd} {w : World} (h : RN w v l) (hl : l.length ≤ 4398046511104) :
    Calls Try.prog 23 #[v] w fun e w' => ∃ v', e = .returned v' ∧ RN w' v' l ∧ Fr [] w w' :=
  (copied_any v l w h hl).mono fun e w' ⟨v', k1, k2, k3⟩ => ⟨v', k1, k2.rd, k3⟩
theorem later_to {f : FuncId} {s t z : Sp} {w : World} (hf : Calls Try.prog f #[spV s, spV t] w fun e w' => e = .returned (spV (if laterF s t = true then t else s)) ∧ Fr [] w w') (hz : z = if laterF s t = true then t else s) :
    Calls Try.prog f #[spV s, spV t] w fun e w' => e = .returned (spV z) ∧ Fr [] w w' := by rwa [← hz] at hf
end Go.Proofs.Ytanbfejhhnhabaa

/- The law CrdtStates: the walk. -/
namespace Go.Proofs.Ytanbfejhhnhabaa
open Go.RowKit Go.Maps Go.Sort
set_option maxRecDepth 100000
set_option linter.unusedVariables false
set_option linter.unusedSimpArgs false
set_option maxHeartbeats 2000000
theorem states_true (va vb : Value) (a b : List Nd) (s t : Sp) (w : World) (ha : RN w va a) (hb : RN w vb b) (aa : Arg a) (ab : Arg b) (la : a.length ≤ 4398046511104) (lb : b.length ≤ 4398046511104) (hs : s.v < 18446744073709551616) (ht : t.v < 18446744073709551616) (hr : rightL a = true) :
    Calls Try.prog 6 #[va, vb, spV s, spV t] w fun e w' => e = .returned (.bool true) ∧ Fr [] w w' := by
  have HA := Lib.hid ha
  have HB := Lib.hid hb
  have Ra := Lib.hid aa
  have Rb := Lib.hid ab
  obtain ⟨m, ym, hm⟩ : ∃ m y, mergeF a b = (m, y) := ⟨_, _, rfl⟩
  obtain ⟨d, yd, hd⟩ : ∃ m y, deltaF a b = (m, y) := ⟨_, _, rfl⟩
  obtain ⟨p, yb, hbl⟩ : ∃ m y, belowF a b = (m, y) := ⟨_, _, rfl⟩
  obtain ⟨q, yv, hv⟩ : ∃ m y, valueF a = (m, y) := ⟨_, _, rfl⟩
  obtain ⟨z, hz⟩ : ∃ z, z = (if laterF s t = true then t else s) := ⟨_, rfl⟩
  have HZ := Lib.hid hz
  have HMq := Lib.hid hm
  have HDq := Lib.hid hd
  have HL := Lib.hid hbl
  have HV := Lib.hid hv
  have HRr := Lib.hid hr
  have HCk := Lib.hid (show chkF a = if true = true then 0 else 230 by unfold chkF; rw [hr])
  have hF : Fr [] w ((w.alloc (.cells #[.int .i64 s.at_, .string s.nm, .float .f64 s.v] 61)).alloc (.cells #[.int .i64 t.at_, .string t.nm, .float .f64 t.v] 61)) := ((Fr.refl _ _).alloc _).alloc _
  have HSA := Lib.hid ((Blk.new w #[.int .i64 s.at_, .string s.nm, .float .f64 s.v] 61).alloc (.cells #[.int .i64 t.at_, .string t.nm, .float .f64 t.v] 61))
  have HSB := Lib.hid (Blk.mk0 (w.alloc (.cells #[.int .i64 s.at_, .string s.nm, .float .f64 s.v] 61)) #[.int .i64 t.at_, .string t.nm, .float .f64 t.v] 61 (w.heap.size + 1) (by simp))
  obtain ⟨a1, a2, ea⟩ := ha.at_
  subst ea
  obtain ⟨b1, b2, eb⟩ := hb.at_
  subst eb
  replace HA := Lib.hid (HA.out.fr0 hF)
  replace HB := Lib.hid (HB.out.fr0 hF)
  have HF := Lib.hid hF
  clear ha hb aa ab hm hd hbl hv hr hz hF
  go_enter Try.func6, Try.ntmps6
  go_wp2_with fail
  go_at_call 23
  refine (copied_to HA.out la).mono ?_
  rintro e w0 ⟨vX, rfl, hS, hF⟩
  replace HA := Lib.hid (HA.out.fr0 hF)
  replace HB := Lib.hid (HB.out.fr0 hF)
  replace HSA := Lib.hid (hF.blk HSA.out (by simp))
  replace HSB := Lib.hid (hF.blk HSB.out (by simp))
  replace HF := Lib.hid (HF.out.trans hF)
  clear hF
  have HX := Lib.hid hS
  obtain ⟨xX, yX, eX⟩ := hS.at_
  subst eX
  clear hS
  go_wp2_with fail
  go_at_call 23
  refine (copied_to HB.out lb).mono ?_
  rintro e w1 ⟨vY, rfl, hS, hF⟩
  replace HA := Lib.hid (HA.out.fr0 hF)
  replace HB := Lib.hid (HB.out.fr0 hF)
  replace HX := Lib.hid (HX.out.fr0 hF)
  replace HSA := Lib.hid (hF.blk HSA.out (by simp))
  replace HSB := Lib.hid (hF.blk HSB.out (by simp))
  replace HF := Lib.hid (HF.out.trans hF)
  clear hF
  have HY := Lib.hid hS
  obtain ⟨xY, yY, eY⟩ := hS.at_
  subst eY
  clear hS
  go_wp2_with fail
  go_at_call 20
  refine (merge2_to (merge_any _ _ a b _ HX.out HY.out Ra.out Rb.out) HMq.out).mono ?_
  rintro e w2 ⟨vM, rfl, hS, hF⟩
  replace HA := Lib.hid (HA.out.fr0 hF)
  replace HB := Lib.hid (HB.out.fr0 hF)
  replace HX := Lib.hid (HX.out.fr0 hF)
  replace HY := Lib.hid (HY.out.fr0 hF)
  replace HSA := Lib.hid (hF.blk HSA.out (by simp))
  replace HSB := Lib.hid (hF.blk HSB.out (by simp))
  replace HF := Lib.hid (HF.out.trans hF)
  clear hF
  have HM := Lib.hid hS
  obtain ⟨xM, yM, eM⟩ := hS.at_
  subst eM
  clear hS
  go_wp2_with fail
  go_at_call 9
  refine (merge2_to (rmerge_any _ _ a b _ HA.out HB.out Ra.out Rb.out) HMq.out).mono ?_
  rintro e w3 ⟨vN, rfl, hS, hF⟩
  replace HA := Lib.hid (HA.out.fr0 hF)
  replace HB := Lib.hid (HB.out.fr0 hF)
  replace HX := Lib.hid (HX.out.fr0 hF)
  replace HY := Lib.hid (HY.out.fr0 hF)
  replace HM := Lib.hid (HM.out.fr0 hF)
  replace HSA := Lib.hid (hF.blk HSA.out (by simp))
  replace HSB := Lib.hid (hF.blk HSB.out (by simp))
  replace HF := Lib.hid (HF.out.trans hF)
  clear hF
  have HN := Lib.hid hS
  obtain ⟨xN, yN, eN⟩ := hS.at_
  subst eN
  clear hS
  go_wp2_with fail
  go_at_call 21
  refine (below2_to (below_any _ _ a b _ HX.out HY.out Ra.out Rb.out) HL.out).mono ?_
  rintro e w4 ⟨rfl, hF⟩
  replace HA := Lib.hid (HA.out.fr0 hF)
  replace HB := Lib.hid (HB.out.fr0 hF)
  replace HX := Lib.hid (HX.out.fr0 hF)
  replace HY := Lib.hid (HY.out.fr0 hF)
  replace HM := Lib.hid (HM.out.fr0 hF)
  replace HN := Lib.hid (HN.out.fr0 hF)
  replace HSA := Lib.hid (hF.blk HSA.out (by simp))
  replace HSB := Lib.hid (hF.blk HSB.out (by simp))
  replace HF := Lib.hid (HF.out.trans hF)
  clear hF
  go_wp2_with fail
  go_at_call 17
  refine (below2_to (rbelow2_any _ _ a b _ HA.out HB.out Ra.out Rb.out) HL.out).mono ?_
  rintro e w5 ⟨rfl, hF⟩
  replace HA := Lib.hid (HA.out.fr0 hF)
  replace HB := Lib.hid (HB.out.fr0 hF)
  replace HX := Lib.hid (HX.out.fr0 hF)
  replace HY := Lib.hid (HY.out.fr0 hF)
  replace HM := Lib.hid (HM.out.fr0 hF)
  replace HN := Lib.hid (HN.out.fr0 hF)
  replace HSA := Lib.hid (hF.blk HSA.out (by simp))
  replace HSB := Lib.hid (hF.blk HSB.out (by simp))
  replace HF := Lib.hid (HF.out.trans hF)
  clear hF
  go_wp2_with fail
  go_at_call 24
  refine (value2_to (cvalue_any _ a _ HX.out Ra.out) HV.out).mono ?_
  rintro e w6 ⟨rfl, hF⟩
  replace HA := Lib.hid (HA.out.fr0 hF)
  replace HB := Lib.hid (HB.out.fr0 hF)
  replace HX := Lib.hid (HX.out.fr0 hF)
  replace HY := Lib.hid (HY.out.fr0 hF)
  replace HM := Lib.hid (HM.out.fr0 hF)
  replace HN := Lib.hid (HN.out.fr0 hF)
  replace HSA := Lib.hid (hF.blk HSA.out (by simp))
  replace HSB := Lib.hid (hF.blk HSB.out (by simp))
  replace HF := Lib.hid (HF.out.trans hF)
  clear hF
  go_wp2_with fail
  go_at_call 16
  refine (value2_to (rvalue_any _ a _ HA.out Ra.out) HV.out).mono ?_
  rintro e w7 ⟨rfl, hF⟩
  replace HA := Lib.hid (HA.out.fr0 hF)
  replace HB := Lib.hid (HB.out.fr0 hF)
  replace HX := Lib.hid (HX.out.fr0 hF)
  replace HY := Lib.hid (HY.out.fr0 hF)
  replace HM := Lib.hid (HM.out.fr0 hF)
  replace HN := Lib.hid (HN.out.fr0 hF)
  replace HSA := Lib.hid (hF.blk HSA.out (by simp))
  replace HSB := Lib.hid (hF.blk HSB.out (by simp))
  replace HF := Lib.hid (HF.out.trans hF)
  clear hF
  go_wp2_with fail
  go_at_call 22
  refine (delta2_to (delta_any _ _ a b _ HX.out HY.out Ra.out Rb.out) HDq.out).mono ?_
  rintro e w8 ⟨vD, rfl, hS, hF⟩
  replace HA := Lib.hid (HA.out.fr0 hF)
  replace HB := Lib.hid (HB.out.fr0 hF)
  replace HX := Lib.hid (HX.out.fr0 hF)
  replace HY := Lib.hid (HY.out.fr0 hF)
  replace HM := Lib.hid (HM.out.fr0 hF)
  replace HN := Lib.hid (HN.out.fr0 hF)
  replace HSA := Lib.hid (hF.blk HSA.out (by simp))
  replace HSB := Lib.hid (hF.blk HSB.out (by simp))
  replace HF := Lib.hid (HF.out.trans hF)
  clear hF
  have HD := Lib.hid hS
  obtain ⟨xD, yD, eD⟩ := hS.at_
  subst eD
  clear hS
  go_wp2_with fail
  go_at_call 25
  refine (delta2_to (rdelta_any _ _ a b _ HA.out HB.out Ra.out Rb.out) HDq.out).mono ?_
  rintro e w9 ⟨vE, rfl, hS, hF⟩
  replace HA := Lib.hid (HA.out.fr0 hF)
  replace HB := Lib.hid (HB.out.fr0 hF)
  replace HX := Lib.hid (HX.out.fr0 hF)
  replace HY := Lib.hid (HY.out.fr0 hF)
  replace HM := Lib.hid (HM.out.fr0 hF)
  replace HN := Lib.hid (HN.out.fr0 hF)
  replace HD := Lib.hid (HD.out.fr0 hF)
  replace HSA := Lib.hid (hF.blk HSA.out (by simp))
  replace HSB := Lib.hid (hF.blk HSB.out (by simp))
  replace HF := Lib.hid (HF.out.trans hF)
  clear hF
  have HE := Lib.hid hS
  obtain ⟨xE, yE, eE⟩ := hS.at_
  subst eE
  clear hS
  go_wp2_with fail
  have HC2 := Lib.hid (show chkF a = 0 from HCk.out)
  go_at_call 26
  refine (chk_to HX.out Ra.out HC2.out).mono ?_
  rintro e w10 ⟨rfl, hF⟩
  replace HA := Lib.hid (HA.out.fr0 hF)
  replace HB := Lib.hid (HB.out.fr0 hF)
  replace HX := Lib.hid (HX.out.fr0 hF)
  replace HY := Lib.hid (HY.out.fr0 hF)
  replace HM := Lib.hid (HM.out.fr0 hF)
  replace HN := Lib.hid (HN.out.fr0 hF)
  replace HD := Lib.hid (HD.out.fr0 hF)
  replace HE := Lib.hid (HE.out.fr0 hF)
  replace HSA := Lib.hid (hF.blk HSA.out (by simp))
  replace HSB := Lib.hid (hF.blk HSB.out (by simp))
  replace HF := Lib.hid (HF.out.trans hF)
  clear hF
  go_wp2_with fail
  have st1 := HSA.out.cell
  have st2 := HSA.out.lt
  have st3 := HSB.out.cell
  have st4 := HSB.out.lt
  simp only [List.append_eq, List.cons_append, List.nil_append]
  refine wp_region_held_drew (S := (fun w' : World => w'.cell? ⟨w.heap.size, 0, none⟩ = some (.int .i64 s.at_) ∧ w'.cell? ⟨w.heap.size, 1, none⟩ = some (.string s.nm) ∧ w'.cell? ⟨w.heap.size, 2, none⟩ = some (.float .f64 s.v) ∧ w'.cell? ⟨w.heap.size + 1, 0, none⟩ = some (.int .i64 t.at_) ∧ w'.cell? ⟨w.heap.size + 1, 1, none⟩ = some (.string t.nm) ∧ w'.cell? ⟨w.heap.size + 1, 2, none⟩ = some (.float .f64 t.v))) (by kernel_rfl) ?_ (fun hHeld => ?_)
  · ((try dsimp only); refine ⟨?_, ?_, ?_, ?_, ?_, ?_⟩ <;> (simp [go_sem, st1, st3]; done))
  refine wpAnyH_ready (rs := [0]) (by kernel_rfl) (by simp) ?_
  refine AllReadyH.cons (by (simp only [List.getElem?_toArray, List.getElem?_cons_succ, List.getElem?_cons_zero]); exact rfl) (fun K hK => ?_) AllReadyH.nil
  clear hHeld
  go_simp
  (go_at_call 8; (with_reducible refine (lives_any _).mono ?_); rintro e wz ⟨rfl, hF⟩; replace HA := Lib.hid (HA.out.fr0 (Fr.trans (by repeat' (first | (with_reducible exact Fr.refl _ _) | (with_reducible refine Fr.drew ?_) | (with_reducible refine Fr.drN ?_ _) | (with_reducible refine Fr.alloc ?_ _) | (with_reducible refine Fr.set ?_ ?_ _) | (left; simp; done) | (right; simp; done) | (right; simp; omega))) hF)); replace HB := Lib.hid (HB.out.fr0 (Fr.trans (by repeat' (first | (with_reducible exact Fr.refl _ _) | (with_reducible refine Fr.drew ?_) | (with_reducible refine Fr.drN ?_ _) | (with_reducible refine Fr.alloc ?_ _) | (with_reducible refine Fr.set ?_ ?_ _) | (left; simp; done) | (right; simp; done) | (right; simp; omega))) hF)); replace HX := Lib.hid (HX.out.fr0 (Fr.trans (by repeat' (first | (with_reducible exact Fr.refl _ _) | (with_reducible refine Fr.drew ?_) | (with_reducible refine Fr.drN ?_ _) | (with_reducible refine Fr.alloc ?_ _) | (with_reducible refine Fr.set ?_ ?_ _) | (left; simp; done) | (right; simp; done) | (right; simp; omega))) hF)); replace HY := Lib.hid (HY.out.fr0 (Fr.trans (by repeat' (first | (with_reducible exact Fr.refl _ _) | (with_reducible refine Fr.drew ?_) | (with_reducible refine Fr.drN ?_ _) | (with_reducible refine Fr.alloc ?_ _) | (with_reducible refine Fr.set ?_ ?_ _) | (left; simp; done) | (right; simp; done) | (right; simp; omega))) hF)); replace HM := Lib.hid (HM.out.fr0 (Fr.trans (by repeat' (first | (with_reducible exact Fr.refl _ _) | (with_reducible refine Fr.drew ?_) | (with_reducible refine Fr.drN ?_ _) | (with_reducible refine Fr.alloc ?_ _) | (with_reducible refine Fr.set ?_ ?_ _) | (left; simp; done) | (right; simp; done) | (right; simp; omega))) hF)); replace HN := Lib.hid (HN.out.fr0 (Fr.trans (by repeat' (first | (with_reducible exact Fr.refl _ _) | (with_reducible refine Fr.drew ?_) | (with_reducible refine Fr.drN ?_ _) | (with_reducible refine Fr.alloc ?_ _) | (with_reducible refine Fr.set ?_ ?_ _) | (left; simp; done) | (right; simp; done) | (right; simp; omega))) hF)); replace HD := Lib.hid (HD.out.fr0 (Fr.trans (by repeat' (first | (with_reducible exact Fr.refl _ _) | (with_reducible refine Fr.drew ?_) | (with_reducible refine Fr.drN ?_ _) | (with_reducible refine Fr.alloc ?_ _) | (with_reducible refine Fr.set ?_ ?_ _) | (left; simp; done) | (right; simp; done) | (right; simp; omega))) hF)); replace HE := Lib.hid (HE.out.fr0 (Fr.trans (by repeat' (first | (with_reducible exact Fr.refl _ _) | (with_reducible refine Fr.drew ?_) | (with_reducible refine Fr.drN ?_ _) | (with_reducible refine Fr.alloc ?_ _) | (with_reducible refine Fr.set ?_ ?_ _) | (left; simp; done) | (right; simp; done) | (right; simp; omega))) hF)); replace HSA := Lib.hid (Fr.blk (Fr.trans (by repeat' (first | (with_reducible exact Fr.refl _ _) | (with_reducible refine Fr.drew ?_) | (with_reducible refine Fr.drN ?_ _) | (with_reducible refine Fr.alloc ?_ _) | (with_reducible refine Fr.set ?_ ?_ _) | (left; simp; done) | (right; simp; done) | (right; simp; omega))) hF) HSA.out (by simp)); replace HSB := Lib.hid (Fr.blk (Fr.trans (by repeat' (first | (with_reducible exact Fr.refl _ _) | (with_reducible refine Fr.drew ?_) | (with_reducible refine Fr.drN ?_ _) | (with_reducible refine Fr.alloc ?_ _) | (with_reducible refine Fr.set ?_ ?_ _) | (left; simp; done) | (right; simp; done) | (right; simp; omega))) hF) HSB.out (by simp)); replace HF := Lib.hid (HF.out.trans (Fr.trans (by repeat' (first | (with_reducible exact Fr.refl _ _) | (with_reducible refine Fr.drew ?_) | (with_reducible refine Fr.drN ?_ _) | (with_reducible refine Fr.alloc ?_ _) | (with_reducible refine Fr.set ?_ ?_ _) | (left; simp; done) | (right; simp; done) | (right; simp; omega))) hF)); clear hF st1 st2 st3 st4; have st1 := HSA.out.cell; have st2 := HSA.out.lt; have st3 := HSB.out.cell; have st4 := HSB.out.lt)
  go_wp2_with fail
  refine hK.out _ _ ?_ (fun hHeld => ?_)
  · ((try dsimp only); refine ⟨?_, ?_, ?_, ?_, ?_, ?_⟩ <;> (simp [go_sem, st1, st3]; done))
  clear hK K
  try simp only [Act.put, List.setIfInBounds_toArray, List.set_cons_zero, List.set_cons_succ]
  refine wpAnyH_take (i := 1) (v := ?v1) (by (simp only [List.getElem?_toArray, List.getElem?_cons_succ, List.getElem?_cons_zero]); exact rfl) (by kernel_rfl) (by kernel_rfl) (by kernel_rfl) (fun _ _ _ h => by exact h) (Or.inl ⟨by rfl, ?hy1⟩) (by assumption) ?rest1
  case hy1 =>
    intro w hSw
    try dsimp only at hSw
    go_simp
    try with_reducible rfl
  try simp only [Act.put, List.setIfInBounds_toArray, List.set_cons_zero, List.set_cons_succ]
  refine wpAnyH_take (i := 2) (v := ?v2) (by (simp only [List.getElem?_toArray, List.getElem?_cons_succ, List.getElem?_cons_zero]); exact rfl) (by kernel_rfl) (by kernel_rfl) (by kernel_rfl) (fun _ _ _ h => by exact h) (Or.inl ⟨by rfl, ?hy2⟩) (by assumption) ?rest2
  case hy2 =>
    intro w hSw
    try dsimp only at hSw
    go_simp
    try with_reducible rfl
  try simp only [Act.put, List.setIfInBounds_toArray, List.set_cons_zero, List.set_cons_succ]
  refine wpAnyH_take (i := 3) (v := ?v3) (by (simp only [List.getElem?_toArray, List.getElem?_cons_succ, List.getElem?_cons_zero]); exact rfl) (by kernel_rfl) (by kernel_rfl) (by kernel_rfl) (fun _ _ _ h => by exact h) (Or.inl ⟨by rfl, ?hy3⟩) (by assumption) ?rest3
  case hy3 =>
    intro w hSw
    try dsimp only at hSw
    go_simp
    try with_reducible rfl
  try simp only [Act.put, List.setIfInBounds_toArray, List.set_cons_zero, List.set_cons_succ]
  refine wpAnyH_ready (rs := [4]) (by kernel_rfl) (by simp) ?_
  refine AllReadyH.cons (by (simp only [List.getElem?_toArray, List.getElem?_cons_succ, List.getElem?_cons_zero]); exact rfl) (fun K hK => ?_) AllReadyH.nil
  clear hHeld
  go_simp
  (go_at_call 18; (with_reducible refine (sames_to (l := m) ?_ ?_).mono ?_); (focus (exact HM.out.fr0 (by repeat' (first | (with_reducible exact Fr.refl _ _) | (with_reducible refine Fr.drew ?_) | (with_reducible refine Fr.drN ?_ _) | (with_reducible refine Fr.alloc ?_ _) | (with_reducible refine Fr.set ?_ ?_ _) | (left; simp; done) | (right; simp; done) | (right; simp; omega))))); (focus (exact HN.out.fr0 (by repeat' (first | (with_reducible exact Fr.refl _ _) | (with_reducible refine Fr.drew ?_) | (with_reducible refine Fr.drN ?_ _) | (with_reducible refine Fr.alloc ?_ _) | (with_reducible refine Fr.set ?_ ?_ _) | (left; simp; done) | (right; simp; done) | (right; simp; omega))))); rintro e wz ⟨rfl, hF⟩; replace HA := Lib.hid (HA.out.fr0 (Fr.trans (by repeat' (first | (with_reducible exact Fr.refl _ _) | (with_reducible refine Fr.drew ?_) | (with_reducible refine Fr.drN ?_ _) | (with_reducible refine Fr.alloc ?_ _) | (with_reducible refine Fr.set ?_ ?_ _) | (left; simp; done) | (right; simp; done) | (right; simp; omega))) hF)); replace HB := Lib.hid (HB.out.fr0 (Fr.trans (by repeat' (first | (with_reducible exact Fr.refl _ _) | (with_reducible refine Fr.drew ?_) | (with_reducible refine Fr.drN ?_ _) | (with_reducible refine Fr.alloc ?_ _) | (with_reducible refine Fr.set ?_ ?_ _) | (left; simp; done) | (right; simp; done) | (right; simp; omega))) hF)); replace HX := Lib.hid (HX.out.fr0 (Fr.trans (by repeat' (first | (with_reducible exact Fr.refl _ _) | (with_reducible refine Fr.drew ?_) | (with_reducible refine Fr.drN ?_ _) | (with_reducible refine Fr.alloc ?_ _) | (with_reducible refine Fr.set ?_ ?_ _) | (left; simp; done) | (right; simp; done) | (right; simp; omega))) hF)); replace HY := Lib.hid (HY.out.fr0 (Fr.trans (by repeat' (first | (with_reducible exact Fr.refl _ _) | (with_reducible refine Fr.drew ?_) | (with_reducible refine Fr.drN ?_ _) | (with_reducible refine Fr.alloc ?_ _) | (with_reducible refine Fr.set ?_ ?_ _) | (left; simp; done) | (right; simp; done) | (right; simp; omega))) hF)); replace HM := Lib.hid (HM.out.fr0 (Fr.trans (by repeat' (first | (with_reducible exact Fr.refl _ _) | (with_reducible refine Fr.drew ?_) | (with_reducible refine Fr.drN ?_ _) | (with_reducible refine Fr.alloc ?_ _) | (with_reducible refine Fr.set ?_ ?_ _) | (left; simp; done) | (right; simp; done) | (right; simp; omega))) hF)); replace HN := Lib.hid (HN.out.fr0 (Fr.trans (by repeat' (first | (with_reducible exact Fr.refl _ _) | (with_reducible refine Fr.drew ?_) | (with_reducible refine Fr.drN ?_ _) | (with_reducible refine Fr.alloc ?_ _) | (with_reducible refine Fr.set ?_ ?_ _) | (left; simp; done) | (right; simp; done) | (right; simp; omega))) hF)); replace HD := Lib.hid (HD.out.fr0 (Fr.trans (by repeat' (first | (with_reducible exact Fr.refl _ _) | (with_reducible refine Fr.drew ?_) | (with_reducible refine Fr.drN ?_ _) | (with_reducible refine Fr.alloc ?_ _) | (with_reducible refine Fr.set ?_ ?_ _) | (left; simp; done) | (right; simp; done) | (right; simp; omega))) hF)); replace HE := Lib.hid (HE.out.fr0 (Fr.trans (by repeat' (first | (with_reducible exact Fr.refl _ _) | (with_reducible refine Fr.drew ?_) | (with_reducible refine Fr.drN ?_ _) | (with_reducible refine Fr.alloc ?_ _) | (with_reducible refine Fr.set ?_ ?_ _) | (left; simp; done) | (right; simp; done) | (right; simp; omega))) hF)); replace HSA := Lib.hid (Fr.blk (Fr.trans (by repeat' (first | (with_reducible exact Fr.refl _ _) | (with_reducible refine Fr.drew ?_) | (with_reducible refine Fr.drN ?_ _) | (with_reducible refine Fr.alloc ?_ _) | (with_reducible refine Fr.set ?_ ?_ _) | (left; simp; done) | (right; simp; done) | (right; simp; omega))) hF) HSA.out (by simp)); replace HSB := Lib.hid (Fr.blk (Fr.trans (by repeat' (first | (with_reducible exact Fr.refl _ _) | (with_reducible refine Fr.drew ?_) | (with_reducible refine Fr.drN ?_ _) | (with_reducible refine Fr.alloc ?_ _) | (with_reducible refine Fr.set ?_ ?_ _) | (left; simp; done) | (right; simp; done) | (right; simp; omega))) hF) HSB.out (by simp)); replace HF := Lib.hid (HF.out.trans (Fr.trans (by repeat' (first | (with_reducible exact Fr.refl _ _) | (with_reducible refine Fr.drew ?_) | (with_reducible refine Fr.drN ?_ _) | (with_reducible refine Fr.alloc ?_ _) | (with_reducible refine Fr.set ?_ ?_ _) | (left; simp; done) | (right; simp; done) | (right; simp; omega))) hF)); clear hF st1 st2 st3 st4; have st1 := HSA.out.cell; have st2 := HSA.out.lt; have st3 := HSB.out.cell; have st4 := HSB.out.lt)
  go_wp2_with fail
  refine hK.out _ _ ?_ (fun hHeld => ?_)
  · ((try dsimp only); refine ⟨?_, ?_, ?_, ?_, ?_, ?_⟩ <;> (simp [go_sem, st1, st3]; done))
  clear hK K
  try simp only [Act.put, List.setIfInBounds_toArray, List.set_cons_zero, List.set_cons_succ]
  refine wpAnyH_take (i := 5) (v := ?v5) (by (simp only [List.getElem?_toArray, List.getElem?_cons_succ, List.getElem?_cons_zero]); exact rfl) (by kernel_rfl) (by kernel_rfl) (by kernel_rfl) (fun _ _ _ h => by exact h) (Or.inl ⟨by rfl, ?hy5⟩) (by assumption) ?rest5
  case hy5 =>
    intro w hSw
    try dsimp only at hSw
    go_simp
    try with_reducible rfl
  try simp only [Act.put, List.setIfInBounds_toArray, List.set_cons_zero, List.set_cons_succ]
  refine wpAnyH_take (i := 6) (v := ?v6) (by (simp only [List.getElem?_toArray, List.getElem?_cons_succ, List.getElem?_cons_zero]); exact rfl) (by kernel_rfl) (by kernel_rfl) (by kernel_rfl) (fun _ _ _ h => by exact h) (Or.inl ⟨by rfl, ?hy6⟩) (by assumption) ?rest6
  case hy6 =>
    intro w hSw
    try dsimp only at hSw
    go_simp
    try with_reducible rfl
  try simp only [Act.put, List.setIfInBounds_toArray, List.set_cons_zero, List.set_cons_succ]
  refine wpAnyH_take (i := 7) (v := ?v7) (by (simp only [List.getElem?_toArray, List.getElem?_cons_succ, List.getElem?_cons_zero]); exact rfl) (by kernel_rfl) (by kernel_rfl) (by kernel_rfl) (fun _ _ _ h => by exact h) (Or.inl ⟨by rfl, ?hy7⟩) (by assumption) ?rest7
  case hy7 =>
    intro w hSw
    try dsimp only at hSw
    go_simp
    try with_reducible rfl
  try simp only [Act.put, List.setIfInBounds_toArray, List.set_cons_zero, List.set_cons_succ]
  refine wpAnyH_take (i := 8) (v := ?v8) (by (simp only [List.getElem?_toArray, List.getElem?_cons_succ, List.getElem?_cons_zero]); exact rfl) (by kernel_rfl) (by kernel_rfl) (by kernel_rfl) (fun _ _ _ h => by exact h) (Or.inl ⟨by rfl, ?hy8⟩) (by assumption) ?rest8
  case hy8 =>
    intro w hSw
    try dsimp only at hSw
    go_simp
    try with_reducible rfl
  try simp only [Act.put, List.setIfInBounds_toArray, List.set_cons_zero, List.set_cons_succ]
  refine wpAnyH_take (i := 9) (v := ?v9) (by (simp only [List.getElem?_toArray, List.getElem?_cons_succ, List.getElem?_cons_zero]); exact rfl) (by kernel_rfl) (by kernel_rfl) (by kernel_rfl) (fun _ _ _ h => by exact h) (Or.inl ⟨by rfl, ?hy9⟩) (by assumption) ?rest9
  case hy9 =>
    intro w hSw
    try dsimp only at hSw
    go_simp
    try with_reducible rfl
  try simp only [Act.put, List.setIfInBounds_toArray, List.set_cons_zero, List.set_cons_succ]
  refine wpAnyH_take (i := 10) (v := ?v10) (by (simp only [List.getElem?_toArray, List.getElem?_cons_succ, List.getElem?_cons_zero]); exact rfl) (by kernel_rfl) (by kernel_rfl) (by kernel_rfl) (fun _ _ _ h => by exact h) (Or.inl ⟨by rfl, ?hy10⟩) (by assumption) ?rest10
  case hy10 =>
    intro w hSw
    try dsimp only at hSw
    go_simp
    try with_reducible rfl
  try simp only [Act.put, List.setIfInBounds_toArray, List.set_cons_zero, List.set_cons_succ]
  refine wpAnyH_take (i := 11) (v := ?v11) (by (simp only [List.getElem?_toArray, List.getElem?_cons_succ, List.getElem?_cons_zero]); exact rfl) (by kernel_rfl) (by kernel_rfl) (by kernel_rfl) (fun _ _ _ h => by exact h) (Or.inl ⟨by rfl, ?hy11⟩) (by assumption) ?rest11
  case hy11 =>
    intro w hSw
    try dsimp only at hSw
    go_simp
    try with_reducible rfl
  try simp only [Act.put, List.setIfInBounds_toArray, List.set_cons_zero, List.set_cons_succ]
  refine wpAnyH_take (i := 12) (v := ?v12) (by (simp only [List.getElem?_toArray, List.getElem?_cons_succ, List.getElem?_cons_zero]); exact rfl) (by kernel_rfl) (by kernel_rfl) (by kernel_rfl) (fun _ _ _ h => by exact h) (Or.inl ⟨by rfl, ?hy12⟩) (by assumption) ?rest12
  case hy12 =>
    intro w hSw
    try dsimp only at hSw
    go_simp
    try with_reducible rfl
  try simp only [Act.put, List.setIfInBounds_toArray, List.set_cons_zero, List.set_cons_succ]
  refine wpAnyH_take (i := 13) (v := ?v13) (by (simp only [List.getElem?_toArray, List.getElem?_cons_succ, List.getElem?_cons_zero]); exact rfl) (by kernel_rfl) (by kernel_rfl) (by kernel_rfl) (fun _ _ _ h => by exact h) (Or.inl ⟨by rfl, ?hy13⟩) (by assumption) ?rest13
  case hy13 =>
    intro w hSw
    try dsimp only at hSw
    go_simp
    try with_reducible rfl
  try simp only [Act.put, List.setIfInBounds_toArray, List.set_cons_zero, List.set_cons_succ]
  refine wpAnyH_take (i := 14) (v := ?v14) (by (simp only [List.getElem?_toArray, List.getElem?_cons_succ, List.getElem?_cons_zero]); exact rfl) (by kernel_rfl) (by kernel_rfl) (by kernel_rfl) (fun _ _ _ h => by exact h) (Or.inl ⟨by rfl, ?hy14⟩) (by assumption) ?rest14
  case hy14 =>
    intro w hSw
    try dsimp only at hSw
    go_simp
    try with_reducible rfl
  try simp only [Act.put, List.setIfInBounds_toArray, List.set_cons_zero, List.set_cons_succ]
  refine wpAnyH_take (i := 15) (v := ?v15) (by (simp only [List.getElem?_toArray, List.getElem?_cons_succ, List.getElem?_cons_zero]); exact rfl) (by kernel_rfl) (by kernel_rfl) (by kernel_rfl) (fun _ _ _ h => by exact h) (Or.inl ⟨by rfl, ?hy15⟩) (by assumption) ?rest15
  case hy15 =>
    intro w hSw
    try dsimp only at hSw
    go_simp
    try with_reducible rfl
  try simp only [Act.put, List.setIfInBounds_toArray, List.set_cons_zero, List.set_cons_succ]
  refine wpAnyH_take (i := 16) (v := ?v16) (by (simp only [List.getElem?_toArray, List.getElem?_cons_succ, List.getElem?_cons_zero]); exact rfl) (by kernel_rfl) (by kernel_rfl) (by kernel_rfl) (fun _ _ _ h => by exact h) (Or.inl ⟨by rfl, ?hy16⟩) (by assumption) ?rest16
  case hy16 =>
    intro w hSw
    try dsimp only at hSw
    go_simp
    try with_reducible rfl
  try simp only [Act.put, List.setIfInBounds_toArray, List.set_cons_zero, List.set_cons_succ]
  refine wpAnyH_take (i := 17) (v := ?v17) (by (simp only [List.getElem?_toArray, List.getElem?_cons_succ, List.getElem?_cons_zero]); exact rfl) (by kernel_rfl) (by kernel_rfl) (by kernel_rfl) (fun _ _ _ h => by exact h) (Or.inl ⟨by rfl, ?hy17⟩) (by assumption) ?rest17
  case hy17 =>
    intro w hSw
    try dsimp only at hSw
    go_simp
    try with_reducible rfl
  try simp only [Act.put, List.setIfInBounds_toArray, List.set_cons_zero, List.set_cons_succ]
  refine wpAnyH_take (i := 18) (v := ?v18) (by (simp only [List.getElem?_toArray, List.getElem?_cons_succ, List.getElem?_cons_zero]); exact rfl) (by kernel_rfl) (by kernel_rfl) (by kernel_rfl) (fun _ _ _ h => by exact h) (Or.inl ⟨by rfl, ?hy18⟩) (by assumption) ?rest18
  case hy18 =>
    intro w hSw
    try dsimp only at hSw
    go_simp
    try with_reducible rfl
  try simp only [Act.put, List.setIfInBounds_toArray, List.set_cons_zero, List.set_cons_succ]
  refine wpAnyH_take (i := 19) (v := ?v19) (by (simp only [List.getElem?_toArray, List.getElem?_cons_succ, List.getElem?_cons_zero]); exact rfl) (by kernel_rfl) (by kernel_rfl) (by kernel_rfl) (fun _ _ _ h => by exact h) (Or.inl ⟨by rfl, ?hy19⟩) (by assumption) ?rest19
  case hy19 =>
    intro w hSw
    try dsimp only at hSw
    go_simp
    try with_reducible rfl
  try simp only [Act.put, List.setIfInBounds_toArray, List.set_cons_zero, List.set_cons_succ]
  refine wpAnyH_take (i := 20) (v := ?v20) (by (simp only [List.getElem?_toArray, List.getElem?_cons_succ, List.getElem?_cons_zero]); exact rfl) (by kernel_rfl) (by kernel_rfl) (by kernel_rfl) (fun _ _ _ h => by exact h) (Or.inl ⟨by rfl, ?hy20⟩) (by assumption) ?rest20
  case hy20 =>
    intro w hSw
    try dsimp only at hSw
    go_simp
    try with_reducible rfl
  try simp only [Act.put, List.setIfInBounds_toArray, List.set_cons_zero, List.set_cons_succ]
  refine wpAnyH_take (i := 21) (v := ?v21) (by (simp only [List.getElem?_toArray, List.getElem?_cons_succ, List.getElem?_cons_zero]); exact rfl) (by kernel_rfl) (by kernel_rfl) (by kernel_rfl) (fun _ _ _ h => by exact h) (Or.inl ⟨by rfl, ?hy21⟩) (by assumption) ?rest21
  case hy21 =>
    intro w hSw
    try dsimp only at hSw
    go_simp
    try with_reducible rfl
  try simp only [Act.put, List.setIfInBounds_toArray, List.set_cons_zero, List.set_cons_succ]
  refine wpAnyH_take (i := 22) (v := ?v22) (by (simp only [List.getElem?_toArray, List.getElem?_cons_succ, List.getElem?_cons_zero]); exact rfl) (by kernel_rfl) (by kernel_rfl) (by kernel_rfl) (fun _ _ _ h => by exact h) (Or.inl ⟨by rfl, ?hy22⟩) (by assumption) ?rest22
  case hy22 =>
    intro w hSw
    try dsimp only at hSw
    go_simp
    try with_reducible rfl
  try simp only [Act.put, List.setIfInBounds_toArray, List.set_cons_zero, List.set_cons_succ]
  refine wpAnyH_take (i := 23) (v := ?v23) (by (simp only [List.getElem?_toArray, List.getElem?_cons_succ, List.getElem?_cons_zero]); exact rfl) (by kernel_rfl) (by kernel_rfl) (by kernel_rfl) (fun _ _ _ h => by exact h) (Or.inl ⟨by rfl, ?hy23⟩) (by assumption) ?rest23
  case hy23 =>
    intro w hSw
    try dsimp only at hSw
    go_simp
    try with_reducible rfl
  try simp only [Act.put, List.setIfInBounds_toArray, List.set_cons_zero, List.set_cons_succ]
  refine wpAnyH_take (i := 24) (v := ?v24) (by (simp only [List.getElem?_toArray, List.getElem?_cons_succ, List.getElem?_cons_zero]); exact rfl) (by kernel_rfl) (by kernel_rfl) (by kernel_rfl) (fun _ _ _ h => by exact h) (Or.inl ⟨by rfl, ?hy24⟩) (by assumption) ?rest24
  case hy24 =>
    intro w hSw
    try dsimp only at hSw
    go_simp
    try with_reducible rfl
  try simp only [Act.put, List.setIfInBounds_toArray, List.set_cons_zero, List.set_cons_succ]
  refine wpAnyH_take (i := 25) (v := ?v25) (by (simp only [List.getElem?_toArray, List.getElem?_cons_succ, List.getElem?_cons_zero]); exact rfl) (by kernel_rfl) (by kernel_rfl) (by kernel_rfl) (fun _ _ _ h => by exact h) (Or.inl ⟨by rfl, ?hy25⟩) (by assumption) ?rest25
  case hy25 =>
    intro w hSw
    try dsimp only at hSw
    go_simp
    try with_reducible rfl
  try simp only [Act.put, List.setIfInBounds_toArray, List.set_cons_zero, List.set_cons_succ]
  refine wpAnyH_take (i := 26) (v := ?v26) (by (simp only [List.getElem?_toArray, List.getElem?_cons_succ, List.getElem?_cons_zero]); exact rfl) (by kernel_rfl) (by kernel_rfl) (by kernel_rfl) (fun _ _ _ h => by exact h) (Or.inl ⟨by rfl, ?hy26⟩) (by assumption) ?rest26
  case hy26 =>
    intro w hSw
    try dsimp only at hSw
    go_simp
    try with_reducible rfl
  try simp only [Act.put, List.setIfInBounds_toArray, List.set_cons_zero, List.set_cons_succ]
  refine wpAnyH_take (i := 27) (v := ?v27) (by (simp only [List.getElem?_toArray, List.getElem?_cons_succ, List.getElem?_cons_zero]); exact rfl) (by kernel_rfl) (by kernel_rfl) (by kernel_rfl) (fun _ _ _ h => by exact h) (Or.inl ⟨by rfl, ?hy27⟩) (by assumption) ?rest27
  case hy27 =>
    intro w hSw
    try dsimp only at hSw
    go_simp
    try with_reducible rfl
  try simp only [Act.put, List.setIfInBounds_toArray, List.set_cons_zero, List.set_cons_succ]
  refine wpAnyH_take (i := 28) (v := ?v28) (by (simp only [List.getElem?_toArray, List.getElem?_cons_succ, List.getElem?_cons_zero]); exact rfl) (by kernel_rfl) (by kernel_rfl) (by kernel_rfl) (fun _ _ _ h => by exact h) (Or.inl ⟨by rfl, ?hy28⟩) (by assumption) ?rest28
  case hy28 =>
    intro w hSw
    try dsimp only at hSw
    go_simp
    try with_reducible rfl
  try simp only [Act.put, List.setIfInBounds_toArray, List.set_cons_zero, List.set_cons_succ]
  refine wpAnyH_take (i := 29) (v := ?v29) (by (simp only [List.getElem?_toArray, List.getElem?_cons_succ, List.getElem?_cons_zero]); exact rfl) (by kernel_rfl) (by kernel_rfl) (by kernel_rfl) (fun _ _ _ h => by exact h) (Or.inl ⟨by rfl, ?hy29⟩) (by assumption) ?rest29
  case hy29 =>
    intro w hSw
    try dsimp only at hSw
    go_simp
    try with_reducible rfl
  try simp only [Act.put, List.setIfInBounds_toArray, List.set_cons_zero, List.set_cons_succ]
  refine wpAnyH_take (i := 30) (v := ?v30) (by (simp only [List.getElem?_toArray, List.getElem?_cons_succ, List.getElem?_cons_zero]); exact rfl) (by kernel_rfl) (by kernel_rfl) (by kernel_rfl) (fun _ _ _ h => by exact h) (Or.inl ⟨by rfl, ?hy30⟩) (by assumption) ?rest30
  case hy30 =>
    intro w hSw
    try dsimp only at hSw
    go_simp
    try with_reducible rfl
  try simp only [Act.put, List.setIfInBounds_toArray, List.set_cons_zero, List.set_cons_succ]
  refine wpAnyH_take (i := 31) (v := ?v31) (by (simp only [List.getElem?_toArray, List.getElem?_cons_succ, List.getElem?_cons_zero]); exact rfl) (by kernel_rfl) (by kernel_rfl) (by kernel_rfl) (fun _ _ _ h => by exact h) (Or.inl ⟨by rfl, ?hy31⟩) (by assumption) ?rest31
  case hy31 =>
    intro w hSw
    try dsimp only at hSw
    go_simp
    try with_reducible rfl
  try simp only [Act.put, List.setIfInBounds_toArray, List.set_cons_zero, List.set_cons_succ]
  refine wpAnyH_take (i := 32) (v := ?v32) (by (simp only [List.getElem?_toArray, List.getElem?_cons_succ, List.getElem?_cons_zero]); exact rfl) (by kernel_rfl) (by kernel_rfl) (by kernel_rfl) (fun _ _ _ h => by exact h) (Or.inl ⟨by rfl, ?hy32⟩) (by assumption) ?rest32
  case hy32 =>
    intro w hSw
    try dsimp only at hSw
    go_simp
    try with_reducible rfl
  try simp only [Act.put, List.setIfInBounds_toArray, List.set_cons_zero, List.set_cons_succ]
  refine wpAnyH_take (i := 33) (v := ?v33) (by (simp only [List.getElem?_toArray, List.getElem?_cons_succ, List.getElem?_cons_zero]); exact rfl) (by kernel_rfl) (by kernel_rfl) (by kernel_rfl) (fun _ _ _ h => by exact h) (Or.inl ⟨by rfl, ?hy33⟩) (by assumption) ?rest33
  case hy33 =>
    intro w hSw
    try dsimp only at hSw
    go_simp
    try with_reducible rfl
  try simp only [Act.put, List.setIfInBounds_toArray, List.set_cons_zero, List.set_cons_succ]
  refine wpAnyH_ready (rs := [34]) (by kernel_rfl) (by simp) ?_
  refine AllReadyH.cons (by (simp only [List.getElem?_toArray, List.getElem?_cons_succ, List.getElem?_cons_zero]); exact rfl) (fun K hK => ?_) AllReadyH.nil
  clear hHeld
  go_simp
  (go_at_call 18; (with_reducible refine (sames_to (l := d) ?_ ?_).mono ?_); (focus (exact HD.out.fr0 (by repeat' (first | (with_reducible exact Fr.refl _ _) | (with_reducible refine Fr.drew ?_) | (with_reducible refine Fr.drN ?_ _) | (with_reducible refine Fr.alloc ?_ _) | (with_reducible refine Fr.set ?_ ?_ _) | (left; simp; done) | (right; simp; done) | (right; simp; omega))))); (focus (exact HE.out.fr0 (by repeat' (first | (with_reducible exact Fr.refl _ _) | (with_reducible refine Fr.drew ?_) | (with_reducible refine Fr.drN ?_ _) | (with_reducible refine Fr.alloc ?_ _) | (with_reducible refine Fr.set ?_ ?_ _) | (left; simp; done) | (right; simp; done) | (right; simp; omega))))); rintro e wz ⟨rfl, hF⟩; replace HA := Lib.hid (HA.out.fr0 (Fr.trans (by repeat' (first | (with_reducible exact Fr.refl _ _) | (with_reducible refine Fr.drew ?_) | (with_reducible refine Fr.drN ?_ _) | (with_reducible refine Fr.alloc ?_ _) | (with_reducible refine Fr.set ?_ ?_ _) | (left; simp; done) | (right; simp; done) | (right; simp; omega))) hF)); replace HB := Lib.hid (HB.out.fr0 (Fr.trans (by repeat' (first | (with_reducible exact Fr.refl _ _) | (with_reducible refine Fr.drew ?_) | (with_reducible refine Fr.drN ?_ _) | (with_reducible refine Fr.alloc ?_ _) | (with_reducible refine Fr.set ?_ ?_ _) | (left; simp; done) | (right; simp; done) | (right; simp; omega))) hF)); replace HX := Lib.hid (HX.out.fr0 (Fr.trans (by repeat' (first | (with_reducible exact Fr.refl _ _) | (with_reducible refine Fr.drew ?_) | (with_reducible refine Fr.drN ?_ _) | (with_reducible refine Fr.alloc ?_ _) | (with_reducible refine Fr.set ?_ ?_ _) | (left; simp; done) | (right; simp; done) | (right; simp; omega))) hF)); replace HY := Lib.hid (HY.out.fr0 (Fr.trans (by repeat' (first | (with_reducible exact Fr.refl _ _) | (with_reducible refine Fr.drew ?_) | (with_reducible refine Fr.drN ?_ _) | (with_reducible refine Fr.alloc ?_ _) | (with_reducible refine Fr.set ?_ ?_ _) | (left; simp; done) | (right; simp; done) | (right; simp; omega))) hF)); replace HM := Lib.hid (HM.out.fr0 (Fr.trans (by repeat' (first | (with_reducible exact Fr.refl _ _) | (with_reducible refine Fr.drew ?_) | (with_reducible refine Fr.drN ?_ _) | (with_reducible refine Fr.alloc ?_ _) | (with_reducible refine Fr.set ?_ ?_ _) | (left; simp; done) | (right; simp; done) | (right; simp; omega))) hF)); replace HN := Lib.hid (HN.out.fr0 (Fr.trans (by repeat' (first | (with_reducible exact Fr.refl _ _) | (with_reducible refine Fr.drew ?_) | (with_reducible refine Fr.drN ?_ _) | (with_reducible refine Fr.alloc ?_ _) | (with_reducible refine Fr.set ?_ ?_ _) | (left; simp; done) | (right; simp; done) | (right; simp; omega))) hF)); replace HD := Lib.hid (HD.out.fr0 (Fr.trans (by repeat' (first | (with_reducible exact Fr.refl _ _) | (with_reducible refine Fr.drew ?_) | (with_reducible refine Fr.drN ?_ _) | (with_reducible refine Fr.alloc ?_ _) | (with_reducible refine Fr.set ?_ ?_ _) | (left; simp; done) | (right; simp; done) | (right; simp; omega))) hF)); replace HE := Lib.hid (HE.out.fr0 (Fr.trans (by repeat' (first | (with_reducible exact Fr.refl _ _) | (with_reducible refine Fr.drew ?_) | (with_reducible refine Fr.drN ?_ _) | (with_reducible refine Fr.alloc ?_ _) | (with_reducible refine Fr.set ?_ ?_ _) | (left; simp; done) | (right; simp; done) | (right; simp; omega))) hF)); replace HSA := Lib.hid (Fr.blk (Fr.trans (by repeat' (first | (with_reducible exact Fr.refl _ _) | (with_reducible refine Fr.drew ?_) | (with_reducible refine Fr.drN ?_ _) | (with_reducible refine Fr.alloc ?_ _) | (with_reducible refine Fr.set ?_ ?_ _) | (left; simp; done) | (right; simp; done) | (right; simp; omega))) hF) HSA.out (by simp)); replace HSB := Lib.hid (Fr.blk (Fr.trans (by repeat' (first | (with_reducible exact Fr.refl _ _) | (with_reducible refine Fr.drew ?_) | (with_reducible refine Fr.drN ?_ _) | (with_reducible refine Fr.alloc ?_ _) | (with_reducible refine Fr.set ?_ ?_ _) | (left; simp; done) | (right; simp; done) | (right; simp; omega))) hF) HSB.out (by simp)); replace HF := Lib.hid (HF.out.trans (Fr.trans (by repeat' (first | (with_reducible exact Fr.refl _ _) | (with_reducible refine Fr.drew ?_) | (with_reducible refine Fr.drN ?_ _) | (with_reducible refine Fr.alloc ?_ _) | (with_reducible refine Fr.set ?_ ?_ _) | (left; simp; done) | (right; simp; done) | (right; simp; omega))) hF)); clear hF st1 st2 st3 st4; have st1 := HSA.out.cell; have st2 := HSA.out.lt; have st3 := HSB.out.cell; have st4 := HSB.out.lt)
  go_wp2_with fail
  refine hK.out _ _ ?_ (fun hHeld => ?_)
  · ((try dsimp only); refine ⟨?_, ?_, ?_, ?_, ?_, ?_⟩ <;> (simp [go_sem, st1, st3]; done))
  clear hK K
  try simp only [Act.put, List.setIfInBounds_toArray, List.set_cons_zero, List.set_cons_succ]
  refine wpAnyH_take (i := 35) (v := ?v35) (by (simp only [List.getElem?_toArray, List.getElem?_cons_succ, List.getElem?_cons_zero]); exact rfl) (by kernel_rfl) (by kernel_rfl) (by kernel_rfl) (fun _ _ _ h => by exact h) (Or.inl ⟨by rfl, ?hy35⟩) (by assumption) ?rest35
  case hy35 =>
    intro w hSw
    try dsimp only at hSw
    go_simp
    try with_reducible rfl
  try simp only [Act.put, List.setIfInBounds_toArray, List.set_cons_zero, List.set_cons_succ]
  refine wpAnyH_take (i := 36) (v := ?v36) (by (simp only [List.getElem?_toArray, List.getElem?_cons_succ, List.getElem?_cons_zero]); exact rfl) (by kernel_rfl) (by kernel_rfl) (by kernel_rfl) (fun _ _ _ h => by exact h) (Or.inl ⟨by rfl, ?hy36⟩) (by assumption) ?rest36
  case hy36 =>
    intro w hSw
    try dsimp only at hSw
    go_simp
    try with_reducible rfl
  try simp only [Act.put, List.setIfInBounds_toArray, List.set_cons_zero, List.set_cons_succ]
  refine wpAnyH_take (i := 37) (v := ?v37) (by (simp only [List.getElem?_toArray, List.getElem?_cons_succ, List.getElem?_cons_zero]); exact rfl) (by kernel_rfl) (by kernel_rfl) (by kernel_rfl) (fun _ _ _ h => by exact h) (Or.inl ⟨by rfl, ?hy37⟩) (by assumption) ?rest37
  case hy37 =>
    intro w hSw
    try dsimp only at hSw
    go_simp
    try with_reducible rfl
  try simp only [Act.put, List.setIfInBounds_toArray, List.set_cons_zero, List.set_cons_succ]
  refine wpAnyH_take (i := 38) (v := ?v38) (by (simp only [List.getElem?_toArray, List.getElem?_cons_succ, List.getElem?_cons_zero]); exact rfl) (by kernel_rfl) (by kernel_rfl) (by kernel_rfl) (fun _ _ _ h => by exact h) (Or.inl ⟨by rfl, ?hy38⟩) (by assumption) ?rest38
  case hy38 =>
    intro w hSw
    try dsimp only at hSw
    go_simp
    try with_reducible rfl
  try simp only [Act.put, List.setIfInBounds_toArray, List.set_cons_zero, List.set_cons_succ]
  refine wpAnyH_take (i := 39) (v := ?v39) (by (simp only [List.getElem?_toArray, List.getElem?_cons_succ, List.getElem?_cons_zero]); exact rfl) (by kernel_rfl) (by kernel_rfl) (by kernel_rfl) (fun _ _ _ h => by exact h) (Or.inl ⟨by rfl, ?hy39⟩) (by assumption) ?rest39
  case hy39 =>
    intro w hSw
    try dsimp only at hSw
    go_simp
    try with_reducible rfl
  try simp only [Act.put, List.setIfInBounds_toArray, List.set_cons_zero, List.set_cons_succ]
  refine wpAnyH_take (i := 40) (v := ?v40) (by (simp only [List.getElem?_toArray, List.getElem?_cons_succ, List.getElem?_cons_zero]); exact rfl) (by kernel_rfl) (by kernel_rfl) (by kernel_rfl) (fun _ _ _ h => by exact h) (Or.inl ⟨by rfl, ?hy40⟩) (by assumption) ?rest40
  case hy40 =>
    intro w hSw
    try dsimp only at hSw
    go_simp
    try with_reducible rfl
  try simp only [Act.put, List.setIfInBounds_toArray, List.set_cons_zero, List.set_cons_succ]
  refine wpAnyH_take (i := 41) (v := ?v41) (by (simp only [List.getElem?_toArray, List.getElem?_cons_succ, List.getElem?_cons_zero]); exact rfl) (by kernel_rfl) (by kernel_rfl) (by kernel_rfl) (fun _ _ _ h => by exact h) (Or.inl ⟨by rfl, ?hy41⟩) (by assumption) ?rest41
  case hy41 =>
    intro w hSw
    try dsimp only at hSw
    go_simp
    try with_reducible rfl
  try simp only [Act.put, List.setIfInBounds_toArray, List.set_cons_zero, List.set_cons_succ]
  refine wpAnyH_take (i := 42) (v := ?v42) (by (simp only [List.getElem?_toArray, List.getElem?_cons_succ, List.getElem?_cons_zero]); exact rfl) (by kernel_rfl) (by kernel_rfl) (by kernel_rfl) (fun _ _ _ h => by exact h) (Or.inl ⟨by rfl, ?hy42⟩) (by assumption) ?rest42
  case hy42 =>
    intro w hSw
    try dsimp only at hSw
    go_simp
    try with_reducible rfl
  try simp only [Act.put, List.setIfInBounds_toArray, List.set_cons_zero, List.set_cons_succ]
  refine wpAnyH_take (i := 43) (v := ?v43) (by (simp only [List.getElem?_toArray, List.getElem?_cons_succ, List.getElem?_cons_zero]); exact rfl) (by kernel_rfl) (by kernel_rfl) (by kernel_rfl) (fun _ _ _ h => by exact h) (Or.inl ⟨by rfl, ?hy43⟩) (by assumption) ?rest43
  case hy43 =>
    intro w hSw
    try dsimp only at hSw
    go_simp
    try with_reducible rfl
  try simp only [Act.put, List.setIfInBounds_toArray, List.set_cons_zero, List.set_cons_succ]
  refine wpAnyH_ready (rs := [44]) (by kernel_rfl) (by simp) ?_
  refine AllReadyH.cons (by (simp only [List.getElem?_toArray, List.getElem?_cons_succ, List.getElem?_cons_zero]); exact rfl) (fun K hK => ?_) AllReadyH.nil
  clear hHeld
  go_simp
  (go_at_call 27; (with_reducible refine (rright_to ?_ Ra.out HRr.out).mono ?_); (focus (exact HA.out.fr0 (by repeat' (first | (with_reducible exact Fr.refl _ _) | (with_reducible refine Fr.drew ?_) | (with_reducible refine Fr.drN ?_ _) | (with_reducible refine Fr.alloc ?_ _) | (with_reducible refine Fr.set ?_ ?_ _) | (left; simp; done) | (right; simp; done) | (right; simp; omega))))); rintro e wz ⟨rfl, hF⟩; replace HA := Lib.hid (HA.out.fr0 (Fr.trans (by repeat' (first | (with_reducible exact Fr.refl _ _) | (with_reducible refine Fr.drew ?_) | (with_reducible refine Fr.drN ?_ _) | (with_reducible refine Fr.alloc ?_ _) | (with_reducible refine Fr.set ?_ ?_ _) | (left; simp; done) | (right; simp; done) | (right; simp; omega))) hF)); replace HB := Lib.hid (HB.out.fr0 (Fr.trans (by repeat' (first | (with_reducible exact Fr.refl _ _) | (with_reducible refine Fr.drew ?_) | (with_reducible refine Fr.drN ?_ _) | (with_reducible refine Fr.alloc ?_ _) | (with_reducible refine Fr.set ?_ ?_ _) | (left; simp; done) | (right; simp; done) | (right; simp; omega))) hF)); replace HX := Lib.hid (HX.out.fr0 (Fr.trans (by repeat' (first | (with_reducible exact Fr.refl _ _) | (with_reducible refine Fr.drew ?_) | (with_reducible refine Fr.drN ?_ _) | (with_reducible refine Fr.alloc ?_ _) | (with_reducible refine Fr.set ?_ ?_ _) | (left; simp; done) | (right; simp; done) | (right; simp; omega))) hF)); replace HY := Lib.hid (HY.out.fr0 (Fr.trans (by repeat' (first | (with_reducible exact Fr.refl _ _) | (with_reducible refine Fr.drew ?_) | (with_reducible refine Fr.drN ?_ _) | (with_reducible refine Fr.alloc ?_ _) | (with_reducible refine Fr.set ?_ ?_ _) | (left; simp; done) | (right; simp; done) | (right; simp; omega))) hF)); replace HM := Lib.hid (HM.out.fr0 (Fr.trans (by repeat' (first | (with_reducible exact Fr.refl _ _) | (with_reducible refine Fr.drew ?_) | (with_reducible refine Fr.drN ?_ _) | (with_reducible refine Fr.alloc ?_ _) | (with_reducible refine Fr.set ?_ ?_ _) | (left; simp; done) | (right; simp; done) | (right; simp; omega))) hF)); replace HN := Lib.hid (HN.out.fr0 (Fr.trans (by repeat' (first | (with_reducible exact Fr.refl _ _) | (with_reducible refine Fr.drew ?_) | (with_reducible refine Fr.drN ?_ _) | (with_reducible refine Fr.alloc ?_ _) | (with_reducible refine Fr.set ?_ ?_ _) | (left; simp; done) | (right; simp; done) | (right; simp; omega))) hF)); replace HD := Lib.hid (HD.out.fr0 (Fr.trans (by repeat' (first | (with_reducible exact Fr.refl _ _) | (with_reducible refine Fr.drew ?_) | (with_reducible refine Fr.drN ?_ _) | (with_reducible refine Fr.alloc ?_ _) | (with_reducible refine Fr.set ?_ ?_ _) | (left; simp; done) | (right; simp; done) | (right; simp; omega))) hF)); replace HE := Lib.hid (HE.out.fr0 (Fr.trans (by repeat' (first | (with_reducible exact Fr.refl _ _) | (with_reducible refine Fr.drew ?_) | (with_reducible refine Fr.drN ?_ _) | (with_reducible refine Fr.alloc ?_ _) | (with_reducible refine Fr.set ?_ ?_ _) | (left; simp; done) | (right; simp; done) | (right; simp; omega))) hF)); replace HSA := Lib.hid (Fr.blk (Fr.trans (by repeat' (first | (with_reducible exact Fr.refl _ _) | (with_reducible refine Fr.drew ?_) | (with_reducible refine Fr.drN ?_ _) | (with_reducible refine Fr.alloc ?_ _) | (with_reducible refine Fr.set ?_ ?_ _) | (left; simp; done) | (right; simp; done) | (right; simp; omega))) hF) HSA.out (by simp)); replace HSB := Lib.hid (Fr.blk (Fr.trans (by repeat' (first | (with_reducible exact Fr.refl _ _) | (with_reducible refine Fr.drew ?_) | (with_reducible refine Fr.drN ?_ _) | (with_reducible refine Fr.alloc ?_ _) | (with_reducible refine Fr.set ?_ ?_ _) | (left; simp; done) | (right; simp; done) | (right; simp; omega))) hF) HSB.out (by simp)); replace HF := Lib.hid (HF.out.trans (Fr.trans (by repeat' (first | (with_reducible exact Fr.refl _ _) | (with_reducible refine Fr.drew ?_) | (with_reducible refine Fr.drN ?_ _) | (with_reducible refine Fr.alloc ?_ _) | (with_reducible refine Fr.set ?_ ?_ _) | (left; simp; done) | (right; simp; done) | (right; simp; omega))) hF)); clear hF st1 st2 st3 st4; have st1 := HSA.out.cell; have st2 := HSA.out.lt; have st3 := HSB.out.cell; have st4 := HSB.out.lt)
  go_wp2_with fail
  refine hK.out _ _ ?_ (fun hHeld => ?_)
  · ((try dsimp only); refine ⟨?_, ?_, ?_, ?_, ?_, ?_⟩ <;> (simp [go_sem, st1, st3]; done))
  clear hK K
  try simp only [Act.put, List.setIfInBounds_toArray, List.set_cons_zero, List.set_cons_succ]
  refine wpAnyH_take (i := 45) (v := ?v45) (by (simp only [List.getElem?_toArray, List.getElem?_cons_succ, List.getElem?_cons_zero]); exact rfl) (by kernel_rfl) (by kernel_rfl) (by kernel_rfl) (fun _ _ _ h => by exact h) (Or.inl ⟨by rfl, ?hy45⟩) (by assumption) ?rest45
  case hy45 =>
    intro w hSw
    try dsimp only at hSw
    go_simp
    try with_reducible rfl
  try simp only [Act.put, List.setIfInBounds_toArray, List.set_cons_zero, List.set_cons_succ]
  refine wpAnyH_take (i := 46) (v := ?v46) (by (simp only [List.getElem?_toArray, List.getElem?_cons_succ, List.getElem?_cons_zero]); exact rfl) (by kernel_rfl) (by kernel_rfl) (by kernel_rfl) (fun _ _ _ h => by exact h) (Or.inl ⟨by rfl, ?hy46⟩) (by assumption) ?rest46
  case hy46 =>
    intro w hSw
    try dsimp only at hSw
    go_simp
    try with_reducible rfl
  try simp only [Act.put, List.setIfInBounds_toArray, List.set_cons_zero, List.set_cons_succ]
  refine wpAnyH_take (i := 47) (v := ?v47) (by (simp only [List.getElem?_toArray, List.getElem?_cons_succ, List.getElem?_cons_zero]); exact rfl) (by kernel_rfl) (by kernel_rfl) (by kernel_rfl) (fun _ _ _ h => by exact h) (Or.inl ⟨by rfl, ?hy47⟩) (by assumption) ?rest47
  case hy47 =>
    intro w hSw
    try dsimp only at hSw
    go_simp
    try with_reducible rfl
  try simp only [Act.put, List.setIfInBounds_toArray, List.set_cons_zero, List.set_cons_succ]
  refine wpAnyH_take (i := 48) (v := ?v48) (by (simp only [List.getElem?_toArray, List.getElem?_cons_succ, List.getElem?_cons_zero]); exact rfl) (by kernel_rfl) (by kernel_rfl) (by kernel_rfl) (fun _ _ _ h => by exact h) (Or.inl ⟨by rfl, ?hy48⟩) (by assumption) ?rest48
  case hy48 =>
    intro w hSw
    try dsimp only at hSw
    go_simp
    try with_reducible rfl
  try simp only [Act.put, List.setIfInBounds_toArray, List.set_cons_zero, List.set_cons_succ]
  refine wpAnyH_take (i := 49) (v := ?v49) (by (simp only [List.getElem?_toArray, List.getElem?_cons_succ, List.getElem?_cons_zero]); exact rfl) (by kernel_rfl) (by kernel_rfl) (by kernel_rfl) (fun _ _ _ h => by exact h) (Or.inl ⟨by rfl, ?hy49⟩) (by assumption) ?rest49
  case hy49 =>
    intro w hSw
    try dsimp only at hSw
    go_simp
    try with_reducible rfl
  try simp only [Act.put, List.setIfInBounds_toArray, List.set_cons_zero, List.set_cons_succ]
  refine wpAnyH_ready (rs := [50]) (by kernel_rfl) (by simp) ?_
  refine AllReadyH.cons (by (simp only [List.getElem?_toArray, List.getElem?_cons_succ, List.getElem?_cons_zero]); exact rfl) (fun K hK => ?_) AllReadyH.nil
  go_simp
  refine hK.out _ _ hHeld (fun hHeld => ?_)
  clear hK K
  try simp only [Act.put, List.setIfInBounds_toArray, List.set_cons_zero, List.set_cons_succ]
  refine wpAnyH_ready (rs := [51]) (by kernel_rfl) (by simp) ?_
  refine AllReadyH.cons (by (simp only [List.getElem?_toArray, List.getElem?_cons_succ, List.getElem?_cons_zero]); exact rfl) (fun K hK => ?_) AllReadyH.nil
  go_simp
  refine hK.out _ _ hHeld (fun hHeld => ?_)
  clear hK K
  try simp only [Act.put, List.setIfInBounds_toArray, List.set_cons_zero, List.set_cons_succ]
  refine wpAnyH_ready (rs := [52]) (by kernel_rfl) (by simp) ?_
  refine AllReadyH.cons (by (simp only [List.getElem?_toArray, List.getElem?_cons_succ, List.getElem?_cons_zero]); exact rfl) (fun K hK => ?_) AllReadyH.nil
  go_simp
  refine hK.out _ _ hHeld (fun hHeld => ?_)
  clear hK K
  try simp only [Act.put, List.setIfInBounds_toArray, List.set_cons_zero, List.set_cons_succ]
  refine wpAnyH_take (i := 53) (v := ?v53) (by (simp only [List.getElem?_toArray, List.getElem?_cons_succ, List.getElem?_cons_zero]); exact rfl) (by kernel_rfl) (by kernel_rfl) (by kernel_rfl) (fun _ _ _ h => by exact h) (Or.inl ⟨by rfl, ?hy53⟩) (by assumption) ?rest53
  case hy53 =>
    intro w hSw
    try dsimp only at hSw
    go_simp
    try with_reducible rfl
  try simp only [Act.put, List.setIfInBounds_toArray, List.set_cons_zero, List.set_cons_succ]
  refine wpAnyH_take (i := 54) (v := ?v54) (by (simp only [List.getElem?_toArray, List.getElem?_cons_succ, List.getElem?_cons_zero]); exact rfl) (by kernel_rfl) (by kernel_rfl) (by kernel_rfl) (fun _ _ _ h => by exact h) (Or.inl ⟨by rfl, ?hy54⟩) (by assumption) ?rest54
  case hy54 =>
    intro w hSw
    try dsimp only at hSw
    go_simp
    try with_reducible rfl
  try simp only [Act.put, List.setIfInBounds_toArray, List.set_cons_zero, List.set_cons_succ]
  refine wpAnyH_take (i := 55) (v := ?v55) (by (simp only [List.getElem?_toArray, List.getElem?_cons_succ, List.getElem?_cons_zero]); exact rfl) (by kernel_rfl) (by kernel_rfl) (by kernel_rfl) (fun _ _ _ h => by exact h) (Or.inl ⟨by rfl, ?hy55⟩) (by assumption) ?rest55
  case hy55 =>
    intro w hSw
    try dsimp only at hSw
    go_simp
    try with_reducible rfl
  try simp only [Act.put, List.setIfInBounds_toArray, List.set_cons_zero, List.set_cons_succ]
  refine wpAnyH_take (i := 56) (v := ?v56) (by (simp only [List.getElem?_toArray, List.getElem?_cons_succ, List.getElem?_cons_zero]); exact rfl) (by kernel_rfl) (by kernel_rfl) (by kernel_rfl) (fun _ _ _ h => by exact h) (Or.inl ⟨by rfl, ?hy56⟩) (by assumption) ?rest56
  case hy56 =>
    intro w hSw
    try dsimp only at hSw
    go_simp
    try with_reducible rfl
  try simp only [Act.put, List.setIfInBounds_toArray, List.set_cons_zero, List.set_cons_succ]
  refine wpAnyH_take (i := 57) (v := ?v57) (by (simp only [List.getElem?_toArray, List.getElem?_cons_succ, List.getElem?_cons_zero]); exact rfl) (by kernel_rfl) (by kernel_rfl) (by kernel_rfl) (fun _ _ _ h => by exact h) (Or.inl ⟨by rfl, ?hy57⟩) (by assumption) ?rest57
  case hy57 =>
    intro w hSw
    try dsimp only at hSw
    go_simp
    try with_reducible rfl
  try simp only [Act.put, List.setIfInBounds_toArray, List.set_cons_zero, List.set_cons_succ]
  refine wpAnyH_take (i := 59) (v := ?v59) (by (simp only [List.getElem?_toArray, List.getElem?_cons_succ, List.getElem?_cons_zero]); exact rfl) (by kernel_rfl) (by kernel_rfl) (by kernel_rfl) (fun _ _ _ h => by exact h) (Or.inl ⟨by rfl, ?hy59⟩) (by assumption) ?rest59
  case hy59 =>
    intro w hSw
    try dsimp only at hSw
    go_simp
    try with_reducible rfl
  try simp only [Act.put, List.setIfInBounds_toArray, List.set_cons_zero, List.set_cons_succ]
  refine wpAnyH_take (i := 60) (v := ?v60) (by (simp only [List.getElem?_toArray, List.getElem?_cons_succ, List.getElem?_cons_zero]); exact rfl) (by kernel_rfl) (by kernel_rfl) (by kernel_rfl) (fun _ _ _ h => by exact h) (Or.inl ⟨by rfl, ?hy60⟩) (by assumption) ?rest60
  case hy60 =>
    intro w hSw
    try dsimp only at hSw
    go_simp
    try with_reducible rfl
  try simp only [Act.put, List.setIfInBounds_toArray, List.set_cons_zero, List.set_cons_succ]
  refine wpAnyH_ready (rs := [58]) (by kernel_rfl) (by simp) ?_
  refine AllReadyH.cons (by (simp only [List.getElem?_toArray, List.getElem?_cons_succ, List.getElem?_cons_zero]); exact rfl) (fun K hK => ?_) AllReadyH.nil
  clear hHeld
  go_simp
  (go_at_call 29; (with_reducible refine (later_to (later_any s t _ hs ht) HZ.out).mono ?_); rintro e wz ⟨rfl, hF⟩; replace HA := Lib.hid (HA.out.fr0 (Fr.trans (by repeat' (first | (with_reducible exact Fr.refl _ _) | (with_reducible refine Fr.drew ?_) | (with_reducible refine Fr.drN ?_ _) | (with_reducible refine Fr.alloc ?_ _) | (with_reducible refine Fr.set ?_ ?_ _) | (left; simp; done) | (right; simp; done) | (right; simp; omega))) hF)); replace HB := Lib.hid (HB.out.fr0 (Fr.trans (by repeat' (first | (with_reducible exact Fr.refl _ _) | (with_reducible refine Fr.drew ?_) | (with_reducible refine Fr.drN ?_ _) | (with_reducible refine Fr.alloc ?_ _) | (with_reducible refine Fr.set ?_ ?_ _) | (left; simp; done) | (right; simp; done) | (right; simp; omega))) hF)); replace HX := Lib.hid (HX.out.fr0 (Fr.trans (by repeat' (first | (with_reducible exact Fr.refl _ _) | (with_reducible refine Fr.drew ?_) | (with_reducible refine Fr.drN ?_ _) | (with_reducible refine Fr.alloc ?_ _) | (with_reducible refine Fr.set ?_ ?_ _) | (left; simp; done) | (right; simp; done) | (right; simp; omega))) hF)); replace HY := Lib.hid (HY.out.fr0 (Fr.trans (by repeat' (first | (with_reducible exact Fr.refl _ _) | (with_reducible refine Fr.drew ?_) | (with_reducible refine Fr.drN ?_ _) | (with_reducible refine Fr.alloc ?_ _) | (with_reducible refine Fr.set ?_ ?_ _) | (left; simp; done) | (right; simp; done) | (right; simp; omega))) hF)); replace HM := Lib.hid (HM.out.fr0 (Fr.trans (by repeat' (first | (with_reducible exact Fr.refl _ _) | (with_reducible refine Fr.drew ?_) | (with_reducible refine Fr.drN ?_ _) | (with_reducible refine Fr.alloc ?_ _) | (with_reducible refine Fr.set ?_ ?_ _) | (left; simp; done) | (right; simp; done) | (right; simp; omega))) hF)); replace HN := Lib.hid (HN.out.fr0 (Fr.trans (by repeat' (first | (with_reducible exact Fr.refl _ _) | (with_reducible refine Fr.drew ?_) | (with_reducible refine Fr.drN ?_ _) | (with_reducible refine Fr.alloc ?_ _) | (with_reducible refine Fr.set ?_ ?_ _) | (left; simp; done) | (right; simp; done) | (right; simp; omega))) hF)); replace HD := Lib.hid (HD.out.fr0 (Fr.trans (by repeat' (first | (with_reducible exact Fr.refl _ _) | (with_reducible refine Fr.drew ?_) | (with_reducible refine Fr.drN ?_ _) | (with_reducible refine Fr.alloc ?_ _) | (with_reducible refine Fr.set ?_ ?_ _) | (left; simp; done) | (right; simp; done) | (right; simp; omega))) hF)); replace HE := Lib.hid (HE.out.fr0 (Fr.trans (by repeat' (first | (with_reducible exact Fr.refl _ _) | (with_reducible refine Fr.drew ?_) | (with_reducible refine Fr.drN ?_ _) | (with_reducible refine Fr.alloc ?_ _) | (with_reducible refine Fr.set ?_ ?_ _) | (left; simp; done) | (right; simp; done) | (right; simp; omega))) hF)); replace HSA := Lib.hid (Fr.blk (Fr.trans (by repeat' (first | (with_reducible exact Fr.refl _ _) | (with_reducible refine Fr.drew ?_) | (with_reducible refine Fr.drN ?_ _) | (with_reducible refine Fr.alloc ?_ _) | (with_reducible refine Fr.set ?_ ?_ _) | (left; simp; done) | (right; simp; done) | (right; simp; omega))) hF) HSA.out (by simp)); replace HSB := Lib.hid (Fr.blk (Fr.trans (by repeat' (first | (with_reducible exact Fr.refl _ _) | (with_reducible refine Fr.drew ?_) | (with_reducible refine Fr.drN ?_ _) | (with_reducible refine Fr.alloc ?_ _) | (with_reducible refine Fr.set ?_ ?_ _) | (left; simp; done) | (right; simp; done) | (right; simp; omega))) hF) HSB.out (by simp)); replace HF := Lib.hid (HF.out.trans (Fr.trans (by repeat' (first | (with_reducible exact Fr.refl _ _) | (with_reducible refine Fr.drew ?_) | (with_reducible refine Fr.drN ?_ _) | (with_reducible refine Fr.alloc ?_ _) | (with_reducible refine Fr.set ?_ ?_ _) | (left; simp; done) | (right; simp; done) | (right; simp; omega))) hF)); clear hF st1 st2 st3 st4; have st1 := HSA.out.cell; have st2 := HSA.out.lt; have st3 := HSB.out.cell; have st4 := HSB.out.lt)
  go_wp2_with fail
  refine hK.out _ _ ?_ (fun hHeld => ?_)
  · ((try dsimp only); refine ⟨?_, ?_, ?_, ?_, ?_, ?_⟩ <;> (simp [go_sem, st1, st3]; done))
  clear hK K
  try simp only [Act.put, List.setIfInBounds_toArray, List.set_cons_zero, List.set_cons_succ]
  refine wpAnyH_ready (rs := [61]) (by kernel_rfl) (by simp) ?_
  refine AllReadyH.cons (by (simp only [List.getElem?_toArray, List.getElem?_cons_succ, List.getElem?_cons_zero]); exact rfl) (fun K hK => ?_) AllReadyH.nil
  clear hHeld
  go_simp
  (go_at_call 30; (with_reducible refine (later_to (rlater_any s t _ hs ht) HZ.out).mono ?_); rintro e wz ⟨rfl, hF⟩; replace HA := Lib.hid (HA.out.fr0 (Fr.trans (by repeat' (first | (with_reducible exact Fr.refl _ _) | (with_reducible refine Fr.drew ?_) | (with_reducible refine Fr.drN ?_ _) | (with_reducible refine Fr.alloc ?_ _) | (with_reducible refine Fr.set ?_ ?_ _) | (left; simp; done) | (right; simp; done) | (right; simp; omega))) hF)); replace HB := Lib.hid (HB.out.fr0 (Fr.trans (by repeat' (first | (with_reducible exact Fr.refl _ _) | (with_reducible refine Fr.drew ?_) | (with_reducible refine Fr.drN ?_ _) | (with_reducible refine Fr.alloc ?_ _) | (with_reducible refine Fr.set ?_ ?_ _) | (left; simp; done) | (right; simp; done) | (right; simp; omega))) hF)); replace HX := Lib.hid (HX.out.fr0 (Fr.trans (by repeat' (first | (with_reducible exact Fr.refl _ _) | (with_reducible refine Fr.drew ?_) | (with_reducible refine Fr.drN ?_ _) | (with_reducible refine Fr.alloc ?_ _) | (with_reducible refine Fr.set ?_ ?_ _) | (left; simp; done) | (right; simp; done) | (right; simp; omega))) hF)); replace HY := Lib.hid (HY.out.fr0 (Fr.trans (by repeat' (first | (with_reducible exact Fr.refl _ _) | (with_reducible refine Fr.drew ?_) | (with_reducible refine Fr.drN ?_ _) | (with_reducible refine Fr.alloc ?_ _) | (with_reducible refine Fr.set ?_ ?_ _) | (left; simp; done) | (right; simp; done) | (right; simp; omega))) hF)); replace HM := Lib.hid (HM.out.fr0 (Fr.trans (by repeat' (first | (with_reducible exact Fr.refl _ _) | (with_reducible refine Fr.drew ?_) | (with_reducible refine Fr.drN ?_ _) | (with_reducible refine Fr.alloc ?_ _) | (with_reducible refine Fr.set ?_ ?_ _) | (left; simp; done) | (right; simp; done) | (right; simp; omega))) hF)); replace HN := Lib.hid (HN.out.fr0 (Fr.trans (by repeat' (first | (with_reducible exact Fr.refl _ _) | (with_reducible refine Fr.drew ?_) | (with_reducible refine Fr.drN ?_ _) | (with_reducible refine Fr.alloc ?_ _) | (with_reducible refine Fr.set ?_ ?_ _) | (left; simp; done) | (right; simp; done) | (right; simp; omega))) hF)); replace HD := Lib.hid (HD.out.fr0 (Fr.trans (by repeat' (first | (with_reducible exact Fr.refl _ _) | (with_reducible refine Fr.drew ?_) | (with_reducible refine Fr.drN ?_ _) | (with_reducible refine Fr.alloc ?_ _) | (with_reducible refine Fr.set ?_ ?_ _) | (left; simp; done) | (right; simp; done) | (right; simp; omega))) hF)); replace HE := Lib.hid (HE.out.fr0 (Fr.trans (by repeat' (first | (with_reducible exact Fr.refl _ _) | (with_reducible refine Fr.drew ?_) | (with_reducible refine Fr.drN ?_ _) | (with_reducible refine Fr.alloc ?_ _) | (with_reducible refine Fr.set ?_ ?_ _) | (left; simp; done) | (right; simp; done) | (right; simp; omega))) hF)); replace HSA := Lib.hid (Fr.blk (Fr.trans (by repeat' (first | (with_reducible exact Fr.refl _ _) | (with_reducible refine Fr.drew ?_) | (with_reducible refine Fr.drN ?_ _) | (with_reducible refine Fr.alloc ?_ _) | (with_reducible refine Fr.set ?_ ?_ _) | (left; simp; done) | (right; simp; done) | (right; simp; omega))) hF) HSA.out (by simp)); replace HSB := Lib.hid (Fr.blk (Fr.trans (by repeat' (first | (with_reducible exact Fr.refl _ _) | (with_reducible refine Fr.drew ?_) | (with_reducible refine Fr.drN ?_ _) | (with_reducible refine Fr.alloc ?_ _) | (with_reducible refine Fr.set ?_ ?_ _) | (left; simp; done) | (right; simp; done) | (right; simp; omega))) hF) HSB.out (by simp)); replace HF := Lib.hid (HF.out.trans (Fr.trans (by repeat' (first | (with_reducible exact Fr.refl _ _) | (with_reducible refine Fr.drew ?_) | (with_reducible refine Fr.drN ?_ _) | (with_reducible refine Fr.alloc ?_ _) | (with_reducible refine Fr.set ?_ ?_ _) | (left; simp; done) | (right; simp; done) | (right; simp; omega))) hF)); clear hF st1 st2 st3 st4; have st1 := HSA.out.cell; have st2 := HSA.out.lt; have st3 := HSB.out.cell; have st4 := HSB.out.lt)
  go_wp2_with fail
  refine hK.out _ _ ?_ (fun hHeld => ?_)
  · ((try dsimp only); refine ⟨?_, ?_, ?_, ?_, ?_, ?_⟩ <;> (simp [go_sem, st1, st3]; done))
  clear hK K
  try simp only [Act.put, List.setIfInBounds_toArray, List.set_cons_zero, List.set_cons_succ]
  refine wpAnyH_ready (rs := [62]) (by kernel_rfl) (by simp) ?_
  refine AllReadyH.cons (by (simp only [List.getElem?_toArray, List.getElem?_cons_succ, List.getElem?_cons_zero]); exact rfl) (fun K hK => ?_) AllReadyH.nil
  clear hHeld
  go_simp
  (go_at_call 28; (with_reducible refine (sameStamp_any z _).mono ?_); rintro e wz ⟨rfl, hF⟩; replace HA := Lib.hid (HA.out.fr0 (Fr.trans (by repeat' (first | (with_reducible exact Fr.refl _ _) | (with_reducible refine Fr.drew ?_) | (with_reducible refine Fr.drN ?_ _) | (with_reducible refine Fr.alloc ?_ _) | (with_reducible refine Fr.set ?_ ?_ _) | (left; simp; done) | (right; simp; done) | (right; simp; omega))) hF)); replace HB := Lib.hid (HB.out.fr0 (Fr.trans (by repeat' (first | (with_reducible exact Fr.refl _ _) | (with_reducible refine Fr.drew ?_) | (with_reducible refine Fr.drN ?_ _) | (with_reducible refine Fr.alloc ?_ _) | (with_reducible refine Fr.set ?_ ?_ _) | (left; simp; done) | (right; simp; done) | (right; simp; omega))) hF)); replace HX := Lib.hid (HX.out.fr0 (Fr.trans (by repeat' (first | (with_reducible exact Fr.refl _ _) | (with_reducible refine Fr.drew ?_) | (with_reducible refine Fr.drN ?_ _) | (with_reducible refine Fr.alloc ?_ _) | (with_reducible refine Fr.set ?_ ?_ _) | (left; simp; done) | (right; simp; done) | (right; simp; omega))) hF)); replace HY := Lib.hid (HY.out.fr0 (Fr.trans (by repeat' (first | (with_reducible exact Fr.refl _ _) | (with_reducible refine Fr.drew ?_) | (with_reducible refine Fr.drN ?_ _) | (with_reducible refine Fr.alloc ?_ _) | (with_reducible refine Fr.set ?_ ?_ _) | (left; simp; done) | (right; simp; done) | (right; simp; omega))) hF)); replace HM := Lib.hid (HM.out.fr0 (Fr.trans (by repeat' (first | (with_reducible exact Fr.refl _ _) | (with_reducible refine Fr.drew ?_) | (with_reducible refine Fr.drN ?_ _) | (with_reducible refine Fr.alloc ?_ _) | (with_reducible refine Fr.set ?_ ?_ _) | (left; simp; done) | (right; simp; done) | (right; simp; omega))) hF)); replace HN := Lib.hid (HN.out.fr0 (Fr.trans (by repeat' (first | (with_reducible exact Fr.refl _ _) | (with_reducible refine Fr.drew ?_) | (with_reducible refine Fr.drN ?_ _) | (with_reducible refine Fr.alloc ?_ _) | (with_reducible refine Fr.set ?_ ?_ _) | (left; simp; done) | (right; simp; done) | (right; simp; omega))) hF)); replace HD := Lib.hid (HD.out.fr0 (Fr.trans (by repeat' (first | (with_reducible exact Fr.refl _ _) | (with_reducible refine Fr.drew ?_) | (with_reducible refine Fr.drN ?_ _) | (with_reducible refine Fr.alloc ?_ _) | (with_reducible refine Fr.set ?_ ?_ _) | (left; simp; done) | (right; simp; done) | (right; simp; omega))) hF)); replace HE := Lib.hid (HE.out.fr0 (Fr.trans (by repeat' (first | (with_reducible exact Fr.refl _ _) | (with_reducible refine Fr.drew ?_) | (with_reducible refine Fr.drN ?_ _) | (with_reducible refine Fr.alloc ?_ _) | (with_reducible refine Fr.set ?_ ?_ _) | (left; simp; done) | (right; simp; done) | (right; simp; omega))) hF)); replace HSA := Lib.hid (Fr.blk (Fr.trans (by repeat' (first | (with_reducible exact Fr.refl _ _) | (with_reducible refine Fr.drew ?_) | (with_reducible refine Fr.drN ?_ _) | (with_reducible refine Fr.alloc ?_ _) | (with_reducible refine Fr.set ?_ ?_ _) | (left; simp; done) | (right; simp; done) | (right; simp; omega))) hF) HSA.out (by simp)); replace HSB := Lib.hid (Fr.blk (Fr.trans (by repeat' (first | (with_reducible exact Fr.refl _ _) | (with_reducible refine Fr.drew ?_) | (with_reducible refine Fr.drN ?_ _) | (with_reducible refine Fr.alloc ?_ _) | (with_reducible refine Fr.set ?_ ?_ _) | (left; simp; done) | (right; simp; done) | (right; simp; omega))) hF) HSB.out (by simp)); replace HF := Lib.hid (HF.out.trans (Fr.trans (by repeat' (first | (with_reducible exact Fr.refl _ _) | (with_reducible refine Fr.drew ?_) | (with_reducible refine Fr.drN ?_ _) | (with_reducible refine Fr.alloc ?_ _) | (with_reducible refine Fr.set ?_ ?_ _) | (left; simp; done) | (right; simp; done) | (right; simp; omega))) hF)); clear hF st1 st2 st3 st4; have st1 := HSA.out.cell; have st2 := HSA.out.lt; have st3 := HSB.out.cell; have st4 := HSB.out.lt)
  go_wp2_with fail
  refine hK.out _ _ ?_ (fun hHeld => ?_)
  · ((try dsimp only); refine ⟨?_, ?_, ?_, ?_, ?_, ?_⟩ <;> (simp [go_sem, st1, st3]; done))
  clear hK K
  try simp only [Act.put, List.setIfInBounds_toArray, List.set_cons_zero, List.set_cons_succ]
  refine wpAnyH_take (i := 63) (v := ?v63) (by (simp only [List.getElem?_toArray, List.getElem?_cons_succ, List.getElem?_cons_zero]); exact rfl) (by kernel_rfl) (by kernel_rfl) (by kernel_rfl) (fun _ _ _ h => by exact h) (Or.inl ⟨by rfl, ?hy63⟩) (by assumption) ?rest63
  case hy63 =>
    intro w hSw
    try dsimp only at hSw
    go_simp
    try with_reducible rfl
  try simp only [Act.put, List.setIfInBounds_toArray, List.set_cons_zero, List.set_cons_succ]
  refine wpAnyH_take (i := 64) (v := ?v64) (by (simp only [List.getElem?_toArray, List.getElem?_cons_succ, List.getElem?_cons_zero]); exact rfl) (by kernel_rfl) (by kernel_rfl) (by kernel_rfl) (fun _ _ _ h => by exact h) (Or.inl ⟨by rfl, ?hy64⟩) (by assumption) ?rest64
  case hy64 =>
    intro w hSw
    try dsimp only at hSw
    go_simp
    try with_reducible rfl
  try simp only [Act.put, List.setIfInBounds_toArray, List.set_cons_zero, List.set_cons_succ]
  refine wpAnyH_take (i := 65) (v := ?v65) (by (simp only [List.getElem?_toArray, List.getElem?_cons_succ, List.getElem?_cons_zero]); exact rfl) (by kernel_rfl) (by kernel_rfl) (by kernel_rfl) (fun _ _ _ h => by exact h) (Or.inl ⟨by rfl, ?hy65⟩) (by assumption) ?rest65
  case hy65 =>
    intro w hSw
    try dsimp only at hSw
    go_simp
    try with_reducible rfl
  try simp only [Act.put, List.setIfInBounds_toArray, List.set_cons_zero, List.set_cons_succ]
  refine wpAnyH_take (i := 66) (v := ?v66) (by (simp only [List.getElem?_toArray, List.getElem?_cons_succ, List.getElem?_cons_zero]); exact rfl) (by kernel_rfl) (by kernel_rfl) (by kernel_rfl) (fun _ _ _ h => by exact h) (Or.inl ⟨by rfl, ?hy66⟩) (by assumption) ?rest66
  case hy66 =>
    intro w hSw
    try dsimp only at hSw
    go_simp
    try with_reducible rfl
  try simp only [Act.put, List.setIfInBounds_toArray, List.set_cons_zero, List.set_cons_succ]
  refine wpAnyH_ready (rs := [67]) (by kernel_rfl) (by simp) ?_
  refine AllReadyH.cons (by (simp only [List.getElem?_toArray, List.getElem?_cons_succ, List.getElem?_cons_zero]); exact rfl) (fun K hK => ?_) AllReadyH.nil
  clear hHeld
  go_simp
  (go_at_call 18; (with_reducible refine (sames_to (l := a) ?_ ?_).mono ?_); (focus (exact HX.out.fr0 (by repeat' (first | (with_reducible exact Fr.refl _ _) | (with_reducible refine Fr.drew ?_) | (with_reducible refine Fr.drN ?_ _) | (with_reducible refine Fr.alloc ?_ _) | (with_reducible refine Fr.set ?_ ?_ _) | (left; simp; done) | (right; simp; done) | (right; simp; omega))))); (focus (exact HA.out.fr0 (by repeat' (first | (with_reducible exact Fr.refl _ _) | (with_reducible refine Fr.drew ?_) | (with_reducible refine Fr.drN ?_ _) | (with_reducible refine Fr.alloc ?_ _) | (with_reducible refine Fr.set ?_ ?_ _) | (left; simp; done) | (right; simp; done) | (right; simp; omega))))); rintro e wz ⟨rfl, hF⟩; replace HA := Lib.hid (HA.out.fr0 (Fr.trans (by repeat' (first | (with_reducible exact Fr.refl _ _) | (with_reducible refine Fr.drew ?_) | (with_reducible refine Fr.drN ?_ _) | (with_reducible refine Fr.alloc ?_ _) | (with_reducible refine Fr.set ?_ ?_ _) | (left; simp; done) | (right; simp; done) | (right; simp; omega))) hF)); replace HB := Lib.hid (HB.out.fr0 (Fr.trans (by repeat' (first | (with_reducible exact Fr.refl _ _) | (with_reducible refine Fr.drew ?_) | (with_reducible refine Fr.drN ?_ _) | (with_reducible refine Fr.alloc ?_ _) | (with_reducible refine Fr.set ?_ ?_ _) | (left; simp; done) | (right; simp; done) | (right; simp; omega))) hF)); replace HX := Lib.hid (HX.out.fr0 (Fr.trans (by repeat' (first | (with_reducible exact Fr.refl _ _) | (with_reducible refine Fr.drew ?_) | (with_reducible refine Fr.drN ?_ _) | (with_reducible refine Fr.alloc ?_ _) | (with_reducible refine Fr.set ?_ ?_ _) | (left; simp; done) | (right; simp; done) | (right; simp; omega))) hF)); replace HY := Lib.hid (HY.out.fr0 (Fr.trans (by repeat' (first | (with_reducible exact Fr.refl _ _) | (with_reducible refine Fr.drew ?_) | (with_reducible refine Fr.drN ?_ _) | (with_reducible refine Fr.alloc ?_ _) | (with_reducible refine Fr.set ?_ ?_ _) | (left; simp; done) | (right; simp; done) | (right; simp; omega))) hF)); replace HM := Lib.hid (HM.out.fr0 (Fr.trans (by repeat' (first | (with_reducible exact Fr.refl _ _) | (with_reducible refine Fr.drew ?_) | (with_reducible refine Fr.drN ?_ _) | (with_reducible refine Fr.alloc ?_ _) | (with_reducible refine Fr.set ?_ ?_ _) | (left; simp; done) | (right; simp; done) | (right; simp; omega))) hF)); replace HN := Lib.hid (HN.out.fr0 (Fr.trans (by repeat' (first | (with_reducible exact Fr.refl _ _) | (with_reducible refine Fr.drew ?_) | (with_reducible refine Fr.drN ?_ _) | (with_reducible refine Fr.alloc ?_ _) | (with_reducible refine Fr.set ?_ ?_ _) | (left; simp; done) | (right; simp; done) | (right; simp; omega))) hF)); replace HD := Lib.hid (HD.out.fr0 (Fr.trans (by repeat' (first | (with_reducible exact Fr.refl _ _) | (with_reducible refine Fr.drew ?_) | (with_reducible refine Fr.drN ?_ _) | (with_reducible refine Fr.alloc ?_ _) | (with_reducible refine Fr.set ?_ ?_ _) | (left; simp; done) | (right; simp; done) | (right; simp; omega))) hF)); replace HE := Lib.hid (HE.out.fr0 (Fr.trans (by repeat' (first | (with_reducible exact Fr.refl _ _) | (with_reducible refine Fr.drew ?_) | (with_reducible refine Fr.drN ?_ _) | (with_reducible refine Fr.alloc ?_ _) | (with_reducible refine Fr.set ?_ ?_ _) | (left; simp; done) | (right; simp; done) | (right; simp; omega))) hF)); replace HSA := Lib.hid (Fr.blk (Fr.trans (by repeat' (first | (with_reducible exact Fr.refl _ _) | (with_reducible refine Fr.drew ?_) | (with_reducible refine Fr.drN ?_ _) | (with_reducible refine Fr.alloc ?_ _) | (with_reducible refine Fr.set ?_ ?_ _) | (left; simp; done) | (right; simp; done) | (right; simp; omega))) hF) HSA.out (by simp)); replace HSB := Lib.hid (Fr.blk (Fr.trans (by repeat' (first | (with_reducible exact Fr.refl _ _) | (with_reducible refine Fr.drew ?_) | (with_reducible refine Fr.drN ?_ _) | (with_reducible refine Fr.alloc ?_ _) | (with_reducible refine Fr.set ?_ ?_ _) | (left; simp; done) | (right; simp; done) | (right; simp; omega))) hF) HSB.out (by simp)); replace HF := Lib.hid (HF.out.trans (Fr.trans (by repeat' (first | (with_reducible exact Fr.refl _ _) | (with_reducible refine Fr.drew ?_) | (with_reducible refine Fr.drN ?_ _) | (with_reducible refine Fr.alloc ?_ _) | (with_reducible refine Fr.set ?_ ?_ _) | (left; simp; done) | (right; simp; done) | (right; simp; omega))) hF)); clear hF st1 st2 st3 st4; have st1 := HSA.out.cell; have st2 := HSA.out.lt; have st3 := HSB.out.cell; have st4 := HSB.out.lt)
  go_wp2_with fail
  refine hK.out _ _ ?_ (fun hHeld => ?_)
  · ((try dsimp only); refine ⟨?_, ?_, ?_, ?_, ?_, ?_⟩ <;> (simp [go_sem, st1, st3]; done))
  clear hK K
  try simp only [Act.put, List.setIfInBounds_toArray, List.set_cons_zero, List.set_cons_succ]
  refine wpAnyH_take (i := 68) (v := ?v68) (by (simp only [List.getElem?_toArray, List.getElem?_cons_succ, List.getElem?_cons_zero]); exact rfl) (by kernel_rfl) (by kernel_rfl) (by kernel_rfl) (fun _ _ _ h => by exact h) (Or.inl ⟨by rfl, ?hy68⟩) (by assumption) ?rest68
  case hy68 =>
    intro w hSw
    try dsimp only at hSw
    go_simp
    try with_reducible rfl
  try simp only [Act.put, List.setIfInBounds_toArray, List.set_cons_zero, List.set_cons_succ]
  refine wpAnyH_take (i := 69) (v := ?v69) (by (simp only [List.getElem?_toArray, List.getElem?_cons_succ, List.getElem?_cons_zero]); exact rfl) (by kernel_rfl) (by kernel_rfl) (by kernel_rfl) (fun _ _ _ h => by exact h) (Or.inl ⟨by rfl, ?hy69⟩) (by assumption) ?rest69
  case hy69 =>
    intro w hSw
    try dsimp only at hSw
    go_simp
    try with_reducible rfl
  try simp only [Act.put, List.setIfInBounds_toArray, List.set_cons_zero, List.set_cons_succ]
  refine wpAnyH_take (i := 70) (v := ?v70) (by (simp only [List.getElem?_toArray, List.getElem?_cons_succ, List.getElem?_cons_zero]); exact rfl) (by kernel_rfl) (by kernel_rfl) (by kernel_rfl) (fun _ _ _ h => by exact h) (Or.inl ⟨by rfl, ?hy70⟩) (by assumption) ?rest70
  case hy70 =>
    intro w hSw
    try dsimp only at hSw
    go_simp
    try with_reducible rfl
  try simp only [Act.put, List.setIfInBounds_toArray, List.set_cons_zero, List.set_cons_succ]
  refine wpAnyH_take (i := 71) (v := ?v71) (by (simp only [List.getElem?_toArray, List.getElem?_cons_succ, List.getElem?_cons_zero]); exact rfl) (by kernel_rfl) (by kernel_rfl) (by kernel_rfl) (fun _ _ _ h => by exact h) (Or.inl ⟨by rfl, ?hy71⟩) (by assumption) ?rest71
  case hy71 =>
    intro w hSw
    try dsimp only at hSw
    go_simp
    try with_reducible rfl
  try simp only [Act.put, List.setIfInBounds_toArray, List.set_cons_zero, List.set_cons_succ]
  refine wpAnyH_ready (rs := [72]) (by kernel_rfl) (by simp) ?_
  refine AllReadyH.cons (by (simp only [List.getElem?_toArray, List.getElem?_cons_succ, List.getElem?_cons_zero]); exact rfl) (fun K hK => ?_) AllReadyH.nil
  clear hHeld
  go_simp
  (go_at_call 18; (with_reducible refine (sames_to (l := b) ?_ ?_).mono ?_); (focus (exact HY.out.fr0 (by repeat' (first | (with_reducible exact Fr.refl _ _) | (with_reducible refine Fr.drew ?_) | (with_reducible refine Fr.drN ?_ _) | (with_reducible refine Fr.alloc ?_ _) | (with_reducible refine Fr.set ?_ ?_ _) | (left; simp; done) | (right; simp; done) | (right; simp; omega))))); (focus (exact HB.out.fr0 (by repeat' (first | (with_reducible exact Fr.refl _ _) | (with_reducible refine Fr.drew ?_) | (with_reducible refine Fr.drN ?_ _) | (with_reducible refine Fr.alloc ?_ _) | (with_reducible refine Fr.set ?_ ?_ _) | (left; simp; done) | (right; simp; done) | (right; simp; omega))))); rintro e wz ⟨rfl, hF⟩; replace HA := Lib.hid (HA.out.fr0 (Fr.trans (by repeat' (first | (with_reducible exact Fr.refl _ _) | (with_reducible refine Fr.drew ?_) | (with_reducible refine Fr.drN ?_ _) | (with_reducible refine Fr.alloc ?_ _) | (with_reducible refine Fr.set ?_ ?_ _) | (left; simp; done) | (right; simp; done) | (right; simp; omega))) hF)); replace HB := Lib.hid (HB.out.fr0 (Fr.trans (by repeat' (first | (with_reducible exact Fr.refl _ _) | (with_reducible refine Fr.drew ?_) | (with_reducible refine Fr.drN ?_ _) | (with_reducible refine Fr.alloc ?_ _) | (with_reducible refine Fr.set ?_ ?_ _) | (left; simp; done) | (right; simp; done) | (right; simp; omega))) hF)); replace HX := Lib.hid (HX.out.fr0 (Fr.trans (by repeat' (first | (with_reducible exact Fr.refl _ _) | (with_reducible refine Fr.drew ?_) | (with_reducible refine Fr.drN ?_ _) | (with_reducible refine Fr.alloc ?_ _) | (with_reducible refine Fr.set ?_ ?_ _) | (left; simp; done) | (right; simp; done) | (right; simp; omega))) hF)); replace HY := Lib.hid (HY.out.fr0 (Fr.trans (by repeat' (first | (with_reducible exact Fr.refl _ _) | (with_reducible refine Fr.drew ?_) | (with_reducible refine Fr.drN ?_ _) | (with_reducible refine Fr.alloc ?_ _) | (with_reducible refine Fr.set ?_ ?_ _) | (left; simp; done) | (right; simp; done) | (right; simp; omega))) hF)); replace HM := Lib.hid (HM.out.fr0 (Fr.trans (by repeat' (first | (with_reducible exact Fr.refl _ _) | (with_reducible refine Fr.drew ?_) | (with_reducible refine Fr.drN ?_ _) | (with_reducible refine Fr.alloc ?_ _) | (with_reducible refine Fr.set ?_ ?_ _) | (left; simp; done) | (right; simp; done) | (right; simp; omega))) hF)); replace HN := Lib.hid (HN.out.fr0 (Fr.trans (by repeat' (first | (with_reducible exact Fr.refl _ _) | (with_reducible refine Fr.drew ?_) | (with_reducible refine Fr.drN ?_ _) | (with_reducible refine Fr.alloc ?_ _) | (with_reducible refine Fr.set ?_ ?_ _) | (left; simp; done) | (right; simp; done) | (right; simp; omega))) hF)); replace HD := Lib.hid (HD.out.fr0 (Fr.trans (by repeat' (first | (with_reducible exact Fr.refl _ _) | (with_reducible refine Fr.drew ?_) | (with_reducible refine Fr.drN ?_ _) | (with_reducible refine Fr.alloc ?_ _) | (with_reducible refine Fr.set ?_ ?_ _) | (left; simp; done) | (right; simp; done) | (right; simp; omega))) hF)); replace HE := Lib.hid (HE.out.fr0 (Fr.trans (by repeat' (first | (with_reducible exact Fr.refl _ _) | (with_reducible refine Fr.drew ?_) | (with_reducible refine Fr.drN ?_ _) | (with_reducible refine Fr.alloc ?_ _) | (with_reducible refine Fr.set ?_ ?_ _) | (left; simp; done) | (right; simp; done) | (right; simp; omega))) hF)); replace HSA := Lib.hid (Fr.blk (Fr.trans (by repeat' (first | (with_reducible exact Fr.refl _ _) | (with_reducible refine Fr.drew ?_) | (with_reducible refine Fr.drN ?_ _) | (with_reducible refine Fr.alloc ?_ _) | (with_reducible refine Fr.set ?_ ?_ _) | (left; simp; done) | (right; simp; done) | (right; simp; omega))) hF) HSA.out (by simp)); replace HSB := Lib.hid (Fr.blk (Fr.trans (by repeat' (first | (with_reducible exact Fr.refl _ _) | (with_reducible refine Fr.drew ?_) | (with_reducible refine Fr.drN ?_ _) | (with_reducible refine Fr.alloc ?_ _) | (with_reducible refine Fr.set ?_ ?_ _) | (left; simp; done) | (right; simp; done) | (right; simp; omega))) hF) HSB.out (by simp)); replace HF := Lib.hid (HF.out.trans (Fr.trans (by repeat' (first | (with_reducible exact Fr.refl _ _) | (with_reducible refine Fr.drew ?_) | (with_reducible refine Fr.drN ?_ _) | (with_reducible refine Fr.alloc ?_ _) | (with_reducible refine Fr.set ?_ ?_ _) | (left; simp; done) | (right; simp; done) | (right; simp; omega))) hF)); clear hF st1 st2 st3 st4; have st1 := HSA.out.cell; have st2 := HSA.out.lt; have st3 := HSB.out.cell; have st4 := HSB.out.lt)
  go_wp2_with fail
  refine hK.out _ _ ?_ (fun hHeld => ?_)
  · ((try dsimp only); refine ⟨?_, ?_, ?_, ?_, ?_, ?_⟩ <;> (simp [go_sem, st1, st3]; done))
  clear hK K
  try simp only [Act.put, List.setIfInBounds_toArray, List.set_cons_zero, List.set_cons_succ]
  refine wpAnyH_take (i := 73) (v := ?v73) (by (simp only [List.getElem?_toArray, List.getElem?_cons_succ, List.getElem?_cons_zero]); exact rfl) (by kernel_rfl) (by kernel_rfl) (by kernel_rfl) (fun _ _ _ h => by exact h) (Or.inl ⟨by rfl, ?hy73⟩) (by assumption) ?rest73
  case hy73 =>
    intro w hSw
    try dsimp only at hSw
    go_simp
    try with_reducible rfl
  try simp only [Act.put, List.setIfInBounds_toArray, List.set_cons_zero, List.set_cons_succ]
  refine wpAnyH_take (i := 74) (v := ?v74) (by (simp only [List.getElem?_toArray, List.getElem?_cons_succ, List.getElem?_cons_zero]); exact rfl) (by kernel_rfl) (by kernel_rfl) (by kernel_rfl) (fun _ _ _ h => by exact h) (Or.inl ⟨by rfl, ?hy74⟩) (by assumption) ?rest74
  case hy74 =>
    intro w hSw
    try dsimp only at hSw
    go_simp
    try with_reducible rfl
  try simp only [Act.put, List.setIfInBounds_toArray, List.set_cons_zero, List.set_cons_succ]
  refine wpAnyH_done (by kernel_rfl) ?_ _
  go_wp2
  go_ret
  exact ⟨rfl, by repeat' (first | (with_reducible exact HF.out) | (with_reducible refine Fr.drew ?_) | (with_reducible refine Fr.drN ?_ _) | (with_reducible refine Fr.alloc ?_ _) | (with_reducible refine Fr.set ?_ ?_ _) | (left; simp; done) | (right; simp; done) | (right; simp; omega))⟩
end Go.Proofs.Ytanbfejhhnhabaa

namespace Go.Proofs.Ytanbfejhhnhabaa
open Go.RowKit Go.Maps Go.Sort
set_option maxRecDepth 100000
set_option linter.unusedVariables false
set_option linter.unusedSimpArgs false
set_option maxHeartbeats 2000000
theorem states_false (va vb : Value) (a b : List Nd) (s t : Sp) (w : World) (ha : RN w va a) (hb : RN w vb b) (aa : Arg a) (ab : Arg b) (la : a.length ≤ 4398046511104) (lb : b.length ≤ 4398046511104) (hs : s.v < 18446744073709551616) (ht : t.v < 18446744073709551616) (hr : rightL a = false) :
    Calls Try.prog 6 #[va, vb, spV s, spV t] w fun e w' => e = .returned (.bool true) ∧ Fr [] w w' := by
  have HA := Lib.hid ha
  have HB := Lib.hid hb
  have Ra := Lib.hid aa
  have Rb := Lib.hid ab
  obtain ⟨m, ym, hm⟩ : ∃ m y, mergeF a b = (m, y) := ⟨_, _, rfl⟩
  obtain ⟨d, yd, hd⟩ : ∃ m y, deltaF a b = (m, y) := ⟨_, _, rfl⟩
  obtain ⟨p, yb, hbl⟩ : ∃ m y, belowF a b = (m, y) := ⟨_, _, rfl⟩
  obtain ⟨q, yv, hv⟩ : ∃ m y, valueF a = (m, y) := ⟨_, _, rfl⟩
  obtain ⟨z, hz⟩ : ∃ z, z = (if laterF s t = true then t else s) := ⟨_, rfl⟩
  have HZ := Lib.hid hz
  have HMq := Lib.hid hm
  have HDq := Lib.hid hd
  have HL := Lib.hid hbl
  have HV := Lib.hid hv
  have HRr := Lib.hid hr
  have HCk := Lib.hid (show chkF a = if false = true then 0 else 230 by unfold chkF; rw [hr])
  have hF : Fr [] w ((w.alloc (.cells #[.int .i64 s.at_, .string s.nm, .float .f64 s.v] 61)).alloc (.cells #[.int .i64 t.at_, .string t.nm, .float .f64 t.v] 61)) := ((Fr.refl _ _).alloc _).alloc _
  have HSA := Lib.hid ((Blk.new w #[.int .i64 s.at_, .string s.nm, .float .f64 s.v] 61).alloc (.cells #[.int .i64 t.at_, .string t.nm, .float .f64 t.v] 61))
  have HSB := Lib.hid (Blk.mk0 (w.alloc (.cells #[.int .i64 s.at_, .string s.nm, .float .f64 s.v] 61)) #[.int .i64 t.at_, .string t.nm, .float .f64 t.v] 61 (w.heap.size + 1) (by simp))
  obtain ⟨a1, a2, ea⟩ := ha.at_
  subst ea
  obtain ⟨b1, b2, eb⟩ := hb.at_
  subst eb
  replace HA := Lib.hid (HA.out.fr0 hF)
  replace HB := Lib.hid (HB.out.fr0 hF)
  have HF := Lib.hid hF
  clear ha hb aa ab hm hd hbl hv hr hz hF
  go_enter Try.func6, Try.ntmps6
  go_wp2_with fail
  go_at_call 23
  refine (copied_to HA.out la).mono ?_
  rintro e w0 ⟨vX, rfl, hS, hF⟩
  replace HA := Lib.hid (HA.out.fr0 hF)
  replace HB := Lib.hid (HB.out.fr0 hF)
  replace HSA := Lib.hid (hF.blk HSA.out (by simp))
  replace HSB := Lib.hid (hF.blk HSB.out (by simp))
  replace HF := Lib.hid (HF.out.trans hF)
  clear hF
  have HX := Lib.hid hS
  obtain ⟨xX, yX, eX⟩ := hS.at_
  subst eX
  clear hS
  go_wp2_with fail
  go_at_call 23
  refine (copied_to HB.out lb).mono ?_
  rintro e w1 ⟨vY, rfl, hS, hF⟩
  replace HA := Lib.hid (HA.out.fr0 hF)
  replace HB := Lib.hid (HB.out.fr0 hF)
  replace HX := Lib.hid (HX.out.fr0 hF)
  replace HSA := Lib.hid (hF.blk HSA.out (by simp))
  replace HSB := Lib.hid (hF.blk HSB.out (by simp))
  replace HF := Lib.hid (HF.out.trans hF)
  clear hF
  have HY := Lib.hid hS
  obtain ⟨xY, yY, eY⟩ := hS.at_
  subst eY
  clear hS
  go_wp2_with fail
  go_at_call 20
  refine (merge2_to (merge_any _ _ a b _ HX.out HY.out Ra.out Rb.out) HMq.out).mono ?_
  rintro e w2 ⟨vM, rfl, hS, hF⟩
  replace HA := Lib.hid (HA.out.fr0 hF)
  replace HB := Lib.hid (HB.out.fr0 hF)
  replace HX := Lib.hid (HX.out.fr0 hF)
  replace HY := Lib.hid (HY.out.fr0 hF)
  replace HSA := Lib.hid (hF.blk HSA.out (by simp))
  replace HSB := Lib.hid (hF.blk HSB.out (by simp))
  replace HF := Lib.hid (HF.out.trans hF)
  clear hF
  have HM := Lib.hid hS
  obtain ⟨xM, yM, eM⟩ := hS.at_
  subst eM
  clear hS
  go_wp2_with fail
  go_at_call 9
  refine (merge2_to (rmerge_any _ _ a b _ HA.out HB.out Ra.out Rb.out) HMq.out).mono ?_
  rintro e w3 ⟨vN, rfl, hS, hF⟩
  replace HA := Lib.hid (HA.out.fr0 hF)
  replace HB := Lib.hid (HB.out.fr0 hF)
  replace HX := Lib.hid (HX.out.fr0 hF)
  replace HY := Lib.hid (HY.out.fr0 hF)
  replace HM := Lib.hid (HM.out.fr0 hF)
  replace HSA := Lib.hid (hF.blk HSA.out (by simp))
  replace HSB := Lib.hid (hF.blk HSB.out (by simp))
  replace HF := Lib.hid (HF.out.trans hF)
  clear hF
  have HN := Lib.hid hS
  obtain ⟨xN, yN, eN⟩ := hS.at_
  subst eN
  clear hS
  go_wp2_with fail
  go_at_call 21
  refine (below2_to (below_any _ _ a b _ HX.out HY.out Ra.out Rb.out) HL.out).mono ?_
  rintro e w4 ⟨rfl, hF⟩
  replace HA := Lib.hid (HA.out.fr0 hF)
  replace HB := Lib.hid (HB.out.fr0 hF)
  replace HX := Lib.hid (HX.out.fr0 hF)
  replace HY := Lib.hid (HY.out.fr0 hF)
  replace HM := Lib.hid (HM.out.fr0 hF)
  replace HN := Lib.hid (HN.out.fr0 hF)
  replace HSA := Lib.hid (hF.blk HSA.out (by simp))
  replace HSB := Lib.hid (hF.blk HSB.out (by simp))
  replace HF := Lib.hid (HF.out.trans hF)
  clear hF
  go_wp2_with fail
  go_at_call 17
  refine (below2_to (rbelow2_any _ _ a b _ HA.out HB.out Ra.out Rb.out) HL.out).mono ?_
  rintro e w5 ⟨rfl, hF⟩
  replace HA := Lib.hid (HA.out.fr0 hF)
  replace HB := Lib.hid (HB.out.fr0 hF)
  replace HX := Lib.hid (HX.out.fr0 hF)
  replace HY := Lib.hid (HY.out.fr0 hF)
  replace HM := Lib.hid (HM.out.fr0 hF)
  replace HN := Lib.hid (HN.out.fr0 hF)
  replace HSA := Lib.hid (hF.blk HSA.out (by simp))
  replace HSB := Lib.hid (hF.blk HSB.out (by simp))
  replace HF := Lib.hid (HF.out.trans hF)
  clear hF
  go_wp2_with fail
  go_at_call 24
  refine (value2_to (cvalue_any _ a _ HX.out Ra.out) HV.out).mono ?_
  rintro e w6 ⟨rfl, hF⟩
  replace HA := Lib.hid (HA.out.fr0 hF)
  replace HB := Lib.hid (HB.out.fr0 hF)
  replace HX := Lib.hid (HX.out.fr0 hF)
  replace HY := Lib.hid (HY.out.fr0 hF)
  replace HM := Lib.hid (HM.out.fr0 hF)
  replace HN := Lib.hid (HN.out.fr0 hF)
  replace HSA := Lib.hid (hF.blk HSA.out (by simp))
  replace HSB := Lib.hid (hF.blk HSB.out (by simp))
  replace HF := Lib.hid (HF.out.trans hF)
  clear hF
  go_wp2_with fail
  go_at_call 16
  refine (value2_to (rvalue_any _ a _ HA.out Ra.out) HV.out).mono ?_
  rintro e w7 ⟨rfl, hF⟩
  replace HA := Lib.hid (HA.out.fr0 hF)
  replace HB := Lib.hid (HB.out.fr0 hF)
  replace HX := Lib.hid (HX.out.fr0 hF)
  replace HY := Lib.hid (HY.out.fr0 hF)
  replace HM := Lib.hid (HM.out.fr0 hF)
  replace HN := Lib.hid (HN.out.fr0 hF)
  replace HSA := Lib.hid (hF.blk HSA.out (by simp))
  replace HSB := Lib.hid (hF.blk HSB.out (by simp))
  replace HF := Lib.hid (HF.out.trans hF)
  clear hF
  go_wp2_with fail
  go_at_call 22
  refine (delta2_to (delta_any _ _ a b _ HX.out HY.out Ra.out Rb.out) HDq.out).mono ?_
  rintro e w8 ⟨vD, rfl, hS, hF⟩
  replace HA := Lib.hid (HA.out.fr0 hF)
  replace HB := Lib.hid (HB.out.fr0 hF)
  replace HX := Lib.hid (HX.out.fr0 hF)
  replace HY := Lib.hid (HY.out.fr0 hF)
  replace HM := Lib.hid (HM.out.fr0 hF)
  replace HN := Lib.hid (HN.out.fr0 hF)
  replace HSA := Lib.hid (hF.blk HSA.out (by simp))
  replace HSB := Lib.hid (hF.blk HSB.out (by simp))
  replace HF := Lib.hid (HF.out.trans hF)
  clear hF
  have HD := Lib.hid hS
  obtain ⟨xD, yD, eD⟩ := hS.at_
  subst eD
  clear hS
  go_wp2_with fail
  go_at_call 25
  refine (delta2_to (rdelta_any _ _ a b _ HA.out HB.out Ra.out Rb.out) HDq.out).mono ?_
  rintro e w9 ⟨vE, rfl, hS, hF⟩
  replace HA := Lib.hid (HA.out.fr0 hF)
  replace HB := Lib.hid (HB.out.fr0 hF)
  replace HX := Lib.hid (HX.out.fr0 hF)
  replace HY := Lib.hid (HY.out.fr0 hF)
  replace HM := Lib.hid (HM.out.fr0 hF)
  replace HN := Lib.hid (HN.out.fr0 hF)
  replace HD := Lib.hid (HD.out.fr0 hF)
  replace HSA := Lib.hid (hF.blk HSA.out (by simp))
  replace HSB := Lib.hid (hF.blk HSB.out (by simp))
  replace HF := Lib.hid (HF.out.trans hF)
  clear hF
  have HE := Lib.hid hS
  obtain ⟨xE, yE, eE⟩ := hS.at_
  subst eE
  clear hS
  go_wp2_with fail
  have HC2 := Lib.hid (show chkF a = 230 from HCk.out)
  go_at_call 26
  refine (chk_to HX.out Ra.out HC2.out).mono ?_
  rintro e w10 ⟨rfl, hF⟩
  replace HA := Lib.hid (HA.out.fr0 hF)
  replace HB := Lib.hid (HB.out.fr0 hF)
  replace HX := Lib.hid (HX.out.fr0 hF)
  replace HY := Lib.hid (HY.out.fr0 hF)
  replace HM := Lib.hid (HM.out.fr0 hF)
  replace HN := Lib.hid (HN.out.fr0 hF)
  replace HD := Lib.hid (HD.out.fr0 hF)
  replace HE := Lib.hid (HE.out.fr0 hF)
  replace HSA := Lib.hid (hF.blk HSA.out (by simp))
  replace HSB := Lib.hid (hF.blk HSB.out (by simp))
  replace HF := Lib.hid (HF.out.trans hF)
  clear hF
  go_wp2_with fail
  have st1 := HSA.out.cell
  have st2 := HSA.out.lt
  have st3 := HSB.out.cell
  have st4 := HSB.out.lt
  simp only [List.append_eq, List.cons_append, List.nil_append]
  first | (go_region_held3 (fun w' => w'.cell? ⟨w.heap.size, 0, none⟩ = some (.int .i64 s.at_) ∧ w'.cell? ⟨w.heap.size, 1, none⟩ = some (.string s.nm) ∧ w'.cell? ⟨w.heap.size, 2, none⟩ = some (.float .f64 s.v) ∧ w'.cell? ⟨w.heap.size + 1, 0, none⟩ = some (.int .i64 t.at_) ∧ w'.cell? ⟨w.heap.size + 1, 1, none⟩ = some (.string t.nm) ∧ w'.cell? ⟨w.heap.size + 1, 2, none⟩ = some (.float .f64 t.v)) (first | ((try dsimp only); refine ⟨?_, ?_, ?_, ?_, ?_, ?_⟩ <;> (simp [go_sem, st1, st3]; done)) | (simp [go_sem, st1, st3]; done)) ((first | (go_at_call 8; (with_reducible refine (lives_any _).mono ?_); rintro e wz ⟨rfl, hF⟩; replace HA := Lib.hid (HA.out.fr0 (Fr.trans (by repeat' (first | (with_reducible exact Fr.refl _ _) | (with_reducible refine Fr.drew ?_) | (with_reducible refine Fr.drN ?_ _) | (with_reducible refine Fr.alloc ?_ _) | (with_reducible refine Fr.set ?_ ?_ _) | (left; simp; done) | (right; simp; done) | (right; simp; omega))) hF)); replace HB := Lib.hid (HB.out.fr0 (Fr.trans (by repeat' (first | (with_reducible exact Fr.refl _ _) | (with_reducible refine Fr.drew ?_) | (with_reducible refine Fr.drN ?_ _) | (with_reducible refine Fr.alloc ?_ _) | (with_reducible refine Fr.set ?_ ?_ _) | (left; simp; done) | (right; simp; done) | (right; simp; omega))) hF)); replace HX := Lib.hid (HX.out.fr0 (Fr.trans (by repeat' (first | (with_reducible exact Fr.refl _ _) | (with_reducible refine Fr.drew ?_) | (with_reducible refine Fr.drN ?_ _) | (with_reducible refine Fr.alloc ?_ _) | (with_reducible refine Fr.set ?_ ?_ _) | (left; simp; done) | (right; simp; done) | (right; simp; omega))) hF)); replace HY := Lib.hid (HY.out.fr0 (Fr.trans (by repeat' (first | (with_reducible exact Fr.refl _ _) | (with_reducible refine Fr.drew ?_) | (with_reducible refine Fr.drN ?_ _) | (with_reducible refine Fr.alloc ?_ _) | (with_reducible refine Fr.set ?_ ?_ _) | (left; simp; done) | (right; simp; done) | (right; simp; omega))) hF)); replace HM := Lib.hid (HM.out.fr0 (Fr.trans (by repeat' (first | (with_reducible exact Fr.refl _ _) | (with_reducible refine Fr.drew ?_) | (with_reducible refine Fr.drN ?_ _) | (with_reducible refine Fr.alloc ?_ _) | (with_reducible refine Fr.set ?_ ?_ _) | (left; simp; done) | (right; simp; done) | (right; simp; omega))) hF)); replace HN := Lib.hid (HN.out.fr0 (Fr.trans (by repeat' (first | (with_reducible exact Fr.refl _ _) | (with_reducible refine Fr.drew ?_) | (with_reducible refine Fr.drN ?_ _) | (with_reducible refine Fr.alloc ?_ _) | (with_reducible refine Fr.set ?_ ?_ _) | (left; simp; done) | (right; simp; done) | (right; simp; omega))) hF)); replace HD := Lib.hid (HD.out.fr0 (Fr.trans (by repeat' (first | (with_reducible exact Fr.refl _ _) | (with_reducible refine Fr.drew ?_) | (with_reducible refine Fr.drN ?_ _) | (with_reducible refine Fr.alloc ?_ _) | (with_reducible refine Fr.set ?_ ?_ _) | (left; simp; done) | (right; simp; done) | (right; simp; omega))) hF)); replace HE := Lib.hid (HE.out.fr0 (Fr.trans (by repeat' (first | (with_reducible exact Fr.refl _ _) | (with_reducible refine Fr.drew ?_) | (with_reducible refine Fr.drN ?_ _) | (with_reducible refine Fr.alloc ?_ _) | (with_reducible refine Fr.set ?_ ?_ _) | (left; simp; done) | (right; simp; done) | (right; simp; omega))) hF)); replace HSA := Lib.hid (Fr.blk (Fr.trans (by repeat' (first | (with_reducible exact Fr.refl _ _) | (with_reducible refine Fr.drew ?_) | (with_reducible refine Fr.drN ?_ _) | (with_reducible refine Fr.alloc ?_ _) | (with_reducible refine Fr.set ?_ ?_ _) | (left; simp; done) | (right; simp; done) | (right; simp; omega))) hF) HSA.out (by simp)); replace HSB := Lib.hid (Fr.blk (Fr.trans (by repeat' (first | (with_reducible exact Fr.refl _ _) | (with_reducible refine Fr.drew ?_) | (with_reducible refine Fr.drN ?_ _) | (with_reducible refine Fr.alloc ?_ _) | (with_reducible refine Fr.set ?_ ?_ _) | (left; simp; done) | (right; simp; done) | (right; simp; omega))) hF) HSB.out (by simp)); replace HF := Lib.hid (HF.out.trans (Fr.trans (by repeat' (first | (with_reducible exact Fr.refl _ _) | (with_reducible refine Fr.drew ?_) | (with_reducible refine Fr.drN ?_ _) | (with_reducible refine Fr.alloc ?_ _) | (with_reducible refine Fr.set ?_ ?_ _) | (left; simp; done) | (right; simp; done) | (right; simp; omega))) hF)); clear hF st1 st2 st3 st4; have st1 := HSA.out.cell; have st2 := HSA.out.lt; have st3 := HSB.out.cell; have st4 := HSB.out.lt) | (go_at_call 18; (with_reducible refine (sames_to (l := m) ?_ ?_).mono ?_); (focus (exact HM.out.fr0 (by repeat' (first | (with_reducible exact Fr.refl _ _) | (with_reducible refine Fr.drew ?_) | (with_reducible refine Fr.drN ?_ _) | (with_reducible refine Fr.alloc ?_ _) | (with_reducible refine Fr.set ?_ ?_ _) | (left; simp; done) | (right; simp; done) | (right; simp; omega))))); (focus (exact HN.out.fr0 (by repeat' (first | (with_reducible exact Fr.refl _ _) | (with_reducible refine Fr.drew ?_) | (with_reducible refine Fr.drN ?_ _) | (with_reducible refine Fr.alloc ?_ _) | (with_reducible refine Fr.set ?_ ?_ _) | (left; simp; done) | (right; simp; done) | (right; simp; omega))))); rintro e wz ⟨rfl, hF⟩; replace HA := Lib.hid (HA.out.fr0 (Fr.trans (by repeat' (first | (with_reducible exact Fr.refl _ _) | (with_reducible refine Fr.drew ?_) | (with_reducible refine Fr.drN ?_ _) | (with_reducible refine Fr.alloc ?_ _) | (with_reducible refine Fr.set ?_ ?_ _) | (left; simp; done) | (right; simp; done) | (right; simp; omega))) hF)); replace HB := Lib.hid (HB.out.fr0 (Fr.trans (by repeat' (first | (with_reducible exact Fr.refl _ _) | (with_reducible refine Fr.drew ?_) | (with_reducible refine Fr.drN ?_ _) | (with_reducible refine Fr.alloc ?_ _) | (with_reducible refine Fr.set ?_ ?_ _) | (left; simp; done) | (right; simp; done) | (right; simp; omega))) hF)); replace HX := Lib.hid (HX.out.fr0 (Fr.trans (by repeat' (first | (with_reducible exact Fr.refl _ _) | (with_reducible refine Fr.drew ?_) | (with_reducible refine Fr.drN ?_ _) | (with_reducible refine Fr.alloc ?_ _) | (with_reducible refine Fr.set ?_ ?_ _) | (left; simp; done) | (right; simp; done) | (right; simp; omega))) hF)); replace HY := Lib.hid (HY.out.fr0 (Fr.trans (by repeat' (first | (with_reducible exact Fr.refl _ _) | (with_reducible refine Fr.drew ?_) | (with_reducible refine Fr.drN ?_ _) | (with_reducible refine Fr.alloc ?_ _) | (with_reducible refine Fr.set ?_ ?_ _) | (left; simp; done) | (right; simp; done) | (right; simp; omega))) hF)); replace HM := Lib.hid (HM.out.fr0 (Fr.trans (by repeat' (first | (with_reducible exact Fr.refl _ _) | (with_reducible refine Fr.drew ?_) | (with_reducible refine Fr.drN ?_ _) | (with_reducible refine Fr.alloc ?_ _) | (with_reducible refine Fr.set ?_ ?_ _) | (left; simp; done) | (right; simp; done) | (right; simp; omega))) hF)); replace HN := Lib.hid (HN.out.fr0 (Fr.trans (by repeat' (first | (with_reducible exact Fr.refl _ _) | (with_reducible refine Fr.drew ?_) | (with_reducible refine Fr.drN ?_ _) | (with_reducible refine Fr.alloc ?_ _) | (with_reducible refine Fr.set ?_ ?_ _) | (left; simp; done) | (right; simp; done) | (right; simp; omega))) hF)); replace HD := Lib.hid (HD.out.fr0 (Fr.trans (by repeat' (first | (with_reducible exact Fr.refl _ _) | (with_reducible refine Fr.drew ?_) | (with_reducible refine Fr.drN ?_ _) | (with_reducible refine Fr.alloc ?_ _) | (with_reducible refine Fr.set ?_ ?_ _) | (left; simp; done) | (right; simp; done) | (right; simp; omega))) hF)); replace HE := Lib.hid (HE.out.fr0 (Fr.trans (by repeat' (first | (with_reducible exact Fr.refl _ _) | (with_reducible refine Fr.drew ?_) | (with_reducible refine Fr.drN ?_ _) | (with_reducible refine Fr.alloc ?_ _) | (with_reducible refine Fr.set ?_ ?_ _) | (left; simp; done) | (right; simp; done) | (right; simp; omega))) hF)); replace HSA := Lib.hid (Fr.blk (Fr.trans (by repeat' (first | (with_reducible exact Fr.refl _ _) | (with_reducible refine Fr.drew ?_) | (with_reducible refine Fr.drN ?_ _) | (with_reducible refine Fr.alloc ?_ _) | (with_reducible refine Fr.set ?_ ?_ _) | (left; simp; done) | (right; simp; done) | (right; simp; omega))) hF) HSA.out (by simp)); replace HSB := Lib.hid (Fr.blk (Fr.trans (by repeat' (first | (with_reducible exact Fr.refl _ _) | (with_reducible refine Fr.drew ?_) | (with_reducible refine Fr.drN ?_ _) | (with_reducible refine Fr.alloc ?_ _) | (with_reducible refine Fr.set ?_ ?_ _) | (left; simp; done) | (right; simp; done) | (right; simp; omega))) hF) HSB.out (by simp)); replace HF := Lib.hid (HF.out.trans (Fr.trans (by repeat' (first | (with_reducible exact Fr.refl _ _) | (with_reducible refine Fr.drew ?_) | (with_reducible refine Fr.drN ?_ _) | (with_reducible refine Fr.alloc ?_ _) | (with_reducible refine Fr.set ?_ ?_ _) | (left; simp; done) | (right; simp; done) | (right; simp; omega))) hF)); clear hF st1 st2 st3 st4; have st1 := HSA.out.cell; have st2 := HSA.out.lt; have st3 := HSB.out.cell; have st4 := HSB.out.lt) | (go_at_call 18; (with_reducible refine (sames_to (l := d) ?_ ?_).mono ?_); (focus (exact HD.out.fr0 (by repeat' (first | (with_reducible exact Fr.refl _ _) | (with_reducible refine Fr.drew ?_) | (with_reducible refine Fr.drN ?_ _) | (with_reducible refine Fr.alloc ?_ _) | (with_reducible refine Fr.set ?_ ?_ _) | (left; simp; done) | (right; simp; done) | (right; simp; omega))))); (focus (exact HE.out.fr0 (by repeat' (first | (with_reducible exact Fr.refl _ _) | (with_reducible refine Fr.drew ?_) | (with_reducible refine Fr.drN ?_ _) | (with_reducible refine Fr.alloc ?_ _) | (with_reducible refine Fr.set ?_ ?_ _) | (left; simp; done) | (right; simp; done) | (right; simp; omega))))); rintro e wz ⟨rfl, hF⟩; replace HA := Lib.hid (HA.out.fr0 (Fr.trans (by repeat' (first | (with_reducible exact Fr.refl _ _) | (with_reducible refine Fr.drew ?_) | (with_reducible refine Fr.drN ?_ _) | (with_reducible refine Fr.alloc ?_ _) | (with_reducible refine Fr.set ?_ ?_ _) | (left; simp; done) | (right; simp; done) | (right; simp; omega))) hF)); replace HB := Lib.hid (HB.out.fr0 (Fr.trans (by repeat' (first | (with_reducible exact Fr.refl _ _) | (with_reducible refine Fr.drew ?_) | (with_reducible refine Fr.drN ?_ _) | (with_reducible refine Fr.alloc ?_ _) | (with_reducible refine Fr.set ?_ ?_ _) | (left; simp; done) | (right; simp; done) | (right; simp; omega))) hF)); replace HX := Lib.hid (HX.out.fr0 (Fr.trans (by repeat' (first | (with_reducible exact Fr.refl _ _) | (with_reducible refine Fr.drew ?_) | (with_reducible refine Fr.drN ?_ _) | (with_reducible refine Fr.alloc ?_ _) | (with_reducible refine Fr.set ?_ ?_ _) | (left; simp; done) | (right; simp; done) | (right; simp; omega))) hF)); replace HY := Lib.hid (HY.out.fr0 (Fr.trans (by repeat' (first | (with_reducible exact Fr.refl _ _) | (with_reducible refine Fr.drew ?_) | (with_reducible refine Fr.drN ?_ _) | (with_reducible refine Fr.alloc ?_ _) | (with_reducible refine Fr.set ?_ ?_ _) | (left; simp; done) | (right; simp; done) | (right; simp; omega))) hF)); replace HM := Lib.hid (HM.out.fr0 (Fr.trans (by repeat' (first | (with_reducible exact Fr.refl _ _) | (with_reducible refine Fr.drew ?_) | (with_reducible refine Fr.drN ?_ _) | (with_reducible refine Fr.alloc ?_ _) | (with_reducible refine Fr.set ?_ ?_ _) | (left; simp; done) | (right; simp; done) | (right; simp; omega))) hF)); replace HN := Lib.hid (HN.out.fr0 (Fr.trans (by repeat' (first | (with_reducible exact Fr.refl _ _) | (with_reducible refine Fr.drew ?_) | (with_reducible refine Fr.drN ?_ _) | (with_reducible refine Fr.alloc ?_ _) | (with_reducible refine Fr.set ?_ ?_ _) | (left; simp; done) | (right; simp; done) | (right; simp; omega))) hF)); replace HD := Lib.hid (HD.out.fr0 (Fr.trans (by repeat' (first | (with_reducible exact Fr.refl _ _) | (with_reducible refine Fr.drew ?_) | (with_reducible refine Fr.drN ?_ _) | (with_reducible refine Fr.alloc ?_ _) | (with_reducible refine Fr.set ?_ ?_ _) | (left; simp; done) | (right; simp; done) | (right; simp; omega))) hF)); replace HE := Lib.hid (HE.out.fr0 (Fr.trans (by repeat' (first | (with_reducible exact Fr.refl _ _) | (with_reducible refine Fr.drew ?_) | (with_reducible refine Fr.drN ?_ _) | (with_reducible refine Fr.alloc ?_ _) | (with_reducible refine Fr.set ?_ ?_ _) | (left; simp; done) | (right; simp; done) | (right; simp; omega))) hF)); replace HSA := Lib.hid (Fr.blk (Fr.trans (by repeat' (first | (with_reducible exact Fr.refl _ _) | (with_reducible refine Fr.drew ?_) | (with_reducible refine Fr.drN ?_ _) | (with_reducible refine Fr.alloc ?_ _) | (with_reducible refine Fr.set ?_ ?_ _) | (left; simp; done) | (right; simp; done) | (right; simp; omega))) hF) HSA.out (by simp)); replace HSB := Lib.hid (Fr.blk (Fr.trans (by repeat' (first | (with_reducible exact Fr.refl _ _) | (with_reducible refine Fr.drew ?_) | (with_reducible refine Fr.drN ?_ _) | (with_reducible refine Fr.alloc ?_ _) | (with_reducible refine Fr.set ?_ ?_ _) | (left; simp; done) | (right; simp; done) | (right; simp; omega))) hF) HSB.out (by simp)); replace HF := Lib.hid (HF.out.trans (Fr.trans (by repeat' (first | (with_reducible exact Fr.refl _ _) | (with_reducible refine Fr.drew ?_) | (with_reducible refine Fr.drN ?_ _) | (with_reducible refine Fr.alloc ?_ _) | (with_reducible refine Fr.set ?_ ?_ _) | (left; simp; done) | (right; simp; done) | (right; simp; omega))) hF)); clear hF st1 st2 st3 st4; have st1 := HSA.out.cell; have st2 := HSA.out.lt; have st3 := HSB.out.cell; have st4 := HSB.out.lt) | (go_at_call 27; (with_reducible refine (rright_to ?_ Ra.out HRr.out).mono ?_); (focus (exact HA.out.fr0 (by repeat' (first | (with_reducible exact Fr.refl _ _) | (with_reducible refine Fr.drew ?_) | (with_reducible refine Fr.drN ?_ _) | (with_reducible refine Fr.alloc ?_ _) | (with_reducible refine Fr.set ?_ ?_ _) | (left; simp; done) | (right; simp; done) | (right; simp; omega))))); rintro e wz ⟨rfl, hF⟩; replace HA := Lib.hid (HA.out.fr0 (Fr.trans (by repeat' (first | (with_reducible exact Fr.refl _ _) | (with_reducible refine Fr.drew ?_) | (with_reducible refine Fr.drN ?_ _) | (with_reducible refine Fr.alloc ?_ _) | (with_reducible refine Fr.set ?_ ?_ _) | (left; simp; done) | (right; simp; done) | (right; simp; omega))) hF)); replace HB := Lib.hid (HB.out.fr0 (Fr.trans (by repeat' (first | (with_reducible exact Fr.refl _ _) | (with_reducible refine Fr.drew ?_) | (with_reducible refine Fr.drN ?_ _) | (with_reducible refine Fr.alloc ?_ _) | (with_reducible refine Fr.set ?_ ?_ _) | (left; simp; done) | (right; simp; done) | (right; simp; omega))) hF)); replace HX := Lib.hid (HX.out.fr0 (Fr.trans (by repeat' (first | (with_reducible exact Fr.refl _ _) | (with_reducible refine Fr.drew ?_) | (with_reducible refine Fr.drN ?_ _) | (with_reducible refine Fr.alloc ?_ _) | (with_reducible refine Fr.set ?_ ?_ _) | (left; simp; done) | (right; simp; done) | (right; simp; omega))) hF)); replace HY := Lib.hid (HY.out.fr0 (Fr.trans (by repeat' (first | (with_reducible exact Fr.refl _ _) | (with_reducible refine Fr.drew ?_) | (with_reducible refine Fr.drN ?_ _) | (with_reducible refine Fr.alloc ?_ _) | (with_reducible refine Fr.set ?_ ?_ _) | (left; simp; done) | (right; simp; done) | (right; simp; omega))) hF)); replace HM := Lib.hid (HM.out.fr0 (Fr.trans (by repeat' (first | (with_reducible exact Fr.refl _ _) | (with_reducible refine Fr.drew ?_) | (with_reducible refine Fr.drN ?_ _) | (with_reducible refine Fr.alloc ?_ _) | (with_reducible refine Fr.set ?_ ?_ _) | (left; simp; done) | (right; simp; done) | (right; simp; omega))) hF)); replace HN := Lib.hid (HN.out.fr0 (Fr.trans (by repeat' (first | (with_reducible exact Fr.refl _ _) | (with_reducible refine Fr.drew ?_) | (with_reducible refine Fr.drN ?_ _) | (with_reducible refine Fr.alloc ?_ _) | (with_reducible refine Fr.set ?_ ?_ _) | (left; simp; done) | (right; simp; done) | (right; simp; omega))) hF)); replace HD := Lib.hid (HD.out.fr0 (Fr.trans (by repeat' (first | (with_reducible exact Fr.refl _ _) | (with_reducible refine Fr.drew ?_) | (with_reducible refine Fr.drN ?_ _) | (with_reducible refine Fr.alloc ?_ _) | (with_reducible refine Fr.set ?_ ?_ _) | (left; simp; done) | (right; simp; done) | (right; simp; omega))) hF)); replace HE := Lib.hid (HE.out.fr0 (Fr.trans (by repeat' (first | (with_reducible exact Fr.refl _ _) | (with_reducible refine Fr.drew ?_) | (with_reducible refine Fr.drN ?_ _) | (with_reducible refine Fr.alloc ?_ _) | (with_reducible refine Fr.set ?_ ?_ _) | (left; simp; done) | (right; simp; done) | (right; simp; omega))) hF)); replace HSA := Lib.hid (Fr.blk (Fr.trans (by repeat' (first | (with_reducible exact Fr.refl _ _) | (with_reducible refine Fr.drew ?_) | (with_reducible refine Fr.drN ?_ _) | (with_reducible refine Fr.alloc ?_ _) | (with_reducible refine Fr.set ?_ ?_ _) | (left; simp; done) | (right; simp; done) | (right; simp; omega))) hF) HSA.out (by simp)); replace HSB := Lib.hid (Fr.blk (Fr.trans (by repeat' (first | (with_reducible exact Fr.refl _ _) | (with_reducible refine Fr.drew ?_) | (with_reducible refine Fr.drN ?_ _) | (with_reducible refine Fr.alloc ?_ _) | (with_reducible refine Fr.set ?_ ?_ _) | (left; simp; done) | (right; simp; done) | (right; simp; omega))) hF) HSB.out (by simp)); replace HF := Lib.hid (HF.out.trans (Fr.trans (by repeat' (first | (with_reducible exact Fr.refl _ _) | (with_reducible refine Fr.drew ?_) | (with_reducible refine Fr.drN ?_ _) | (with_reducible refine Fr.alloc ?_ _) | (with_reducible refine Fr.set ?_ ?_ _) | (left; simp; done) | (right; simp; done) | (right; simp; omega))) hF)); clear hF st1 st2 st3 st4; have st1 := HSA.out.cell; have st2 := HSA.out.lt; have st3 := HSB.out.cell; have st4 := HSB.out.lt) | (go_at_call 26; (with_reducible refine (chk_to ?_ Ra.out HC2.out).mono ?_); (focus (exact HX.out.fr0 (by repeat' (first | (with_reducible exact Fr.refl _ _) | (with_reducible refine Fr.drew ?_) | (with_reducible refine Fr.drN ?_ _) | (with_reducible refine Fr.alloc ?_ _) | (with_reducible refine Fr.set ?_ ?_ _) | (left; simp; done) | (right; simp; done) | (right; simp; omega))))); rintro e wz ⟨rfl, hF⟩; replace HA := Lib.hid (HA.out.fr0 (Fr.trans (by repeat' (first | (with_reducible exact Fr.refl _ _) | (with_reducible refine Fr.drew ?_) | (with_reducible refine Fr.drN ?_ _) | (with_reducible refine Fr.alloc ?_ _) | (with_reducible refine Fr.set ?_ ?_ _) | (left; simp; done) | (right; simp; done) | (right; simp; omega))) hF)); replace HB := Lib.hid (HB.out.fr0 (Fr.trans (by repeat' (first | (with_reducible exact Fr.refl _ _) | (with_reducible refine Fr.drew ?_) | (with_reducible refine Fr.drN ?_ _) | (with_reducible refine Fr.alloc ?_ _) | (with_reducible refine Fr.set ?_ ?_ _) | (left; simp; done) | (right; simp; done) | (right; simp; omega))) hF)); replace HX := Lib.hid (HX.out.fr0 (Fr.trans (by repeat' (first | (with_reducible exact Fr.refl _ _) | (with_reducible refine Fr.drew ?_) | (with_reducible refine Fr.drN ?_ _) | (with_reducible refine Fr.alloc ?_ _) | (with_reducible refine Fr.set ?_ ?_ _) | (left; simp; done) | (right; simp; done) | (right; simp; omega))) hF)); replace HY := Lib.hid (HY.out.fr0 (Fr.trans (by repeat' (first | (with_reducible exact Fr.refl _ _) | (with_reducible refine Fr.drew ?_) | (with_reducible refine Fr.drN ?_ _) | (with_reducible refine Fr.alloc ?_ _) | (with_reducible refine Fr.set ?_ ?_ _) | (left; simp; done) | (right; simp; done) | (right; simp; omega))) hF)); replace HM := Lib.hid (HM.out.fr0 (Fr.trans (by repeat' (first | (with_reducible exact Fr.refl _ _) | (with_reducible refine Fr.drew ?_) | (with_reducible refine Fr.drN ?_ _) | (with_reducible refine Fr.alloc ?_ _) | (with_reducible refine Fr.set ?_ ?_ _) | (left; simp; done) | (right; simp; done) | (right; simp; omega))) hF)); replace HN := Lib.hid (HN.out.fr0 (Fr.trans (by repeat' (first | (with_reducible exact Fr.refl _ _) | (with_reducible refine Fr.drew ?_) | (with_reducible refine Fr.drN ?_ _) | (with_reducible refine Fr.alloc ?_ _) | (with_reducible refine Fr.set ?_ ?_ _) | (left; simp; done) | (right; simp; done) | (right; simp; omega))) hF)); replace HD := Lib.hid (HD.out.fr0 (Fr.trans (by repeat' (first | (with_reducible exact Fr.refl _ _) | (with_reducible refine Fr.drew ?_) | (with_reducible refine Fr.drN ?_ _) | (with_reducible refine Fr.alloc ?_ _) | (with_reducible refine Fr.set ?_ ?_ _) | (left; simp; done) | (right; simp; done) | (right; simp; omega))) hF)); replace HE := Lib.hid (HE.out.fr0 (Fr.trans (by repeat' (first | (with_reducible exact Fr.refl _ _) | (with_reducible refine Fr.drew ?_) | (with_reducible refine Fr.drN ?_ _) | (with_reducible refine Fr.alloc ?_ _) | (with_reducible refine Fr.set ?_ ?_ _) | (left; simp; done) | (right; simp; done) | (right; simp; omega))) hF)); replace HSA := Lib.hid (Fr.blk (Fr.trans (by repeat' (first | (with_reducible exact Fr.refl _ _) | (with_reducible refine Fr.drew ?_) | (with_reducible refine Fr.drN ?_ _) | (with_reducible refine Fr.alloc ?_ _) | (with_reducible refine Fr.set ?_ ?_ _) | (left; simp; done) | (right; simp; done) | (right; simp; omega))) hF) HSA.out (by simp)); replace HSB := Lib.hid (Fr.blk (Fr.trans (by repeat' (first | (with_reducible exact Fr.refl _ _) | (with_reducible refine Fr.drew ?_) | (with_reducible refine Fr.drN ?_ _) | (with_reducible refine Fr.alloc ?_ _) | (with_reducible refine Fr.set ?_ ?_ _) | (left; simp; done) | (right; simp; done) | (right; simp; omega))) hF) HSB.out (by simp)); replace HF := Lib.hid (HF.out.trans (Fr.trans (by repeat' (first | (with_reducible exact Fr.refl _ _) | (with_reducible refine Fr.drew ?_) | (with_reducible refine Fr.drN ?_ _) | (with_reducible refine Fr.alloc ?_ _) | (with_reducible refine Fr.set ?_ ?_ _) | (left; simp; done) | (right; simp; done) | (right; simp; omega))) hF)); clear hF st1 st2 st3 st4; have st1 := HSA.out.cell; have st2 := HSA.out.lt; have st3 := HSB.out.cell; have st4 := HSB.out.lt) | (go_at_call 29; (with_reducible refine (later_to (later_any s t _ hs ht) HZ.out).mono ?_); rintro e wz ⟨rfl, hF⟩; replace HA := Lib.hid (HA.out.fr0 (Fr.trans (by repeat' (first | (with_reducible exact Fr.refl _ _) | (with_reducible refine Fr.drew ?_) | (with_reducible refine Fr.drN ?_ _) | (with_reducible refine Fr.alloc ?_ _) | (with_reducible refine Fr.set ?_ ?_ _) | (left; simp; done) | (right; simp; done) | (right; simp; omega))) hF)); replace HB := Lib.hid (HB.out.fr0 (Fr.trans (by repeat' (first | (with_reducible exact Fr.refl _ _) | (with_reducible refine Fr.drew ?_) | (with_reducible refine Fr.drN ?_ _) | (with_reducible refine Fr.alloc ?_ _) | (with_reducible refine Fr.set ?_ ?_ _) | (left; simp; done) | (right; simp; done) | (right; simp; omega))) hF)); replace HX := Lib.hid (HX.out.fr0 (Fr.trans (by repeat' (first | (with_reducible exact Fr.refl _ _) | (with_reducible refine Fr.drew ?_) | (with_reducible refine Fr.drN ?_ _) | (with_reducible refine Fr.alloc ?_ _) | (with_reducible refine Fr.set ?_ ?_ _) | (left; simp; done) | (right; simp; done) | (right; simp; omega))) hF)); replace HY := Lib.hid (HY.out.fr0 (Fr.trans (by repeat' (first | (with_reducible exact Fr.refl _ _) | (with_reducible refine Fr.drew ?_) | (with_reducible refine Fr.drN ?_ _) | (with_reducible refine Fr.alloc ?_ _) | (with_reducible refine Fr.set ?_ ?_ _) | (left; simp; done) | (right; simp; done) | (right; simp; omega))) hF)); replace HM := Lib.hid (HM.out.fr0 (Fr.trans (by repeat' (first | (with_reducible exact Fr.refl _ _) | (with_reducible refine Fr.drew ?_) | (with_reducible refine Fr.drN ?_ _) | (with_reducible refine Fr.alloc ?_ _) | (with_reducible refine Fr.set ?_ ?_ _) | (left; simp; done) | (right; simp; done) | (right; simp; omega))) hF)); replace HN := Lib.hid (HN.out.fr0 (Fr.trans (by repeat' (first | (with_reducible exact Fr.refl _ _) | (with_reducible refine Fr.drew ?_) | (with_reducible refine Fr.drN ?_ _) | (with_reducible refine Fr.alloc ?_ _) | (with_reducible refine Fr.set ?_ ?_ _) | (left; simp; done) | (right; simp; done) | (right; simp; omega))) hF)); replace HD := Lib.hid (HD.out.fr0 (Fr.trans (by repeat' (first | (with_reducible exact Fr.refl _ _) | (with_reducible refine Fr.drew ?_) | (with_reducible refine Fr.drN ?_ _) | (with_reducible refine Fr.alloc ?_ _) | (with_reducible refine Fr.set ?_ ?_ _) | (left; simp; done) | (right; simp; done) | (right; simp; omega))) hF)); replace HE := Lib.hid (HE.out.fr0 (Fr.trans (by repeat' (first | (with_reducible exact Fr.refl _ _) | (with_reducible refine Fr.drew ?_) | (with_reducible refine Fr.drN ?_ _) | (with_reducible refine Fr.alloc ?_ _) | (with_reducible refine Fr.set ?_ ?_ _) | (left; simp; done) | (right; simp; done) | (right; simp; omega))) hF)); replace HSA := Lib.hid (Fr.blk (Fr.trans (by repeat' (first | (with_reducible exact Fr.refl _ _) | (with_reducible refine Fr.drew ?_) | (with_reducible refine Fr.drN ?_ _) | (with_reducible refine Fr.alloc ?_ _) | (with_reducible refine Fr.set ?_ ?_ _) | (left; simp; done) | (right; simp; done) | (right; simp; omega))) hF) HSA.out (by simp)); replace HSB := Lib.hid (Fr.blk (Fr.trans (by repeat' (first | (with_reducible exact Fr.refl _ _) | (with_reducible refine Fr.drew ?_) | (with_reducible refine Fr.drN ?_ _) | (with_reducible refine Fr.alloc ?_ _) | (with_reducible refine Fr.set ?_ ?_ _) | (left; simp; done) | (right; simp; done) | (right; simp; omega))) hF) HSB.out (by simp)); replace HF := Lib.hid (HF.out.trans (Fr.trans (by repeat' (first | (with_reducible exact Fr.refl _ _) | (with_reducible refine Fr.drew ?_) | (with_reducible refine Fr.drN ?_ _) | (with_reducible refine Fr.alloc ?_ _) | (with_reducible refine Fr.set ?_ ?_ _) | (left; simp; done) | (right; simp; done) | (right; simp; omega))) hF)); clear hF st1 st2 st3 st4; have st1 := HSA.out.cell; have st2 := HSA.out.lt; have st3 := HSB.out.cell; have st4 := HSB.out.lt) | (go_at_call 30; (with_reducible refine (later_to (rlater_any s t _ hs ht) HZ.out).mono ?_); rintro e wz ⟨rfl, hF⟩; replace HA := Lib.hid (HA.out.fr0 (Fr.trans (by repeat' (first | (with_reducible exact Fr.refl _ _) | (with_reducible refine Fr.drew ?_) | (with_reducible refine Fr.drN ?_ _) | (with_reducible refine Fr.alloc ?_ _) | (with_reducible refine Fr.set ?_ ?_ _) | (left; simp; done) | (right; simp; done) | (right; simp; omega))) hF)); replace HB := Lib.hid (HB.out.fr0 (Fr.trans (by repeat' (first | (with_reducible exact Fr.refl _ _) | (with_reducible refine Fr.drew ?_) | (with_reducible refine Fr.drN ?_ _) | (with_reducible refine Fr.alloc ?_ _) | (with_reducible refine Fr.set ?_ ?_ _) | (left; simp; done) | (right; simp; done) | (right; simp; omega))) hF)); replace HX := Lib.hid (HX.out.fr0 (Fr.trans (by repeat' (first | (with_reducible exact Fr.refl _ _) | (with_reducible refine Fr.drew ?_) | (with_reducible refine Fr.drN ?_ _) | (with_reducible refine Fr.alloc ?_ _) | (with_reducible refine Fr.set ?_ ?_ _) | (left; simp; done) | (right; simp; done) | (right; simp; omega))) hF)); replace HY := Lib.hid (HY.out.fr0 (Fr.trans (by repeat' (first | (with_reducible exact Fr.refl _ _) | (with_reducible refine Fr.drew ?_) | (with_reducible refine Fr.drN ?_ _) | (with_reducible refine Fr.alloc ?_ _) | (with_reducible refine Fr.set ?_ ?_ _) | (left; simp; done) | (right; simp; done) | (right; simp; omega))) hF)); replace HM := Lib.hid (HM.out.fr0 (Fr.trans (by repeat' (first | (with_reducible exact Fr.refl _ _) | (with_reducible refine Fr.drew ?_) | (with_reducible refine Fr.drN ?_ _) | (with_reducible refine Fr.alloc ?_ _) | (with_reducible refine Fr.set ?_ ?_ _) | (left; simp; done) | (right; simp; done) | (right; simp; omega))) hF)); replace HN := Lib.hid (HN.out.fr0 (Fr.trans (by repeat' (first | (with_reducible exact Fr.refl _ _) | (with_reducible refine Fr.drew ?_) | (with_reducible refine Fr.drN ?_ _) | (with_reducible refine Fr.alloc ?_ _) | (with_reducible refine Fr.set ?_ ?_ _) | (left; simp; done) | (right; simp; done) | (right; simp; omega))) hF)); replace HD := Lib.hid (HD.out.fr0 (Fr.trans (by repeat' (first | (with_reducible exact Fr.refl _ _) | (with_reducible refine Fr.drew ?_) | (with_reducible refine Fr.drN ?_ _) | (with_reducible refine Fr.alloc ?_ _) | (with_reducible refine Fr.set ?_ ?_ _) | (left; simp; done) | (right; simp; done) | (right; simp; omega))) hF)); replace HE := Lib.hid (HE.out.fr0 (Fr.trans (by repeat' (first | (with_reducible exact Fr.refl _ _) | (with_reducible refine Fr.drew ?_) | (with_reducible refine Fr.drN ?_ _) | (with_reducible refine Fr.alloc ?_ _) | (with_reducible refine Fr.set ?_ ?_ _) | (left; simp; done) | (right; simp; done) | (right; simp; omega))) hF)); replace HSA := Lib.hid (Fr.blk (Fr.trans (by repeat' (first | (with_reducible exact Fr.refl _ _) | (with_reducible refine Fr.drew ?_) | (with_reducible refine Fr.drN ?_ _) | (with_reducible refine Fr.alloc ?_ _) | (with_reducible refine Fr.set ?_ ?_ _) | (left; simp; done) | (right; simp; done) | (right; simp; omega))) hF) HSA.out (by simp)); replace HSB := Lib.hid (Fr.blk (Fr.trans (by repeat' (first | (with_reducible exact Fr.refl _ _) | (with_reducible refine Fr.drew ?_) | (with_reducible refine Fr.drN ?_ _) | (with_reducible refine Fr.alloc ?_ _) | (with_reducible refine Fr.set ?_ ?_ _) | (left; simp; done) | (right; simp; done) | (right; simp; omega))) hF) HSB.out (by simp)); replace HF := Lib.hid (HF.out.trans (Fr.trans (by repeat' (first | (with_reducible exact Fr.refl _ _) | (with_reducible refine Fr.drew ?_) | (with_reducible refine Fr.drN ?_ _) | (with_reducible refine Fr.alloc ?_ _) | (with_reducible refine Fr.set ?_ ?_ _) | (left; simp; done) | (right; simp; done) | (right; simp; omega))) hF)); clear hF st1 st2 st3 st4; have st1 := HSA.out.cell; have st2 := HSA.out.lt; have st3 := HSB.out.cell; have st4 := HSB.out.lt) | (go_at_call 28; (with_reducible refine (sameStamp_any z _).mono ?_); rintro e wz ⟨rfl, hF⟩; replace HA := Lib.hid (HA.out.fr0 (Fr.trans (by repeat' (first | (with_reducible exact Fr.refl _ _) | (with_reducible refine Fr.drew ?_) | (with_reducible refine Fr.drN ?_ _) | (with_reducible refine Fr.alloc ?_ _) | (with_reducible refine Fr.set ?_ ?_ _) | (left; simp; done) | (right; simp; done) | (right; simp; omega))) hF)); replace HB := Lib.hid (HB.out.fr0 (Fr.trans (by repeat' (first | (with_reducible exact Fr.refl _ _) | (with_reducible refine Fr.drew ?_) | (with_reducible refine Fr.drN ?_ _) | (with_reducible refine Fr.alloc ?_ _) | (with_reducible refine Fr.set ?_ ?_ _) | (left; simp; done) | (right; simp; done) | (right; simp; omega))) hF)); replace HX := Lib.hid (HX.out.fr0 (Fr.trans (by repeat' (first | (with_reducible exact Fr.refl _ _) | (with_reducible refine Fr.drew ?_) | (with_reducible refine Fr.drN ?_ _) | (with_reducible refine Fr.alloc ?_ _) | (with_reducible refine Fr.set ?_ ?_ _) | (left; simp; done) | (right; simp; done) | (right; simp; omega))) hF)); replace HY := Lib.hid (HY.out.fr0 (Fr.trans (by repeat' (first | (with_reducible exact Fr.refl _ _) | (with_reducible refine Fr.drew ?_) | (with_reducible refine Fr.drN ?_ _) | (with_reducible refine Fr.alloc ?_ _) | (with_reducible refine Fr.set ?_ ?_ _) | (left; simp; done) | (right; simp; done) | (right; simp; omega))) hF)); replace HM := Lib.hid (HM.out.fr0 (Fr.trans (by repeat' (first | (with_reducible exact Fr.refl _ _) | (with_reducible refine Fr.drew ?_) | (with_reducible refine Fr.drN ?_ _) | (with_reducible refine Fr.alloc ?_ _) | (with_reducible refine Fr.set ?_ ?_ _) | (left; simp; done) | (right; simp; done) | (right; simp; omega))) hF)); replace HN := Lib.hid (HN.out.fr0 (Fr.trans (by repeat' (first | (with_reducible exact Fr.refl _ _) | (with_reducible refine Fr.drew ?_) | (with_reducible refine Fr.drN ?_ _) | (with_reducible refine Fr.alloc ?_ _) | (with_reducible refine Fr.set ?_ ?_ _) | (left; simp; done) | (right; simp; done) | (right; simp; omega))) hF)); replace HD := Lib.hid (HD.out.fr0 (Fr.trans (by repeat' (first | (with_reducible exact Fr.refl _ _) | (with_reducible refine Fr.drew ?_) | (with_reducible refine Fr.drN ?_ _) | (with_reducible refine Fr.alloc ?_ _) | (with_reducible refine Fr.set ?_ ?_ _) | (left; simp; done) | (right; simp; done) | (right; simp; omega))) hF)); replace HE := Lib.hid (HE.out.fr0 (Fr.trans (by repeat' (first | (with_reducible exact Fr.refl _ _) | (with_reducible refine Fr.drew ?_) | (with_reducible refine Fr.drN ?_ _) | (with_reducible refine Fr.alloc ?_ _) | (with_reducible refine Fr.set ?_ ?_ _) | (left; simp; done) | (right; simp; done) | (right; simp; omega))) hF)); replace HSA := Lib.hid (Fr.blk (Fr.trans (by repeat' (first | (with_reducible exact Fr.refl _ _) | (with_reducible refine Fr.drew ?_) | (with_reducible refine Fr.drN ?_ _) | (with_reducible refine Fr.alloc ?_ _) | (with_reducible refine Fr.set ?_ ?_ _) | (left; simp; done) | (right; simp; done) | (right; simp; omega))) hF) HSA.out (by simp)); replace HSB := Lib.hid (Fr.blk (Fr.trans (by repeat' (first | (with_reducible exact Fr.refl _ _) | (with_reducible refine Fr.drew ?_) | (with_reducible refine Fr.drN ?_ _) | (with_reducible refine Fr.alloc ?_ _) | (with_reducible refine Fr.set ?_ ?_ _) | (left; simp; done) | (right; simp; done) | (right; simp; omega))) hF) HSB.out (by simp)); replace HF := Lib.hid (HF.out.trans (Fr.trans (by repeat' (first | (with_reducible exact Fr.refl _ _) | (with_reducible refine Fr.drew ?_) | (with_reducible refine Fr.drN ?_ _) | (with_reducible refine Fr.alloc ?_ _) | (with_reducible refine Fr.set ?_ ?_ _) | (left; simp; done) | (right; simp; done) | (right; simp; omega))) hF)); clear hF st1 st2 st3 st4; have st1 := HSA.out.cell; have st2 := HSA.out.lt; have st3 := HSB.out.cell; have st4 := HSB.out.lt) | (go_at_call 18; (with_reducible refine (sames_to (l := a) ?_ ?_).mono ?_); (focus (exact HX.out.fr0 (by repeat' (first | (with_reducible exact Fr.refl _ _) | (with_reducible refine Fr.drew ?_) | (with_reducible refine Fr.drN ?_ _) | (with_reducible refine Fr.alloc ?_ _) | (with_reducible refine Fr.set ?_ ?_ _) | (left; simp; done) | (right; simp; done) | (right; simp; omega))))); (focus (exact HA.out.fr0 (by repeat' (first | (with_reducible exact Fr.refl _ _) | (with_reducible refine Fr.drew ?_) | (with_reducible refine Fr.drN ?_ _) | (with_reducible refine Fr.alloc ?_ _) | (with_reducible refine Fr.set ?_ ?_ _) | (left; simp; done) | (right; simp; done) | (right; simp; omega))))); rintro e wz ⟨rfl, hF⟩; replace HA := Lib.hid (HA.out.fr0 (Fr.trans (by repeat' (first | (with_reducible exact Fr.refl _ _) | (with_reducible refine Fr.drew ?_) | (with_reducible refine Fr.drN ?_ _) | (with_reducible refine Fr.alloc ?_ _) | (with_reducible refine Fr.set ?_ ?_ _) | (left; simp; done) | (right; simp; done) | (right; simp; omega))) hF)); replace HB := Lib.hid (HB.out.fr0 (Fr.trans (by repeat' (first | (with_reducible exact Fr.refl _ _) | (with_reducible refine Fr.drew ?_) | (with_reducible refine Fr.drN ?_ _) | (with_reducible refine Fr.alloc ?_ _) | (with_reducible refine Fr.set ?_ ?_ _) | (left; simp; done) | (right; simp; done) | (right; simp; omega))) hF)); replace HX := Lib.hid (HX.out.fr0 (Fr.trans (by repeat' (first | (with_reducible exact Fr.refl _ _) | (with_reducible refine Fr.drew ?_) | (with_reducible refine Fr.drN ?_ _) | (with_reducible refine Fr.alloc ?_ _) | (with_reducible refine Fr.set ?_ ?_ _) | (left; simp; done) | (right; simp; done) | (right; simp; omega))) hF)); replace HY := Lib.hid (HY.out.fr0 (Fr.trans (by repeat' (first | (with_reducible exact Fr.refl _ _) | (with_reducible refine Fr.drew ?_) | (with_reducible refine Fr.drN ?_ _) | (with_reducible refine Fr.alloc ?_ _) | (with_reducible refine Fr.set ?_ ?_ _) | (left; simp; done) | (right; simp; done) | (right; simp; omega))) hF)); replace HM := Lib.hid (HM.out.fr0 (Fr.trans (by repeat' (first | (with_reducible exact Fr.refl _ _) | (with_reducible refine Fr.drew ?_) | (with_reducible refine Fr.drN ?_ _) | (with_reducible refine Fr.alloc ?_ _) | (with_reducible refine Fr.set ?_ ?_ _) | (left; simp; done) | (right; simp; done) | (right; simp; omega))) hF)); replace HN := Lib.hid (HN.out.fr0 (Fr.trans (by repeat' (first | (with_reducible exact Fr.refl _ _) | (with_reducible refine Fr.drew ?_) | (with_reducible refine Fr.drN ?_ _) | (with_reducible refine Fr.alloc ?_ _) | (with_reducible refine Fr.set ?_ ?_ _) | (left; simp; done) | (right; simp; done) | (right; simp; omega))) hF)); replace HD := Lib.hid (HD.out.fr0 (Fr.trans (by repeat' (first | (with_reducible exact Fr.refl _ _) | (with_reducible refine Fr.drew ?_) | (with_reducible refine Fr.drN ?_ _) | (with_reducible refine Fr.alloc ?_ _) | (with_reducible refine Fr.set ?_ ?_ _) | (left; simp; done) | (right; simp; done) | (right; simp; omega))) hF)); replace HE := Lib.hid (HE.out.fr0 (Fr.trans (by repeat' (first | (with_reducible exact Fr.refl _ _) | (with_reducible refine Fr.drew ?_) | (with_reducible refine Fr.drN ?_ _) | (with_reducible refine Fr.alloc ?_ _) | (with_reducible refine Fr.set ?_ ?_ _) | (left; simp; done) | (right; simp; done) | (right; simp; omega))) hF)); replace HSA := Lib.hid (Fr.blk (Fr.trans (by repeat' (first | (with_reducible exact Fr.refl _ _) | (with_reducible refine Fr.drew ?_) | (with_reducible refine Fr.drN ?_ _) | (with_reducible refine Fr.alloc ?_ _) | (with_reducible refine Fr.set ?_ ?_ _) | (left; simp; done) | (right; simp; done) | (right; simp; omega))) hF) HSA.out (by simp)); replace HSB := Lib.hid (Fr.blk (Fr.trans (by repeat' (first | (with_reducible exact Fr.refl _ _) | (with_reducible refine Fr.drew ?_) | (with_reducible refine Fr.drN ?_ _) | (with_reducible refine Fr.alloc ?_ _) | (with_reducible refine Fr.set ?_ ?_ _) | (left; simp; done) | (right; simp; done) | (right; simp; omega))) hF) HSB.out (by simp)); replace HF := Lib.hid (HF.out.trans (Fr.trans (by repeat' (first | (with_reducible exact Fr.refl _ _) | (with_reducible refine Fr.drew ?_) | (with_reducible refine Fr.drN ?_ _) | (with_reducible refine Fr.alloc ?_ _) | (with_reducible refine Fr.set ?_ ?_ _) | (left; simp; done) | (right; simp; done) | (right; simp; omega))) hF)); clear hF st1 st2 st3 st4; have st1 := HSA.out.cell; have st2 := HSA.out.lt; have st3 := HSB.out.cell; have st4 := HSB.out.lt) | (go_at_call 18; (with_reducible refine (sames_to (l := b) ?_ ?_).mono ?_); (focus (exact HY.out.fr0 (by repeat' (first | (with_reducible exact Fr.refl _ _) | (with_reducible refine Fr.drew ?_) | (with_reducible refine Fr.drN ?_ _) | (with_reducible refine Fr.alloc ?_ _) | (with_reducible refine Fr.set ?_ ?_ _) | (left; simp; done) | (right; simp; done) | (right; simp; omega))))); (focus (exact HB.out.fr0 (by repeat' (first | (with_reducible exact Fr.refl _ _) | (with_reducible refine Fr.drew ?_) | (with_reducible refine Fr.drN ?_ _) | (with_reducible refine Fr.alloc ?_ _) | (with_reducible refine Fr.set ?_ ?_ _) | (left; simp; done) | (right; simp; done) | (right; simp; omega))))); rintro e wz ⟨rfl, hF⟩; replace HA := Lib.hid (HA.out.fr0 (Fr.trans (by repeat' (first | (with_reducible exact Fr.refl _ _) | (with_reducible refine Fr.drew ?_) | (with_reducible refine Fr.drN ?_ _) | (with_reducible refine Fr.alloc ?_ _) | (with_reducible refine Fr.set ?_ ?_ _) | (left; simp; done) | (right; simp; done) | (right; simp; omega))) hF)); replace HB := Lib.hid (HB.out.fr0 (Fr.trans (by repeat' (first | (with_reducible exact Fr.refl _ _) | (with_reducible refine Fr.drew ?_) | (with_reducible refine Fr.drN ?_ _) | (with_reducible refine Fr.alloc ?_ _) | (with_reducible refine Fr.set ?_ ?_ _) | (left; simp; done) | (right; simp; done) | (right; simp; omega))) hF)); replace HX := Lib.hid (HX.out.fr0 (Fr.trans (by repeat' (first | (with_reducible exact Fr.refl _ _) | (with_reducible refine Fr.drew ?_) | (with_reducible refine Fr.drN ?_ _) | (with_reducible refine Fr.alloc ?_ _) | (with_reducible refine Fr.set ?_ ?_ _) | (left; simp; done) | (right; simp; done) | (right; simp; omega))) hF)); replace HY := Lib.hid (HY.out.fr0 (Fr.trans (by repeat' (first | (with_reducible exact Fr.refl _ _) | (with_reducible refine Fr.drew ?_) | (with_reducible refine Fr.drN ?_ _) | (with_reducible refine Fr.alloc ?_ _) | (with_reducible refine Fr.set ?_ ?_ _) | (left; simp; done) | (right; simp; done) | (right; simp; omega))) hF)); replace HM := Lib.hid (HM.out.fr0 (Fr.trans (by repeat' (first | (with_reducible exact Fr.refl _ _) | (with_reducible refine Fr.drew ?_) | (with_reducible refine Fr.drN ?_ _) | (with_reducible refine Fr.alloc ?_ _) | (with_reducible refine Fr.set ?_ ?_ _) | (left; simp; done) | (right; simp; done) | (right; simp; omega))) hF)); replace HN := Lib.hid (HN.out.fr0 (Fr.trans (by repeat' (first | (with_reducible exact Fr.refl _ _) | (with_reducible refine Fr.drew ?_) | (with_reducible refine Fr.drN ?_ _) | (with_reducible refine Fr.alloc ?_ _) | (with_reducible refine Fr.set ?_ ?_ _) | (left; simp; done) | (right; simp; done) | (right; simp; omega))) hF)); replace HD := Lib.hid (HD.out.fr0 (Fr.trans (by repeat' (first | (with_reducible exact Fr.refl _ _) | (with_reducible refine Fr.drew ?_) | (with_reducible refine Fr.drN ?_ _) | (with_reducible refine Fr.alloc ?_ _) | (with_reducible refine Fr.set ?_ ?_ _) | (left; simp; done) | (right; simp; done) | (right; simp; omega))) hF)); replace HE := Lib.hid (HE.out.fr0 (Fr.trans (by repeat' (first | (with_reducible exact Fr.refl _ _) | (with_reducible refine Fr.drew ?_) | (with_reducible refine Fr.drN ?_ _) | (with_reducible refine Fr.alloc ?_ _) | (with_reducible refine Fr.set ?_ ?_ _) | (left; simp; done) | (right; simp; done) | (right; simp; omega))) hF)); replace HSA := Lib.hid (Fr.blk (Fr.trans (by repeat' (first | (with_reducible exact Fr.refl _ _) | (with_reducible refine Fr.drew ?_) | (with_reducible refine Fr.drN ?_ _) | (with_reducible refine Fr.alloc ?_ _) | (with_reducible refine Fr.set ?_ ?_ _) | (left; simp; done) | (right; simp; done) | (right; simp; omega))) hF) HSA.out (by simp)); replace HSB := Lib.hid (Fr.blk (Fr.trans (by repeat' (first | (with_reducible exact Fr.refl _ _) | (with_reducible refine Fr.drew ?_) | (with_reducible refine Fr.drN ?_ _) | (with_reducible refine Fr.alloc ?_ _) | (with_reducible refine Fr.set ?_ ?_ _) | (left; simp; done) | (right; simp; done) | (right; simp; omega))) hF) HSB.out (by simp)); replace HF := Lib.hid (HF.out.trans (Fr.trans (by repeat' (first | (with_reducible exact Fr.refl _ _) | (with_reducible refine Fr.drew ?_) | (with_reducible refine Fr.drN ?_ _) | (with_reducible refine Fr.alloc ?_ _) | (with_reducible refine Fr.set ?_ ?_ _) | (left; simp; done) | (right; simp; done) | (right; simp; omega))) hF)); clear hF st1 st2 st3 st4; have st1 := HSA.out.cell; have st2 := HSA.out.lt; have st3 := HSB.out.cell; have st4 := HSB.out.lt)))) | fail "no"
  all_goals go_wp2
  all_goals (go_ret)
  all_goals (exact ⟨rfl, by repeat' (first | (with_reducible exact HF.out) | (with_reducible refine Fr.drew ?_) | (with_reducible refine Fr.drN ?_ _) | (with_reducible refine Fr.alloc ?_ _) | (with_reducible refine Fr.set ?_ ?_ _) | (left; simp; done) | (right; simp; done) | (right; simp; omega))⟩)
end Go.Proofs.Ytanbfejhhnhabaa
