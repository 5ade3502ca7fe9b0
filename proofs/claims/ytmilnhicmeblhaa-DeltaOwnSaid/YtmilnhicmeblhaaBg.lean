/- The laws' common part: begins. -/
import Derived.Test.YtmilnhicmeblhaaSe
import Derived.Test.YtmilnhicmeblhaaTb
namespace Go.Proofs.Ytmilnhicmeblhaa
open Go.RowKit Go.Maps Go.Sort
set_option maxRecDepth 100000
set_option linter.unusedVariables false
set_option linter.unusedSimpArgs false
set_option maxHeartbeats 8000000
theorem RV.made (w : World) : RV ((w.alloc (.map #[] 0)).alloc (.cells #[.map (some w.heap.size)] 99)) [w.heap.size + 1, w.heap.size] (w.heap.size + 1) w.heap.size 0 [] :=
  ⟨Blk.mk0 _ _ _ _ (by simp), by simp, by simp, (NM.made XH w w.heap.size rfl).fr0 ((Fr.refl _ _).alloc _), ⟨by simp [mapQ], by simp [mapQ]⟩, by simp, by simp; omega, by simp, by simp⟩
abbrev sx : ByteArray := ⟨#[120]⟩
abbrev sa : ByteArray := ⟨#[97]⟩
theorem key_x : keyF sx = true := by decide
theorem key_a : keyF sa = true := by decide
abbrev now1 : List Ct := [(sa, 3)]
abbrev chg1 : List Ch := [(sa, 3, false, false)]
theorem right_now1 : rightC now1 = true := rightC_iff.2 ⟨by simp [key_a], by simp, by simp⟩
theorem wc_now1 : WC now1 := by intro x hx; simp at hx; subst hx; unfold inW; omega
theorem right_chg1 : rightH chg1 = true := rightH_iff.2 ⟨by simp [key_a], by simp, by simp [shF], by simp⟩
theorem wh_chg1 : WH chg1 := by intro x hx; simp at hx; subst hx; unfold inW; simp
theorem diff1 : diffE [] now1 = (chg1, 0) := by
  unfold diffE
  rw [if_pos ⟨rfl, right_now1⟩]
  have : made diffF [] now1 = chg1 := by simp [made, zipR, rule, diffF]
  rw [this]
  rfl
theorem turn1 : turnE true [] chg1 = (now1, 0) := by
  unfold turnE
  rw [if_pos ⟨rfl, right_chg1⟩, if_neg (by simp)]
  have : made (turnF true) [] chg1 = now1 := by
    have e : IntKind.u64.wrap (0 + 3) = 3 := by rw [IntKind.wrap_u64]; decide
    simp [made, zipR, rule, turnF]
    exact e
  rw [this]
  rfl
theorem TakePost.ok {F : List Nat} {p b n : Nat} {q : Sq} {s : ByteArray} {num : Int} {ch : List Ch} {w w' : World} {e : Ending} {x : Int} (h : TakePost F p b n q s num ch w e w') (ht : takeR q s num ch = (x, 0)) :
    e = .returned (.tuple #[.int .u64 x, .int .i64 0]) ∧ ∃ c F', RV w' F' p b (n + 1) (upd q s (c, (turnE true (hadQ q s).1 ch).1, num)) ∧ (∀ g ∈ F', g ∈ F ∨ w.heap.size ≤ g) ∧ Fr [b] w w' := by
  unfold TakePost at h
  rw [ht] at h
  obtain ⟨h1, h2 | h2⟩ := h
  · exact absurd rfl h2.1
  · exact ⟨h1, h2.2⟩
theorem TakePost.err {F : List Nat} {p b n : Nat} {q : Sq} {s : ByteArray} {num : Int} {ch : List Ch} {w w' : World} {e : Ending} {x y : Int} (h : TakePost F p b n q s num ch w e w') (ht : takeR q s num ch = (x, y)) (hy : y ≠ 0) :
    e = .returned (.tuple #[.int .u64 x, .int .i64 y]) ∧ Fr [] w w' := by
  unfold TakePost at h
  rw [ht] at h
  obtain ⟨h1, h2 | h2⟩ := h
  · exact ⟨h1, h2.2⟩
  · exact absurd h2.1 hy
theorem take1 : takeR [] sx 1 chg1 = (1, 0) := by
  have hh : hadQ [] sx = ([], 0) := rfl
  unfold takeR
  rw [if_neg (by simp [key_x, right_chg1]), if_neg (by simp), hh]
  rw [if_neg (show ¬ (1 : Int) ≤ 0 by decide), if_neg (show ¬ (1 : Int) < 1 - 0 by decide), turn1]
  rfl
theorem take2 (c : Slc) : takeR (upd [] sx (c, now1, 1)) sx 1 chg1 = (1, 243) := by
  unfold takeR hadQ
  rw [if_neg (by simp [key_x, right_chg1]), if_neg (by simp [upd, lk])]
  simp [upd, lk]
def p5ne (a b : Nat) : Prop := b + 3 ≤ a
theorem now1_rd (w : World) : RC (w.alloc (.cells #[.string sa, .int .u64 3] 38)) (.slice (some ⟨w.heap.size, 0, none⟩) 1 1) now1 :=
  ⟨rfl, .inr ⟨w.heap.size, 0, 1, rfl, by simp, by decide, by unfold maxLen; omega, fun j u hj => by
    rw [Nat.zero_add, (Blk.new w #[.string sa, .int .u64 3] 38).cell j]
    simpa [flat2] using hj⟩⟩
theorem begins_any (w : World) : Calls Try.prog 12 #[] w fun e w' => e = .returned (.bool true) ∧ Fr [] w w' := by
  go_enter Try.func12, Try.ntmps12
  go_upto_region 3 with (first | ((go_at_call 26); (with_reducible refine (newSender_ok _ _ key_x).mono ?_); rintro e w1 ⟨rfl, rfl⟩) | ((go_at_call 19); (with_reducible refine (newReceiver_any _).mono ?_); rintro e w2 ⟨rfl, rfl⟩))
  refine wp_named ?_
  intro wA hA
  have HS := Lib.hid (show SD wA [w.heap.size] w.heap.size sx 0 (.slice none 0 0) (.slice none 0 0) [] [] from by rw [← hA]; exact (SD.made w sx).fr0 (((Fr.refl _ _).alloc _).alloc _))
  have HR := Lib.hid (show RV wA [w.heap.size + 1 + 1, w.heap.size + 1] (w.heap.size + 1 + 1) (w.heap.size + 1) 0 [] from by rw [← hA]; have := RV.made (w.alloc (.cells #[.string sx, .int .u64 0, .slice none 0 0, .slice none 0 0] 114)); rw [World.size_alloc] at this; exact this)
  have FA := Lib.hid (show Fr [] w wA from by rw [← hA]; repeat' (first | (with_reducible exact Fr.refl _ _) | (with_reducible refine Fr.drew ?_) | (with_reducible refine Fr.drN ?_ _) | (with_reducible refine Fr.alloc ?_ _) | (with_reducible refine Fr.set ?_ ?_ _) | (left; simp; done) | (right; simp; done) | (right; simp; omega)))
  have hzA : w.heap.size + 3 ≤ wA.heap.size := by rw [← hA]; simp
  have hpr : (((w.alloc (.cells #[.string sx, .int .u64 0, .slice none 0 0, .slice none 0 0] 114)).heap.size + 1 : Nat)) = w.heap.size + 1 + 1 := by simp
  clear hA
  clear hpr
  have hnp : p5ne wA.heap.size w.heap.size := by unfold p5ne; omega
  go_upto_region 6 with ((go_at_call 28); (with_reducible refine (send_ok [w.heap.size] w.heap.size sx 0 _ _ _ [] now1 [] _ (HS.out.fr0 ((Fr.refl [] wA).alloc (.cells #[.string sa, .int .u64 3] 38))) (now1_rd wA) wc_now1 (by rw [diff1]) (by decide) (by decide) (by decide) (by intro g hg _; simp [Value.ownBlock] at hg; unfold p5ne at hnp; omega)).mono ?_); rintro e w3 ⟨vl', vw', vc, v', F', rfl, h1, h2, h3, h4, h5⟩; rw [diff1] at h2; change SV _ _ 4 _ 1 (flat4 chg1) at h2; have HV := Lib.hid h2; have HFS := Lib.hid h5; obtain ⟨av, cv, ev⟩ := h2.at_; subst ev; clear h1 h2 h3 h4 h5)
  refine wp_named ?_
  intro wB hB
  have HBX := Lib.hid (show Blk wB w3.heap.size #[.string sx, .int .u64 1, .slice av 1 cv] 50 from by rw [← hB]; exact Blk.new _ _ _)
  have F3B := Lib.hid (show Fr [] w3 wB from by rw [← hB]; repeat' (first | (with_reducible exact Fr.refl _ _) | (with_reducible refine Fr.drew ?_) | (with_reducible refine Fr.drN ?_ _) | (with_reducible refine Fr.alloc ?_ _) | (with_reducible refine Fr.set ?_ ?_ _) | (left; simp; done) | (right; simp; done) | (right; simp; omega)))
  clear hB
  have hzb := HFS.out.size
  rw [World.size_alloc] at hzb
  have FAB := Lib.hid (show Fr [w.heap.size] wA wB from ((((Fr.refl [] wA).alloc _).mono (by simp)).trans (HFS.out.mono (by simp [Value.ownBlock]))).trans (F3B.out.mono (by simp)))
  have hnp2 : w.heap.size + 3 ≤ wA.heap.size := hzA
  have HRB := Lib.hid (HR.out.fr FAB.out (by simp <;> omega))
  have HVB := Lib.hid (HV.out.fr0 F3B.out)
  have bxc := HBX.out.cell
  have bxl := HBX.out.lt
  have e1 : (turnE true (hadQ [] sx).1 chg1).1 = now1 := by rw [show hadQ [] sx = ([], 0) from rfl, turn1]
  have E1 := Lib.hid e1
  clear e1 hnp
  go_upto_region 7 with ((go_at_call 20); (with_reducible refine (take_good _ _ _ _ [] sx 1 _ chg1 _ HRB.out HVB.out.rd wh_chg1 (by unfold inW; decide) (by decide) key_x (by decide) right_chg1).mono ?_); rintro e w4 hh; obtain ⟨rfl, c4, F4, hrv, hF4, hf4⟩ := hh.ok take1; rw [E1.out] at hrv; have HR4 := Lib.hid hrv; have HF4 := Lib.hid hf4; have hb4 := hf4.blk HBX.out (by simp; omega); have HB4 := Lib.hid hb4; have bx4 := hb4.cell; have bl4 := hb4.lt; have HV4 := Lib.hid (HVB.out.fr hf4 (fun g hg hm => by simp at hm; have := (HVB.out.own hg).1; rw [World.size_alloc] at this; omega)); clear hh hrv hF4 hf4 hb4 bxc bxl)
  go_upto_region 8 with ((go_at_call 20); (with_reducible refine (take_good _ _ _ _ _ sx 1 _ chg1 _ HR4.out HV4.out.rd wh_chg1 (by unfold inW; decide) (by decide) key_x (by decide) right_chg1).mono ?_); rintro e w5 hh; obtain ⟨rfl, hf5⟩ := hh.err (take2 c4) (by decide); have HF5 := Lib.hid hf5; have HR5 := Lib.hid (HR4.out.fr hf5 (by simp)); have hb5 := hf5.blk HB4.out (by simp); have bx5 := hb5.cell; have bl5 := hb5.lt; have HB5 := Lib.hid hb5; clear hh hf5 hb5 bx4 bl4)
  have hone : allF (tots (upd [] sx (c4, now1, (1 : Int)))) = now1 := allF_one now1 (Ord.right right_now1 wc_now1)
  have HONE := Lib.hid hone
  clear hone
  go_upto_region 9 with ((go_at_call 24); (with_reducible refine (all_any _ _ _ _ _ _ HR5.out).mono ?_); rintro e w6 ⟨v6, rfl, hS6, hf6⟩; rw [HONE.out] at hS6; have HF6 := Lib.hid hf6; obtain ⟨g6, o6, c6, e6, g61, g62, g63, g64, g65⟩ := hS6.cells (by decide); subst e6; have k0 := g65 0 (.string sa) rfl; have k1 := g65 1 (.int .u64 3) rfl; rw [Nat.add_zero] at k0; have hb6 := hf6.blk HB5.out (by simp); have bx6 := hb6.cell; have bl6 := hb6.lt; clear hS6 hf6 hb6 bx5 bl5 g65)
  have h01 : (0 : Nat) < now1.length := by decide
  go_wp2
  go_ret
  refine ⟨rfl, ?_⟩
  have G1 := (FA.out.mono (T := [w.heap.size, w.heap.size + 1]) (by simp)).trans (FAB.out.mono (by simp))
  have G2 := (G1.trans (HF4.out.mono (by simp))).trans ((HF5.out.trans HF6.out).mono (by simp))
  exact G2.weaken (by intro z hz; simp at hz; right; omega)
end Go.Proofs.Ytmilnhicmeblhaa
