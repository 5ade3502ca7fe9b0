/- The law's first question: what a small feed answers. -/
import Derived.Test.YthkmknnajbpjfaaDoorNew
namespace Go.Proofs.YthkmknnajbpjfaaDoor
open Go.RowKit
set_option maxRecDepth 100000
set_option linter.unusedVariables false
set_option linter.unusedSimpArgs false
set_option maxHeartbeats 4000000
theorem qfr {w w1 w2 : World} {bf bc bw : Nat} (h : Fr [] w w1) (k : Fr [bw] w1 w2) (hb : w.heap.size ≤ bw) : Fr [] w w2 :=
  (h.mono (by simp)).trans k |>.weaken (by intro z hz; simp at hz; subst hz; right; exact hb)
theorem QW.gone {w w' : World} {bf bc bw size : Nat} {head : Int} {q : List Int} (h : QW w bf bc bw size head q) (o : Obj) : QW (w.alloc o) bf bc bw size head q := h.al o
theorem QW.stt {w : World} {bf bc bw size : Nat} {head : Int} {q : List Int} (h : QW w bf bc bw size head q) {a : Addr} (v : Value) (h0 : bf ≠ a.block) (h1 : bc ≠ a.block) (h2 : bw ≠ a.block) (h3 : 0 ≠ a.block) : QW (w.setCell a v) bf bc bw size head q :=
  h.fr (S := [a.block]) ((Fr.refl _ _).set (by simp) v) (by simpa using h0) (by simpa using h1) (by simpa using h2) (by simpa using h3)
theorem lives_any (w : World) (hu : Uses w) :
    Calls Tryd.prog 6 #[] w fun e w' => e = .returned (.bool true) ∧ Fr [] w w' := by
  have HU := Lib.hid hu
  clear hu
  go_enter Tryd.func6, Tryd.ntmps6
  go_wp2_with fail
  go_at_call 7
  refine (new_ok 2 w (by decide) (by decide) HU.out).mono ?_
  rintro e w1 ⟨bf, bc, bw, rfl, hQ, hb0, hb1, hb2, hF⟩
  go_wp2_with fail
  go_at_call 17
  refine (take_c_none bf bc bw 2 0 [] w1 hQ rfl).mono ?_
  rintro e w2 ⟨rfl, hQ2, hF2⟩
  replace hF := qfr (bf := bf) (bc := bc) hF hF2 hb2
  clear hQ hF2
  go_wp2_with fail
  go_at_call 16
  have hB3 := Blk.new w2 #[.int .u64 0, .int .u64 0] 45
  refine (put_c_ok bf bc bw 2 0 [] 5 (by decide) _ (hQ2.al _) (by decide) (by decide)).mono ?_
  rintro e w3 ⟨he, hQ3, hF3⟩
  simp at he
  subst he
  have hF4 : Fr [] w w3 := qfr (bf := bf) (bc := bc) (hF.alloc _) hF3 hb2
  clear hQ2 hB3 hF3 hF
  go_wp2_with fail
  go_at_call 16
  refine (put_c_ok bf bc bw 2 0 ([] ++ [5]) 6 (by decide) w3 hQ3 (by decide) (by decide)).mono ?_
  rintro e w4 ⟨he, hQ4, hF5⟩
  simp at he
  subst he
  have hF6 : Fr [] w w4 := qfr (bf := bf) (bc := bc) hF4 hF5 hb2
  clear hQ3 hF5 hF4
  go_wp2_with fail
  go_at_call 16
  refine (put_c_full bf bc bw 2 0 ([] ++ [5] ++ [6]) 7 (by decide) w4 hQ4 (by decide)).mono ?_
  rintro e w5 ⟨rfl, hQ5, hF7⟩
  have hF8 : Fr [] w w5 := qfr (bf := bf) (bc := bc) hF6 hF7 hb2
  clear hQ4 hF6 hF7
  go_wp2_with fail
  go_at_call 18
  refine (len_c bf bc bw 2 0 ([] ++ [5] ++ [6]) w5 hQ5).mono ?_
  rintro e w6 ⟨he, hQ6, hF9⟩
  simp at he
  subst he
  have hFa : Fr [] w w6 := qfr (bf := bf) (bc := bc) hF8 hF9 hb2
  clear hQ5 hF8 hF9
  go_wp2_with fail
  go_at_call 17
  refine (take_c_ok bf bc bw 2 0 ([] ++ [5] ++ [6]) w6 hQ6 5 rfl (by decide) (by decide)).mono ?_
  rintro e w7 ⟨rfl, hQ7, hFb⟩
  have hFc : Fr [] w w7 := qfr (bf := bf) (bc := bc) hFa hFb hb2
  clear hQ6 hFa hFb hQ7
  go_wp2
  go_ret
  exact ⟨rfl, hFc.alloc _⟩
end Go.Proofs.YthkmknnajbpjfaaDoor
