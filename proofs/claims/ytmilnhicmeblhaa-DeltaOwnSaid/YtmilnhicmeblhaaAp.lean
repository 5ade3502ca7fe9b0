/- The package delta: Apply, Add; NewSender, NewReceiver; copied. -/
import Derived.Test.YtmilnhicmeblhaaTu
import Derived.Test.YtmilnhicmeblhaaRv
namespace Go.Proofs.Ytmilnhicmeblhaa
open Go.RowKit Go.Sort
set_option maxRecDepth 100000
set_option linter.unusedVariables false
set_option linter.unusedSimpArgs false
set_option maxHeartbeats 4000000
theorem EPost.case {size n : Nat} {xs : List Value} {y : Int} {w w' : World} {e : Ending} (h : EPost size n xs y w e w') : ∃ v, e = .returned (.tuple #[v, .int .i64 y]) ∧ SV w' w.heap.size size v n xs ∧ Fr [] w w' := h
theorem apply_any (va vb : Value) (A : List Ct) (B : List Ch) (w : World) (hA : RC w va A) (hB : RH w vb B) (mA : A.length ≤ 9223372036854775806) (mB : B.length ≤ 9223372036854775806) (wb : WH B) :
    Calls Try.prog 16 #[va, vb] w (EPost 2 (turnE false A B).1.length (flat2 (turnE false A B).1) (turnE false A B).2 w) := by
  obtain ⟨aa, ac, ea⟩ := hA.at_
  obtain ⟨ba, bc, eb⟩ := hB.at_
  subst ea eb
  have HA := Lib.hid hA
  have HB := Lib.hid hB
  clear hA hB
  go_enter Try.func16, Try.ntmps16
  go_wp2_with ((go_at_call 47); (with_reducible refine (turn_any _ _ A B false _ HA.out HB.out mA mB wb).mono ?_); rintro e w1 h; obtain ⟨v, rfl, hS, hF⟩ := h.case; have HS := Lib.hid hS; have HF := Lib.hid hF; clear h hS hF)
  go_ret2
  exact EPost.mk HS.out HF.out
theorem add_any (va vb : Value) (A : List Ct) (B : List Ch) (w : World) (hA : RC w va A) (hB : RH w vb B) (mA : A.length ≤ 9223372036854775806) (mB : B.length ≤ 9223372036854775806) (wb : WH B) :
    Calls Try.prog 15 #[va, vb] w (EPost 2 (turnE true A B).1.length (flat2 (turnE true A B).1) (turnE true A B).2 w) := by
  obtain ⟨aa, ac, ea⟩ := hA.at_
  obtain ⟨ba, bc, eb⟩ := hB.at_
  subst ea eb
  have HA := Lib.hid hA
  have HB := Lib.hid hB
  clear hA hB
  go_enter Try.func15, Try.ntmps15
  go_wp2_with ((go_at_call 47); (with_reducible refine (turn_any _ _ A B true _ HA.out HB.out mA mB wb).mono ?_); rintro e w1 h; obtain ⟨v, rfl, hS, hF⟩ := h.case; have HS := Lib.hid hS; have HF := Lib.hid hF; clear h hS hF)
  go_ret2
  exact EPost.mk HS.out HF.out
theorem newReceiver_any (w : World) :
    Calls Try.prog 19 #[] w fun e w' => e = .returned (.pointer (some ⟨w.heap.size + 1, 0, none⟩)) ∧ w' = (w.alloc (.map #[] 0)).alloc (.cells #[.map (some w.heap.size)] 99) := by
  have hmm := @run_makeMap Try.prog
  go_enter Try.func19, Try.ntmps19
  go_wp2
  go_ret
  exact ⟨by simp, rfl⟩
theorem newSender_ok (s : ByteArray) (w : World) (h : keyF s = true) :
    Calls Try.prog 26 #[.string s] w fun e w' => e = .returned (.tuple #[.pointer (some ⟨w.heap.size, 0, none⟩), .int .i64 0]) ∧ w' = w.alloc (.cells #[.string s, .int .u64 0, .slice none 0 0, .slice none 0 0] 114) := by
  have HQ := Lib.hid (key_q s true h)
  go_enter Try.func26, Try.ntmps26
  go_wp2_with ((go_at_call 46); (with_reducible refine (HQ.out _).mono ?_); rintro e w1 ⟨rfl, rfl⟩)
  go_ret2
  exact ⟨rfl, rfl⟩
theorem newSender_no (s : ByteArray) (w : World) (h : keyF s = false) :
    Calls Try.prog 26 #[.string s] w fun e w' => e = .returned (.tuple #[.pointer none, .int .i64 241]) ∧ w' = w := by
  have HQ := Lib.hid (key_q s false h)
  go_enter Try.func26, Try.ntmps26
  go_wp2_with ((go_at_call 46); (with_reducible refine (HQ.out _).mono ?_); rintro e w1 ⟨rfl, rfl⟩)
  go_ret2
  exact ⟨rfl, rfl⟩
theorem bodyPost_named {P : Program} {fn : Func} {R : Ending → World → Prop} {e : Exit} {a : Act} {w : World} (h : ∀ wx, w = wx → bodyPost P fn R e a wx) : bodyPost P fn R e a w := h w rfl
theorem wp_named {P : Program} {c : Code} {Q : Exit → Act → World → Prop} {a : Act} {w : World} (h : ∀ wx, w = wx → c.wp P Q a wx) : c.wp P Q a w := h w rfl
abbrev puV (s : ByteArray) (n : Int) (v : Value) : Value := .agg #[.string s, .int .u64 n, v]
/-- copied: a push whose changes are its own. -/
theorem copied_any (s : ByteArray) (n : Int) (v : Value) (l : List Ch) (w : World) (h : RH w v l) (hl : l.length ≤ 1000000) :
    Calls Try.prog 55 #[puV s n v] w fun e w' => ∃ v', e = .returned (puV s n v') ∧ SV w' w.heap.size 4 v' l.length (flat4 l) ∧ Fr [] w w' := by
  obtain ⟨a, c, ev⟩ := h.at_
  subst ev
  have H := Lib.hid (h.fr0 (((Fr.refl [] w).alloc (.cells #[.string s, .int .u64 n, .slice a l.length c] 50)).alloc (.cells #[.string (⟨#[]⟩ : ByteArray), .int .u64 0, .slice none 0 0] 50)))
  have HB := Lib.hid ((Blk.new w #[.string s, .int .u64 n, .slice a l.length c] 50).alloc (.cells #[.string (⟨#[]⟩ : ByteArray), .int .u64 0, .slice none 0 0] 50))
  have HC := Lib.hid (Blk.mk0 (w.alloc (.cells #[.string s, .int .u64 n, .slice a l.length c] 50)) #[.string (⟨#[]⟩ : ByteArray), .int .u64 0, .slice none 0 0] 50 (w.heap.size + 1) (by simp))
  have hone := flat4_one l
  clear h
  go_enter Try.func55, Try.ntmps55
  go_wp2_with ((go_at_call 71); (with_reducible refine (cloneH_any _ _ _ _ H.out hone hl).mono ?_); rintro e w1 ⟨v1, rfl, hS, hF⟩; have HS := Lib.hid hS; have HF := Lib.hid hF; obtain ⟨a1, c1, e1⟩ := hS.at_; subst e1; have b1 := hF.blk HB.out (by simp); have b2 := hF.blk HC.out (by simp); have HB1 := Lib.hid b1; have HB2 := Lib.hid b2; have q1 := b1.cell; have q1f := b1.free; have q1l := b1.lt; have q2 := b2.cell; have q2f := b2.free; have q2l := b2.lt; clear hS hF b1 b2)
  go_wp2
  refine bodyPost_named ?_
  intro wy hwy
  have HFy := Lib.hid (show Fr [w.heap.size, w.heap.size + 1] w1 wy from by rw [← hwy]; repeat' (first | (with_reducible exact Fr.refl _ _) | (with_reducible refine Fr.drew ?_) | (with_reducible refine Fr.drN ?_ _) | (with_reducible refine Fr.alloc ?_ _) | (with_reducible refine Fr.set ?_ ?_ _) | (left; simp; done) | (right; simp; done) | (right; simp; omega)))
  have HCy := Lib.hid (show Blk wy (w.heap.size + 1) #[.string s, .int .u64 n, .slice a1 l.length c1] 50 from by rw [← hwy]; exact Blk.cast (cs := (((#[.string (⟨#[]⟩ : ByteArray), .int .u64 0, .slice none 0 0] : Array Value).setIfInBounds 0 (.string s)).setIfInBounds 1 (.int .u64 n)).setIfInBounds 2 (.slice a1 l.length c1)) (by repeat' (first | (with_reducible exact HB2.out) | (with_reducible refine Blk.drew ?_) | (with_reducible refine Blk.drN ?_ _) | (with_reducible refine Blk.set ?_ _ _) | (with_reducible refine Blk.other ?_ ?_ _) | (with_reducible refine Blk.alloc ?_ _) | (simp; done) | (simp; omega))) (by simp))
  clear hwy
  have hc := HCy.out.cell
  have hl5 := HCy.out.lt
  refine bodyPost_ret (v := puV s n (.slice a1 l.length c1)) (by simp [results, Try.results55, go_sem, hc, hl5]) rfl ⟨_, rfl, ?_, ?_⟩
  · have := HS.out
    refine (this.fr HFy.out (fun g hg hm => ?_)).base_le (by simp; omega)
    have h1 := (this.own hg).1
    simp at h1 hm
    omega
  · exact ((((Fr.refl [] w).alloc _).alloc _).trans HF.out |>.mono (T := [w.heap.size, w.heap.size + 1]) (by simp)).trans HFy.out |>.weaken (by intro z hz; simp at hz; right; omega)
end Go.Proofs.Ytmilnhicmeblhaa
