/- The law DeltaNil: its walk. -/
import Derived.Test.YtmilnhicmeblhaaSc
namespace Go.Proofs.Ytmilnhicmeblhaa
open Go.RowKit Go.Sort
set_option maxRecDepth 100000
set_option linter.unusedVariables false
set_option linter.unusedSimpArgs false
set_option maxHeartbeats 8000000
theorem acked_nil (n : Int) (w : World) :
    Calls Try.prog 41 #[.pointer none, .int .u64 n] w fun e w' => e = .returned (.int .i64 1) ∧ Fr [] w w' := by
  go_enter Try.func41, Try.ntmps41
  go_wp2
  go_ret
  exact ⟨rfl, ((Fr.refl _ _).alloc _).alloc _⟩
theorem waiting_nil (w : World) :
    Calls Try.prog 30 #[.pointer none] w fun e w' => e = .returned (.slice none 0 0) ∧ w' = w := by
  go_enter Try.func30, Try.ntmps30
  go_wp2
  go_ret
  exact ⟨rfl, rfl⟩
/-- One push, in a slice of its own. -/
theorem pu_ru {w : World} {b : Nat} {s : ByteArray} {n : Int} {v : Value} {l : List Ch} {t : TypeId} (h : Blk w b #[.string s, .int .u64 n, v] t) (hl : RH w v l) (hm : l.length ≤ 9223372036854775806) : RU w (.slice (some ⟨b, 0, none⟩) 1 1) [(s, n, v, l)] :=
  ⟨⟨rfl, .inr ⟨b, 0, 1, rfl, h.lt, by simp, by unfold maxLen; omega, fun j u hj => by
    rw [Nat.zero_add, h.cell]
    simpa [flatU] using hj⟩⟩, fun x hx => by simp at hx; subst hx; exact ⟨hl, hm⟩⟩
theorem deltaNil_walk (a : Option Addr) (n c : Nat) (s : ByteArray) (num : Int) (pa : Option Addr) (pn pc : Nat) (nb : Int) (w : World) :
    Calls Try.prog 10 #[.slice a n c, puV s num (.slice pa pn pc), .int .u64 nb] w fun e w' => e = .returned (.bool true) ∧ Fr [] w w' := by
  have b0 := Blk.new w #[.string s, .int .u64 num, .slice pa pn pc] 50
  have F0 := Lib.hid ((Fr.refl [] w).alloc (.cells #[.string s, .int .u64 num, .slice pa pn pc] 50))
  have B0 := Lib.hid b0
  have q0 := b0.cell
  have l0 := b0.lt
  clear b0
  go_enter Try.func10, Try.ntmps10
  go_upto_region 4 with ((go_at_call 28); (with_reducible refine (send_nil _ _ _ _ _ rfl).mono ?_); rintro e w1 ⟨rfl, hF⟩; have HF1 := Lib.hid hF; have b1 := hF.blk B0.out (by simp); have B1 := Lib.hid b1; have q1 := b1.cell; have l1 := b1.lt; clear hF b1 q0 l0)
  refine wp_named ?_
  intro w2 hw2
  have F2 := Lib.hid (show Fr [] w1 w2 from by rw [← hw2]; repeat' (first | (with_reducible exact Fr.refl _ _) | (with_reducible refine Fr.drew ?_) | (with_reducible refine Fr.drN ?_ _) | (with_reducible refine Fr.alloc ?_ _) | (with_reducible refine Fr.set ?_ ?_ _) | (left; simp; done) | (right; simp; done) | (right; simp; omega)))
  have C2 := Lib.hid (show Blk w2 w1.heap.size #[.string (⟨#[]⟩ : ByteArray), .int .u64 0, .slice none 0 0] 50 from by rw [← hw2]; first | (exact Blk.new _ _ _) | (repeat' (first | ((with_reducible refine Blk.mk0 _ _ _ _ ?_); first | (simp; done) | (simp; omega)) | (with_reducible refine Blk.drew ?_) | (with_reducible refine Blk.drN ?_ _) | (with_reducible refine Blk.set ?_ _ _) | (with_reducible refine Blk.other ?_ ?_ _) | (with_reducible refine Blk.alloc ?_ _) | (simp; done) | (simp; omega))))
  clear hw2 q1 l1
  have B2 := Lib.hid (F2.out.blk B1.out (by simp))
  have q2 := B2.out.cell
  have l2 := B2.out.lt
  go_upto_region 5 with ((go_at_call 20); (with_reducible refine (take_nil _ _ _ _ _ _).mono ?_); rintro e w3 ⟨rfl, hF⟩; have HF3 := Lib.hid hF; have b3 := hF.blk B2.out (by simp); have B3 := Lib.hid b3; have q3 := b3.cell; have l3 := b3.lt; have C3 := Lib.hid (hF.blk C2.out (by simp)); clear hF b3 q2 l2)
  go_upto_region 6 with ((go_at_call 22); (with_reducible refine (total_nil _ _).mono ?_); rintro e w4 ⟨rfl, rfl⟩)
  have c3 := C3.out.cell
  have cl3 := C3.out.lt
  go_wp2_with (first
    | ((go_at_call 12); (with_reducible refine (begins_any _).mono ?_); rintro e w5 ⟨rfl, hF⟩; have HF5 := Lib.hid hF; have C5 := Lib.hid (hF.blk C3.out (by simp)); have c5 := C5.out.cell; have cl5 := C5.out.lt; clear hF c3 cl3 q3 l3)
    | ((go_at_call 29); (with_reducible refine (samePu_true _ _ _ _ _ (pu_ru (s := (⟨#[]⟩ : ByteArray)) (n := 0) (v := .slice none 0 0) (l := []) (t := 50) ?_ (RD.nil _ _) (by decide)) (pu_ru (s := (⟨#[]⟩ : ByteArray)) (n := 0) (v := .slice none 0 0) (l := []) (t := 50) ?_ (RD.nil _ _) (by decide)) rfl (by decide)).mono ?_); (focus (repeat' (first | ((with_reducible refine Blk.mk0 _ _ _ _ ?_); first | (simp; done) | (simp; omega)) | (with_reducible refine Blk.drew ?_) | (with_reducible refine Blk.drN ?_ _) | (with_reducible refine Blk.set ?_ _ _) | (with_reducible refine Blk.other ?_ ?_ _) | (with_reducible refine Blk.alloc ?_ _) | (simp; done) | (simp; omega)))); (focus (repeat' (first | ((with_reducible refine Blk.mk0 _ _ _ _ ?_); first | (simp; done) | (simp; omega)) | (with_reducible refine Blk.drew ?_) | (with_reducible refine Blk.drN ?_ _) | (with_reducible refine Blk.set ?_ _ _) | (with_reducible refine Blk.other ?_ ?_ _) | (with_reducible refine Blk.alloc ?_ _) | (simp; done) | (simp; omega)))); rintro e w6 ⟨rfl, hF⟩; have HF6 := Lib.hid hF; clear hF)
    | ((go_at_call 41); (with_reducible refine (acked_nil _ _).mono ?_); rintro e w7 ⟨rfl, hF⟩; have HF7 := Lib.hid hF; clear hF)
    | ((go_at_call 30); (with_reducible refine (waiting_nil _).mono ?_); rintro e w8 ⟨rfl, rfl⟩)
    | ((go_at_call 24); (with_reducible refine (all_nil _).mono ?_); rintro e w9 ⟨rfl, rfl⟩))
  go_ret
  refine ⟨rfl, ?_⟩
  exact ((((F0.out.trans HF1.out).trans F2.out).trans HF3.out).trans HF5.out).trans ((Fr.trans (by repeat' (first | (with_reducible exact Fr.refl _ _) | (with_reducible refine Fr.drew ?_) | (with_reducible refine Fr.drN ?_ _) | (with_reducible refine Fr.alloc ?_ _) | (with_reducible refine Fr.set ?_ ?_ _) | (left; simp; done) | (right; simp; done) | (right; simp; omega))) HF6.out).trans HF7.out)
end Go.Proofs.Ytmilnhicmeblhaa
