/- The package crdt: counters. -/
import Derived.Test.YtanbfejhhnhabaaJs8
import Derived.Test.YtanbfejhhnhabaaJs3
import Derived.Test.YtanbfejhhnhabaaJs5
import Derived.Laws.LoneSync
import Derived.Laws.Cover2
import Derived.Laws.Bits64
import Derived.Laws.Bits64b
import Derived.Test.YtanbfejhhnhabaaRows
import Derived.Conc.MuLib
import Derived.Conc.MuLone
import Derived.KernelRfl
import Derived.Test.YtanbfejhhnhabaaJs4
import Derived.RegionTactic
import Derived.BigRegion
/- Floats' order, stamps: the walks. -/
namespace Go.Proofs.Ytanbfejhhnhabaa
open Go.RowKit Go.Maps Go.Sort
set_option maxRecDepth 100000
set_option linter.unusedVariables false
set_option linter.unusedSimpArgs false
set_option maxHeartbeats 4000000
theorem f64bits (a : Nat) (w : World) : (callFunc 61 #[.float .f64 a]).run Try.prog w = .ok (.value (.int .u64 a)) w := by
  have he : Extern.find Try.f61 = some Extern.MathFloatBits.float64bits := by kernel_rfl
  rw [run_callFunc_extern Try.func61 (by kernel_rfl) (by kernel_rfl) (by kernel_rfl) he]
  rfl
theorem signbit_any (a : Nat) (w : World) (ha : a < 18446744073709551616) :
    Calls Try.prog 62 #[.float .f64 a] w fun e w' => e = .returned (.bool (decide (9223372036854775808 ≤ a))) ∧ w = w' := by
  have hb := f64bits a
  by_cases h : 9223372036854775808 ≤ a
  · have e : decide (9223372036854775808 ≤ a) = true := by simpa using h
    rw [e]
    have hw : IntKind.i64.wrap (a : Int) = (a : Int) - 18446744073709551616 := by unfold IntKind.wrap; simp [IntKind.bits, IntKind.signed]; omega
    have hd : decide ((a : Int) - 18446744073709551616 < 0) = true := by simp; omega
    go_enter Try.func62, Try.ntmps62
    go_wp2
    go_ret
    exact ⟨rfl, rfl⟩
  · have e : decide (9223372036854775808 ≤ a) = false := by simpa using h
    rw [e]
    go_enter Try.func62, Try.ntmps62
    go_wp2
    go_ret
    exact ⟨rfl, rfl⟩
theorem above_any (a b : Nat) (w : World) (ha : a < 18446744073709551616) (hb : b < 18446744073709551616) :
    Calls Try.prog 50 #[.float .f64 a, .float .f64 b] w fun e w' => e = .returned (.bool (aboveF a b)) ∧ w = w' := by
  obtain ⟨R, hR⟩ : ∃ R, R = aboveF a b := ⟨_, rfl⟩
  rw [← hR]
  unfold aboveF ordF at hR
  cases h1 : (FloatKind.f64.format.order a a != some Ordering.eq) with
  | true =>
    have e : R = false := by rw [hR, h1]; simp
    clear hR
    go_enter Try.func50, Try.ntmps50
    go_wp2_with (first | ((go_at_call 62; (with_reducible refine (signbit_any b _ hb).mono ?_); rintro e w1 ⟨rfl, rfl⟩)) | ((go_at_call 62; (with_reducible refine (signbit_any a _ ha).mono ?_); rintro e w2 ⟨rfl, rfl⟩)))
    go_ret
    exact ⟨by first | (simp [*]; done) | (simp [*]; omega), rfl⟩
  | false =>
    cases h2 : (FloatKind.f64.format.order b b != some Ordering.eq) with
    | true =>
      have e : R = true := by rw [hR, h1, h2]; simp
      clear hR
      go_enter Try.func50, Try.ntmps50
      go_wp2_with (first | ((go_at_call 62; (with_reducible refine (signbit_any b _ hb).mono ?_); rintro e w1 ⟨rfl, rfl⟩)) | ((go_at_call 62; (with_reducible refine (signbit_any a _ ha).mono ?_); rintro e w2 ⟨rfl, rfl⟩)))
      go_ret
      exact ⟨by first | (simp [*]; done) | (simp [*]; omega), rfl⟩
    | false =>
      cases h3 : (FloatKind.f64.format.order a b == some Ordering.gt) with
      | true =>
        have e : R = true := by rw [hR, h1, h2, h3]; simp
        clear hR
        go_enter Try.func50, Try.ntmps50
        go_wp2_with (first | ((go_at_call 62; (with_reducible refine (signbit_any b _ hb).mono ?_); rintro e w1 ⟨rfl, rfl⟩)) | ((go_at_call 62; (with_reducible refine (signbit_any a _ ha).mono ?_); rintro e w2 ⟨rfl, rfl⟩)))
        go_ret
        exact ⟨by first | (simp [*]; done) | (simp [*]; omega), rfl⟩
      | false =>
        cases h4 : (FloatKind.f64.format.order a b == some Ordering.eq) with
        | false =>
          have e : R = false := by rw [hR, h1, h2, h3, h4]; simp
          clear hR
          go_enter Try.func50, Try.ntmps50
          go_wp2_with (first | ((go_at_call 62; (with_reducible refine (signbit_any b _ hb).mono ?_); rintro e w1 ⟨rfl, rfl⟩)) | ((go_at_call 62; (with_reducible refine (signbit_any a _ ha).mono ?_); rintro e w2 ⟨rfl, rfl⟩)))
          go_ret
          exact ⟨by first | (simp [*]; done) | (simp [*]; omega), rfl⟩
        | true =>
          cases h5 : decide (9223372036854775808 ≤ b) with
          | false =>
            have e : R = false := by rw [hR, h1, h2, h3, h4, h5]; simp
            clear hR
            go_enter Try.func50, Try.ntmps50
            go_wp2_with (first | ((go_at_call 62; (with_reducible refine (signbit_any b _ hb).mono ?_); rintro e w1 ⟨rfl, rfl⟩)) | ((go_at_call 62; (with_reducible refine (signbit_any a _ ha).mono ?_); rintro e w2 ⟨rfl, rfl⟩)))
            go_ret
            exact ⟨by first | (simp [*]; done) | (simp [*]; omega), rfl⟩
          | true =>
            cases h6 : decide (9223372036854775808 ≤ a) with
            | false =>
              have e : R = true := by rw [hR, h1, h2, h3, h4, h5, h6]; simp
              clear hR
              go_enter Try.func50, Try.ntmps50
              go_wp2_with (first | ((go_at_call 62; (with_reducible refine (signbit_any b _ hb).mono ?_); rintro e w1 ⟨rfl, rfl⟩)) | ((go_at_call 62; (with_reducible refine (signbit_any a _ ha).mono ?_); rintro e w2 ⟨rfl, rfl⟩)))
              go_ret
              exact ⟨by first | (simp [*]; done) | (simp [*]; omega), rfl⟩
            | true =>
              have e : R = false := by rw [hR, h1, h2, h3, h4, h5, h6]; simp
              clear hR
              go_enter Try.func50, Try.ntmps50
              go_wp2_with (first | ((go_at_call 62; (with_reducible refine (signbit_any b _ hb).mono ?_); rintro e w1 ⟨rfl, rfl⟩)) | ((go_at_call 62; (with_reducible refine (signbit_any a _ ha).mono ?_); rintro e w2 ⟨rfl, rfl⟩)))
              go_ret
              exact ⟨by first | (simp [*]; done) | (simp [*]; omega), rfl⟩
theorem max_u64 : IntKind.u64.max = ((18446744073709551615 : Nat) : Int) := by decide
theorem xor_all {a : Nat} (ha : a < 18446744073709551616) : bits BinOp.xor .u64 IntKind.u64.max (a : Int) = ((18446744073709551615 - a : Nat) : Int) := by
  rw [max_u64, bits_xor_u64_nat _ _ (by decide) ha]
  have h := BitVec.toNat_not (x := BitVec.ofNat 64 a)
  rw [← BitVec.xor_allOnes, BitVec.toNat_xor, BitVec.toNat_allOnes, BitVec.toNat_ofNat, Nat.mod_eq_of_lt (by omega)] at h
  have e : (2 : Nat) ^ 64 = 18446744073709551616 := by decide
  rw [e] at h
  rw [Nat.xor_comm]
  exact congrArg _ h
theorem or_top {a : Nat} (ha : a < 9223372036854775808) : bits BinOp.or .u64 (a : Int) 9223372036854775808 = ((a + 9223372036854775808 : Nat) : Int) := by
  rw [show (9223372036854775808 : Int) = ((9223372036854775808 : Nat) : Int) from rfl, bits_or_u64_nat _ _ (by omega) (by decide)]
  congr 1
  have h := Nat.two_pow_add_eq_or_of_lt (i := 63) (b := a) (by simpa using ha) 1
  simp only [Nat.mul_one] at h
  rw [Nat.or_comm]
  have e : (2 : Nat) ^ 63 = 9223372036854775808 := by decide
  rw [e] at h
  omega
theorem rank_any (a : Nat) (w : World) (ha : a < 18446744073709551616) :
    Calls Try.prog 63 #[.float .f64 a] w fun e w' => e = .returned (.tuple #[.bool true, .int .u64 (rankF a)]) ∧ w = w' := by
  have hb := f64bits a
  unfold rankF
  by_cases h : 9223372036854775808 ≤ a
  · rw [if_pos h]
    have hd : ((a : Int) / 9223372036854775808 == 1) = true := by simp; omega
    have hx := xor_all ha
    go_enter Try.func63, Try.ntmps63
    go_wp2
    go_ret2
    exact ⟨by simp [hx], rfl⟩
  · rw [if_neg h]
    have hd : ((a : Int) / 9223372036854775808 == 1) = false := by simp; omega
    have hx := or_top (a := a) (by omega)
    go_enter Try.func63, Try.ntmps63
    go_wp2
    go_ret2
    exact ⟨by simp [hx], rfl⟩
theorem rabove_any (a b : Nat) (w : World) (ha : a < 18446744073709551616) (hb : b < 18446744073709551616) :
    Calls Try.prog 51 #[.float .f64 a, .float .f64 b] w fun e w' => e = .returned (.bool (aboveF a b)) ∧ w = w' := by
  obtain ⟨R, hR⟩ : ∃ R, R = aboveF a b := ⟨_, rfl⟩
  rw [← hR]
  rw [above_rank ha hb] at hR
  unfold raboveF ordF at hR
  cases h1 : (FloatKind.f64.format.order a a != some Ordering.eq) with
  | true =>
    have e : R = false := by rw [hR, h1]; simp
    clear hR
    go_enter Try.func51, Try.ntmps51
    go_wp2_with (first | ((go_at_call 63; (with_reducible refine (rank_any a _ ha).mono ?_); rintro e w1 ⟨rfl, rfl⟩)) | ((go_at_call 63; (with_reducible refine (rank_any b _ hb).mono ?_); rintro e w2 ⟨rfl, rfl⟩)))
    go_ret
    exact ⟨by first | (simp [*]; done) | (simp [*]; omega), rfl⟩
  | false =>
    cases h2 : (FloatKind.f64.format.order b b != some Ordering.eq) with
    | true =>
      have e : R = true := by rw [hR, h1, h2]; simp
      clear hR
      go_enter Try.func51, Try.ntmps51
      go_wp2_with (first | ((go_at_call 63; (with_reducible refine (rank_any a _ ha).mono ?_); rintro e w1 ⟨rfl, rfl⟩)) | ((go_at_call 63; (with_reducible refine (rank_any b _ hb).mono ?_); rintro e w2 ⟨rfl, rfl⟩)))
      go_ret
      exact ⟨by first | (simp [*]; done) | (simp [*]; omega), rfl⟩
    | false =>
      by_cases h3 : rankF b < rankF a
      · have e : R = true := by rw [hR, h1, h2]; simp [h3]
        have h3i : (rankF b : Int) < (rankF a : Int) := by omega
        clear hR h3
        go_enter Try.func51, Try.ntmps51
        go_wp2_with (first | ((go_at_call 63; (with_reducible refine (rank_any a _ ha).mono ?_); rintro e w1 ⟨rfl, rfl⟩)) | ((go_at_call 63; (with_reducible refine (rank_any b _ hb).mono ?_); rintro e w2 ⟨rfl, rfl⟩)))
        go_ret
        exact ⟨by first | (simp [*]; done) | (simp [*]; omega), rfl⟩
      · have e : R = false := by rw [hR, h1, h2]; simp [h3]
        have h3i : ¬ (rankF b : Int) < (rankF a : Int) := by omega
        clear hR h3
        go_enter Try.func51, Try.ntmps51
        go_wp2_with (first | ((go_at_call 63; (with_reducible refine (rank_any a _ ha).mono ?_); rintro e w1 ⟨rfl, rfl⟩)) | ((go_at_call 63; (with_reducible refine (rank_any b _ hb).mono ?_); rintro e w2 ⟨rfl, rfl⟩)))
        go_ret
        exact ⟨by first | (simp [*]; done) | (simp [*]; omega), rfl⟩
theorem fsame_any (a : Nat) (w : World) :
    Calls Try.prog 49 #[.float .f64 a, .float .f64 a] w fun e w' => e = .returned (.bool true) ∧ w = w' := by
  have hb := f64bits a
  cases h1 : (FloatKind.f64.format.order a a != some Ordering.eq) with
  | true =>
    go_enter Try.func49, Try.ntmps49
    go_wp2
    go_ret
    exact ⟨by simp, rfl⟩
  | false =>
    go_enter Try.func49, Try.ntmps49
    go_wp2
    go_ret
    exact ⟨by simp, rfl⟩
/-- Stamps. -/
structure Sp where
  at_ : Int
  nm : ByteArray
  v : Nat
abbrev spV (s : Sp) : Value := .agg #[.int .i64 s.at_, .string s.nm, .float .f64 s.v]
def laterF (s t : Sp) : Bool := if s.at_ = t.at_ then (if s.nm = t.nm then aboveF t.v s.v else Op.bytesLess s.nm.toList t.nm.toList) else decide (s.at_ < t.at_)
theorem later_any (s t : Sp) (w : World) (hs : s.v < 18446744073709551616) (ht : t.v < 18446744073709551616) :
    Calls Try.prog 29 #[spV s, spV t] w fun e w' => e = .returned (spV (if laterF s t = true then t else s)) ∧ Fr [] w w' := by
  obtain ⟨R, hR⟩ : ∃ R, R = laterF s t := ⟨_, rfl⟩
  rw [← hR]
  obtain ⟨sa, sn, sv⟩ := s
  obtain ⟨ta, tn, tv⟩ := t
  simp only at hs ht
  have hst : ∀ (x : Addr) (y : Nat) (m : Mode) (W : World), (store x (.float .f64 y) m).run Try.prog W = stored Try.prog W x (.float .f64 y) m := fun x y m W => run_store Try.prog W x _ m rfl
  unfold laterF at hR
  simp only at hR
  by_cases c1 : sa = ta
  · rw [if_pos c1] at hR
    subst c1
    by_cases c2 : sn = tn
    · rw [if_pos c2] at hR
      subst c2
      cases c3 : aboveF tv sv with
      | true =>
        have e : R = true := by rw [hR, c3]
        clear hR
        subst e
        have e : (if true = true then (⟨sa, sn, tv⟩ : Sp) else ⟨sa, sn, sv⟩) = ⟨sa, sn, tv⟩ := rfl
        go_enter Try.func29, Try.ntmps29
        go_wp2_with (go_at_call 50; (with_reducible refine (above_any tv sv _ ht hs).mono ?_); rintro e w1 ⟨rfl, rfl⟩)
        refine bodyPost_ret (v := .agg #[.int .i64 sa, .string sn, .float .f64 tv]) (by simp [results, Try.results29, go_sem, *]) rfl ?_
        exact ⟨by first | rfl | (rw [e]; rfl), by repeat' (first | (with_reducible exact Fr.refl _ _) | (with_reducible refine Fr.drew ?_) | (with_reducible refine Fr.drN ?_ _) | (with_reducible refine Fr.alloc ?_ _) | (with_reducible refine Fr.set ?_ ?_ _) | (left; simp; done) | (right; simp; done) | (right; simp; omega))⟩
      | false =>
        have e : R = false := by rw [hR, c3]
        clear hR
        subst e
        have e : (if false = true then (⟨sa, sn, tv⟩ : Sp) else ⟨sa, sn, sv⟩) = ⟨sa, sn, sv⟩ := rfl
        go_enter Try.func29, Try.ntmps29
        go_wp2_with (go_at_call 50; (with_reducible refine (above_any tv sv _ ht hs).mono ?_); rintro e w1 ⟨rfl, rfl⟩)
        refine bodyPost_ret (v := .agg #[.int .i64 sa, .string sn, .float .f64 sv]) (by simp [results, Try.results29, go_sem, *]) rfl ?_
        exact ⟨by first | rfl | (rw [e]; rfl), by repeat' (first | (with_reducible exact Fr.refl _ _) | (with_reducible refine Fr.drew ?_) | (with_reducible refine Fr.drN ?_ _) | (with_reducible refine Fr.alloc ?_ _) | (with_reducible refine Fr.set ?_ ?_ _) | (left; simp; done) | (right; simp; done) | (right; simp; omega))⟩
    · rw [if_neg c2] at hR
      have c2' : ¬ tn = sn := fun h => c2 h.symm
      have c4 := ba_beq c2
      have c5 := ba_beq c2'
      cases c3 : Op.bytesLess sn.toList tn.toList with
      | true =>
        have c6 : Op.bytesLess tn.toList sn.toList = false := by
          rw [bytesLess_lt] at c3 ⊢
          have h := of_decide_eq_true c3
          exact decide_eq_false (fun k => bts_irrefl _ (bts_trans h k))
        have e : R = true := by rw [hR, c3]
        clear hR
        subst e
        have e : (if true = true then (⟨sa, tn, tv⟩ : Sp) else ⟨sa, sn, sv⟩) = ⟨sa, tn, tv⟩ := rfl
        go_enter Try.func29, Try.ntmps29
        go_wp2_with (go_at_call 50; (with_reducible refine (above_any tv sv _ ht hs).mono ?_); rintro e w1 ⟨rfl, rfl⟩)
        refine bodyPost_ret (v := .agg #[.int .i64 sa, .string tn, .float .f64 tv]) (by simp [results, Try.results29, go_sem, *]) rfl ?_
        exact ⟨by first | rfl | (rw [e]; rfl), by repeat' (first | (with_reducible exact Fr.refl _ _) | (with_reducible refine Fr.drew ?_) | (with_reducible refine Fr.drN ?_ _) | (with_reducible refine Fr.alloc ?_ _) | (with_reducible refine Fr.set ?_ ?_ _) | (left; simp; done) | (right; simp; done) | (right; simp; omega))⟩
      | false =>
        have c6 : Op.bytesLess tn.toList sn.toList = true := by
          rw [bytesLess_lt] at c3 ⊢
          have h := of_decide_eq_false c3
          exact decide_eq_true (bts_lt_of h c2)
        have e : R = false := by rw [hR, c3]
        clear hR
        subst e
        have e : (if false = true then (⟨sa, tn, tv⟩ : Sp) else ⟨sa, sn, sv⟩) = ⟨sa, sn, sv⟩ := rfl
        go_enter Try.func29, Try.ntmps29
        go_wp2_with (go_at_call 50; (with_reducible refine (above_any tv sv _ ht hs).mono ?_); rintro e w1 ⟨rfl, rfl⟩)
        refine bodyPost_ret (v := .agg #[.int .i64 sa, .string sn, .float .f64 sv]) (by simp [results, Try.results29, go_sem, *]) rfl ?_
        exact ⟨by first | rfl | (rw [e]; rfl), by repeat' (first | (with_reducible exact Fr.refl _ _) | (with_reducible refine Fr.drew ?_) | (with_reducible refine Fr.drN ?_ _) | (with_reducible refine Fr.alloc ?_ _) | (with_reducible refine Fr.set ?_ ?_ _) | (left; simp; done) | (right; simp; done) | (right; simp; omega))⟩
  · rw [if_neg c1] at hR
    have c1b : (sa == ta) = false := by simpa using c1
    have c1c : ¬ ta = sa := fun h => c1 h.symm
    have c1d : (ta == sa) = false := by simpa using c1c
    by_cases c3 : sa < ta
    · have e : R = true := by rw [hR]; simp [c3]
      clear hR
      subst e
      have e : (if true = true then (⟨ta, tn, tv⟩ : Sp) else ⟨sa, sn, sv⟩) = ⟨ta, tn, tv⟩ := rfl
      go_enter Try.func29, Try.ntmps29
      go_wp2_with (go_at_call 50; (with_reducible refine (above_any tv sv _ ht hs).mono ?_); rintro e w1 ⟨rfl, rfl⟩)
      refine bodyPost_ret (v := .agg #[.int .i64 ta, .string tn, .float .f64 tv]) (by simp [results, Try.results29, go_sem, *]) rfl ?_
      exact ⟨by first | rfl | (rw [e]; rfl), by repeat' (first | (with_reducible exact Fr.refl _ _) | (with_reducible refine Fr.drew ?_) | (with_reducible refine Fr.drN ?_ _) | (with_reducible refine Fr.alloc ?_ _) | (with_reducible refine Fr.set ?_ ?_ _) | (left; simp; done) | (right; simp; done) | (right; simp; omega))⟩
    · have e : R = false := by rw [hR]; simp [c3]
      clear hR
      subst e
      have e : (if false = true then (⟨ta, tn, tv⟩ : Sp) else ⟨sa, sn, sv⟩) = ⟨sa, sn, sv⟩ := rfl
      go_enter Try.func29, Try.ntmps29
      go_wp2_with (go_at_call 50; (with_reducible refine (above_any tv sv _ ht hs).mono ?_); rintro e w1 ⟨rfl, rfl⟩)
      refine bodyPost_ret (v := .agg #[.int .i64 sa, .string sn, .float .f64 sv]) (by simp [results, Try.results29, go_sem, *]) rfl ?_
      exact ⟨by first | rfl | (rw [e]; rfl), by repeat' (first | (with_reducible exact Fr.refl _ _) | (with_reducible refine Fr.drew ?_) | (with_reducible refine Fr.drN ?_ _) | (with_reducible refine Fr.alloc ?_ _) | (with_reducible refine Fr.set ?_ ?_ _) | (left; simp; done) | (right; simp; done) | (right; simp; omega))⟩
theorem rlater_any (s t : Sp) (w : World) (hs : s.v < 18446744073709551616) (ht : t.v < 18446744073709551616) :
    Calls Try.prog 30 #[spV s, spV t] w fun e w' => e = .returned (spV (if laterF s t = true then t else s)) ∧ Fr [] w w' := by
  obtain ⟨R, hR⟩ : ∃ R, R = laterF s t := ⟨_, rfl⟩
  rw [← hR]
  obtain ⟨sa, sn, sv⟩ := s
  obtain ⟨ta, tn, tv⟩ := t
  simp only at hs ht
  have hst : ∀ (x : Addr) (y : Nat) (m : Mode) (W : World), (store x (.float .f64 y) m).run Try.prog W = stored Try.prog W x (.float .f64 y) m := fun x y m W => run_store Try.prog W x _ m rfl
  unfold laterF at hR
  simp only at hR
  by_cases c1 : sa = ta
  · rw [if_pos c1] at hR
    subst c1
    by_cases c2 : sn = tn
    · rw [if_pos c2] at hR
      subst c2
      cases c3 : aboveF tv sv with
      | true =>
        have e : R = true := by rw [hR, c3]
        clear hR
        subst e
        have e : (if true = true then (⟨sa, sn, tv⟩ : Sp) else ⟨sa, sn, sv⟩) = ⟨sa, sn, tv⟩ := rfl
        go_enter Try.func30, Try.ntmps30
        go_wp2_with (go_at_call 51; (with_reducible refine (rabove_any tv sv _ ht hs).mono ?_); rintro e w1 ⟨rfl, rfl⟩)
        refine bodyPost_ret (v := .agg #[.int .i64 sa, .string sn, .float .f64 tv]) (by simp [results, Try.results30, go_sem, *]) rfl ?_
        exact ⟨by first | rfl | (rw [e]; rfl), by repeat' (first | (with_reducible exact Fr.refl _ _) | (with_reducible refine Fr.drew ?_) | (with_reducible refine Fr.drN ?_ _) | (with_reducible refine Fr.alloc ?_ _) | (with_reducible refine Fr.set ?_ ?_ _) | (left; simp; done) | (right; simp; done) | (right; simp; omega))⟩
      | false =>
        have e : R = false := by rw [hR, c3]
        clear hR
        subst e
        have e : (if false = true then (⟨sa, sn, tv⟩ : Sp) else ⟨sa, sn, sv⟩) = ⟨sa, sn, sv⟩ := rfl
        go_enter Try.func30, Try.ntmps30
        go_wp2_with (go_at_call 51; (with_reducible refine (rabove_any tv sv _ ht hs).mono ?_); rintro e w1 ⟨rfl, rfl⟩)
        refine bodyPost_ret (v := .agg #[.int .i64 sa, .string sn, .float .f64 sv]) (by simp [results, Try.results30, go_sem, *]) rfl ?_
        exact ⟨by first | rfl | (rw [e]; rfl), by repeat' (first | (with_reducible exact Fr.refl _ _) | (with_reducible refine Fr.drew ?_) | (with_reducible refine Fr.drN ?_ _) | (with_reducible refine Fr.alloc ?_ _) | (with_reducible refine Fr.set ?_ ?_ _) | (left; simp; done) | (right; simp; done) | (right; simp; omega))⟩
    · rw [if_neg c2] at hR
      have c2' : ¬ tn = sn := fun h => c2 h.symm
      have c4 := ba_beq c2
      have c5 := ba_beq c2'
      cases c3 : Op.bytesLess sn.toList tn.toList with
      | true =>
        have c6 : Op.bytesLess tn.toList sn.toList = false := by
          rw [bytesLess_lt] at c3 ⊢
          have h := of_decide_eq_true c3
          exact decide_eq_false (fun k => bts_irrefl _ (bts_trans h k))
        have e : R = true := by rw [hR, c3]
        clear hR
        subst e
        have e : (if true = true then (⟨sa, tn, tv⟩ : Sp) else ⟨sa, sn, sv⟩) = ⟨sa, tn, tv⟩ := rfl
        go_enter Try.func30, Try.ntmps30
        go_wp2_with (go_at_call 51; (with_reducible refine (rabove_any tv sv _ ht hs).mono ?_); rintro e w1 ⟨rfl, rfl⟩)
        refine bodyPost_ret (v := .agg #[.int .i64 sa, .string tn, .float .f64 tv]) (by simp [results, Try.results30, go_sem, *]) rfl ?_
        exact ⟨by first | rfl | (rw [e]; rfl), by repeat' (first | (with_reducible exact Fr.refl _ _) | (with_reducible refine Fr.drew ?_) | (with_reducible refine Fr.drN ?_ _) | (with_reducible refine Fr.alloc ?_ _) | (with_reducible refine Fr.set ?_ ?_ _) | (left; simp; done) | (right; simp; done) | (right; simp; omega))⟩
      | false =>
        have c6 : Op.bytesLess tn.toList sn.toList = true := by
          rw [bytesLess_lt] at c3 ⊢
          have h := of_decide_eq_false c3
          exact decide_eq_true (bts_lt_of h c2)
        have e : R = false := by rw [hR, c3]
        clear hR
        subst e
        have e : (if false = true then (⟨sa, tn, tv⟩ : Sp) else ⟨sa, sn, sv⟩) = ⟨sa, sn, sv⟩ := rfl
        go_enter Try.func30, Try.ntmps30
        go_wp2_with (go_at_call 51; (with_reducible refine (rabove_any tv sv _ ht hs).mono ?_); rintro e w1 ⟨rfl, rfl⟩)
        refine bodyPost_ret (v := .agg #[.int .i64 sa, .string sn, .float .f64 sv]) (by simp [results, Try.results30, go_sem, *]) rfl ?_
        exact ⟨by first | rfl | (rw [e]; rfl), by repeat' (first | (with_reducible exact Fr.refl _ _) | (with_reducible refine Fr.drew ?_) | (with_reducible refine Fr.drN ?_ _) | (with_reducible refine Fr.alloc ?_ _) | (with_reducible refine Fr.set ?_ ?_ _) | (left; simp; done) | (right; simp; done) | (right; simp; omega))⟩
  · rw [if_neg c1] at hR
    have c1b : (sa == ta) = false := by simpa using c1
    have c1c : ¬ ta = sa := fun h => c1 h.symm
    have c1d : (ta == sa) = false := by simpa using c1c
    by_cases c3 : sa < ta
    · have e : R = true := by rw [hR]; simp [c3]
      clear hR
      subst e
      have e : (if true = true then (⟨ta, tn, tv⟩ : Sp) else ⟨sa, sn, sv⟩) = ⟨ta, tn, tv⟩ := rfl
      go_enter Try.func30, Try.ntmps30
      go_wp2_with (go_at_call 51; (with_reducible refine (rabove_any tv sv _ ht hs).mono ?_); rintro e w1 ⟨rfl, rfl⟩)
      refine bodyPost_ret (v := .agg #[.int .i64 ta, .string tn, .float .f64 tv]) (by simp [results, Try.results30, go_sem, *]) rfl ?_
      exact ⟨by first | rfl | (rw [e]; rfl), by repeat' (first | (with_reducible exact Fr.refl _ _) | (with_reducible refine Fr.drew ?_) | (with_reducible refine Fr.drN ?_ _) | (with_reducible refine Fr.alloc ?_ _) | (with_reducible refine Fr.set ?_ ?_ _) | (left; simp; done) | (right; simp; done) | (right; simp; omega))⟩
    · have e : R = false := by rw [hR]; simp [c3]
      clear hR
      subst e
      have e : (if false = true then (⟨ta, tn, tv⟩ : Sp) else ⟨sa, sn, sv⟩) = ⟨sa, sn, sv⟩ := rfl
      go_enter Try.func30, Try.ntmps30
      go_wp2_with (go_at_call 51; (with_reducible refine (rabove_any tv sv _ ht hs).mono ?_); rintro e w1 ⟨rfl, rfl⟩)
      refine bodyPost_ret (v := .agg #[.int .i64 sa, .string sn, .float .f64 sv]) (by simp [results, Try.results30, go_sem, *]) rfl ?_
      exact ⟨by first | rfl | (rw [e]; rfl), by repeat' (first | (with_reducible exact Fr.refl _ _) | (with_reducible refine Fr.drew ?_) | (with_reducible refine Fr.drN ?_ _) | (with_reducible refine Fr.alloc ?_ _) | (with_reducible refine Fr.set ?_ ?_ _) | (left; simp; done) | (right; simp; done) | (right; simp; omega))⟩
theorem sameStamp_any (s : Sp) (w : World) :
    Calls Try.prog 28 #[spV s, spV s] w fun e w' => e = .returned (.bool true) ∧ Fr [] w w' := by
  obtain ⟨sa, sn, sv⟩ := s
  go_enter Try.func28, Try.ntmps28
  go_wp2_with (go_at_call 49; (with_reducible refine (fsame_any sv _).mono ?_); rintro e w1 ⟨rfl, rfl⟩)
  go_ret
  exact ⟨rfl, by repeat' (first | (with_reducible exact Fr.refl _ _) | (with_reducible refine Fr.drew ?_) | (with_reducible refine Fr.drN ?_ _) | (with_reducible refine Fr.alloc ?_ _) | (with_reducible refine Fr.set ?_ ?_ _) | (left; simp; done) | (right; simp; done) | (right; simp; omega))⟩
end Go.Proofs.Ytanbfejhhnhabaa

/- The numbers under which this translation holds the library's lock, and that it holds it. -/
namespace Go.Proofs.Ytanbfejhhnhabaa
abbrev muLink : Go.Conc.Locks.MuLink := { lock := 34, unlock := 35, ilock := 54, iunlock := 55, lockSlow := 68, unlockSlow := 71, disable := 64, enable := 66, acquire := 67, relMerge := 69, cas32 := 65, add32 := 70, tMutex := 75, tIMutex := 73, tPMutex := 93, tPIMutex := 103, tPI32 := 105, tUP := 107, tNoCopy := 70, tU32 := 71 }
theorem muLib : Go.Conc.Locks.MuLib Try.prog muLink :=
  ⟨Try.func34, Try.func35, Try.func54, Try.func55, Try.func64, Try.func66, Try.func67, Try.func69, Try.func65, Try.func70, Try.underlying73, Try.runUnderlying73, Try.sizeOf73, Try.isAgg73, Try.zeroValue73, Try.underlying75, Try.runUnderlying75, Try.sizeOf75, Try.isAgg75, Try.zeroValue75, Try.underlying93, Try.runUnderlying93, Try.sizeOf93, Try.isAgg93, Try.zeroValue93, Try.underlying103, Try.runUnderlying103, Try.sizeOf103, Try.isAgg103, Try.zeroValue103, Try.underlying105, Try.runUnderlying105, Try.sizeOf105, Try.isAgg105, Try.zeroValue105, Try.underlying107, Try.runUnderlying107, Try.sizeOf107, Try.isAgg107, Try.zeroValue107, Try.underlying70, Try.runUnderlying70, Try.sizeOf70, Try.isAgg70, Try.zeroValue70, Try.underlying21, Try.runUnderlying21, Try.sizeOf21, Try.isAgg21, Try.zeroValue21, (by kernel_rfl)⟩
end Go.Proofs.Ytanbfejhhnhabaa

namespace Go.Proofs.Ytanbfejhhnhabaa
open Go.RowKit Go.Maps Go.Sort
set_option maxRecDepth 100000
set_option linter.unusedVariables false
set_option linter.unusedSimpArgs false
set_option maxHeartbeats 8000000
theorem NM.tight {w : World} {b n : Nat} {l : List Nd} (h : NM w b n l) (hg : Good l) : NM w b l.length l := by
  obtain ⟨D, ho, hD⟩ := h.ex
  have hp := names_perm ho hD hg
  have e : Maps.size D = l.length := by
    rw [size_keys ho.isMap, ← hp.length_eq]; simp
  refine ⟨D, ?_, hD⟩
  obtain ⟨es, clock, h1, h2, h3, h4⟩ := ho
  refine ⟨es, clock, h1, h2, ?_, h4⟩
  rw [h4] at e
  have e2 : es.size = l.length := by rw [← e]; show es.size = (List.foldr DataW.insert [] _).length; rw [length_sorted]; simp
  omega
/-- A counter in memory. -/
structure CT (w : World) (bc b : Nat) (m : Int) (nm : ByteArray) (l : List Nd) : Prop where
  blk : Blk w bc #[.int .i32 m, .int .u32 0, .string nm, .map (some b)] 77
  nm_ : NM w b l.length l
  good : Good l
  bnd : Bnd l
  len : l.length ≤ 64
  nsz : nameF nm = true
theorem CT.ne {w : World} {bc b : Nat} {m : Int} {nm : ByteArray} {l : List Nd} (h : CT w bc b m nm l) : bc ≠ b := h.nm_.neBlk h.blk
theorem CT.fr {S : List Nat} {w w' : World} {bc b : Nat} {m : Int} {nm : ByteArray} {l : List Nd} (h : CT w bc b m nm l) (f : Fr S w w') (h1 : bc ∉ S) (h2 : b ∉ S) : CT w' bc b m nm l :=
  ⟨f.blk h.blk h1, h.nm_.fr f h2, h.good, h.bnd, h.len, h.nsz⟩
theorem CT.fr0 {w w' : World} {bc b : Nat} {m : Int} {nm : ByteArray} {l : List Nd} (h : CT w bc b m nm l) (f : Fr [] w w') : CT w' bc b m nm l := h.fr f (by simp) (by simp)
theorem CT.lock {w : World} {bc b : Nat} {m : Int} {nm : ByteArray} {l : List Nd} (h : CT w bc b m nm l) (m' : Int) : CT (w.setCell ⟨bc, 0, none⟩ (.int .i32 m')) bc b m' nm l := by
  have hF : Fr [bc] w (w.setCell ⟨bc, 0, none⟩ (.int .i32 m')) := (Fr.refl _ _).set (.inl (by simp)) _
  exact ⟨h.blk.set 0 _, h.nm_.fr hF (by simpa using h.ne.symm), h.good, h.bnd, h.len, h.nsz⟩
theorem CT.word {w : World} {bc b : Nat} {m : Int} {nm : ByteArray} {l : List Nd} (h : CT w bc b m nm l) : Cel w bc 0 (.int .i32 m) := h.blk.cel 0 rfl
open Go.MuLone in
theorem lock_free' (b o : Nat) (w : World) (h : Cel w b o (.int .i32 0)) :
    Calls Try.prog 34 #[.pointer (some ⟨b, o, none⟩)] w fun e w' => e = .returned (.tuple #[]) ∧ w.setCell ⟨b, o, none⟩ (.int .i32 1) = w' :=
  (Go.MuLone.lock_free muLib ⟨b, o, none⟩ w h.c h.f).mono fun e w' h => ⟨h.1, h.2.symm⟩
theorem new_bad (nm : ByteArray) (w : World) (h : nameF nm = false) :
    Calls Try.prog 7 #[.string nm] w fun e w' => e = .returned (.tuple #[.pointer none, .int .i64 131]) ∧ w = w' := by
  go_enter Try.func7, Try.ntmps7
  go_wp2_with ((go_at_call 31); (with_reducible refine (name_any _ _).mono ?_); rintro e w1 ⟨rfl, rfl⟩)
  go_ret2
  exact ⟨rfl, rfl⟩
theorem new_ok (nm : ByteArray) (w : World) (h : nameF nm = true) :
    Calls Try.prog 7 #[.string nm] w fun e w' => ∃ bc b, e = .returned (.tuple #[.pointer (some ⟨bc, 0, none⟩), .int .i64 0]) ∧ CT w' bc b 0 nm [] ∧ w.heap.size ≤ bc ∧ w.heap.size ≤ b ∧ Fr [] w w' := by
  have hmm := @run_makeMap Try.prog
  go_enter Try.func7, Try.ntmps7
  go_wp2_with ((go_at_call 31); (with_reducible refine (name_any _ _).mono ?_); rintro e w1 ⟨rfl, rfl⟩)
  go_ret2
  refine ⟨_, w.heap.size, rfl, ⟨Blk.mk0 _ _ _ _ (by simp), (NM.made w _ rfl).fr0 ((Fr.refl _ _).alloc _), ⟨Srt.nil, by simp⟩, fun a ha => by simp at ha, by simp, h⟩, by simp, Nat.le_refl _, ?_⟩
  repeat' (first | (with_reducible exact Fr.refl _ _) | (with_reducible refine Fr.drew ?_) | (with_reducible refine Fr.drN ?_ _) | (with_reducible refine Fr.alloc ?_ _) | (with_reducible refine Fr.set ?_ ?_ _) | (left; simp; done) | (right; simp; done) | (right; simp; omega))
theorem cstate_any (bc b : Nat) (nm : ByteArray) (l : List Nd) (w : World) (h : CT w bc b 0 nm l) :
    Calls Try.prog 10 #[.pointer (some ⟨bc, 0, none⟩)] w fun e w' => ∃ v, e = .returned v ∧ SN w' w.heap.size v l ∧ CT w' bc b 0 nm l ∧ Fr [bc] w w' := by
  have hlt := h.blk.lt
  have hw := h.word
  have hl1 := h.lock 1
  have hc := hl1.blk.cell
  have hll := hl1.blk.lt
  have hbn := h.ne
  have hn := h.len
  have HL := Lib.hid hl1
  clear hl1
  go_enter_defers Try.func10, Try.ntmps10
  go_wp2_with (first | ((go_at_call 34); (with_reducible refine (lock_free' bc 0 _ hw).mono ?_); rintro e w1 ⟨rfl, rfl⟩) | ((go_at_call 36); (with_reducible refine (state_any b _ l _ HL.out.nm_ HL.out.good (by omega) (by omega)).mono ?_); rintro e w2 ⟨v, rfl, hS, hF⟩))
  have hC := HL.out.fr0 hF
  refine leaves_cons (f := 35) (args := #[.pointer (some ⟨bc, 0, none⟩)]) (by simp) (by simp [go_sem]) ?_
  refine (Go.MuLone.unlock_deferred muLib ⟨bc, 0, none⟩ .returning _ hC.word.c hC.word.f).mono ?_
  rintro e u' w'' ⟨rfl, rfl, rfl⟩
  refine ⟨_, results_tmp rfl _ _ _, v, rfl, ?_, hC.lock 0, ?_⟩
  · have h1 := hS.fr (S := [bc]) ((Fr.refl _ _).set (p := ⟨bc, 0, none⟩) (.inl (by simp)) (.int .i32 0)) (fun g hg hm => by have := (hS.own hg).1; simp at hm this; omega)
    simpa using h1
  · refine Fr.set ?_ (.inl (by simp)) _
    exact ((Fr.refl [bc] w).set (.inl (by simp)) _).trans (hF.mono (by simp))
theorem cval_any (bc b : Nat) (nm : ByteArray) (l : List Nd) (w : World) (h : CT w bc b 0 nm l) :
    Calls Try.prog 19 #[.pointer (some ⟨bc, 0, none⟩)] w fun e w' => e = .returned (.int .i64 (valL l)) ∧ CT w' bc b 0 nm l ∧ Fr [bc] w w' := by
  have HB := h.bnd
  have HN := h.len
  have H := Lib.hid h
  clear h
  go_enter Try.func19, Try.ntmps19
  go_wp2_with (first | ((go_at_call 10); (with_reducible refine (cstate_any bc b nm l _ H.out).mono ?_); rintro e w1 ⟨v, rfl, hS, hC, hF⟩) | ((go_at_call 40); (with_reducible refine (value_any v l _ hS.rd HB HN).mono ?_); rintro e w2 ⟨rfl, hF2⟩))
  go_ret
  exact ⟨rfl, hC.fr0 hF2, hF.trans (hF2.mono (by simp))⟩
end Go.Proofs.Ytanbfejhhnhabaa
