/- OnceGets: the walk of the law. -/
import Derived.Test.YtbbnafnnbhbbcaaDoorGet
namespace Go.Proofs.YtbbnafnnbhbbcaaDoor
open Go.RowKit
set_option maxRecDepth 100000
set_option linter.unusedVariables false
set_option linter.unusedSimpArgs false
set_option maxHeartbeats 4000000
theorem gets_ok (ao : Option Addr) (b off len cap : Nat) (kf xf : Nat → Int) (w : World) (hu : Uses w)
    (ha : 0 < len → ao = some ⟨b, off, none⟩) (hb : 0 < len → b < w.heap.size) (hc : ∀ j, j < len → w.cell? ⟨b, off + j * 2, none⟩ = some (.int .u8 (kf j)) ∧ w.cell? ⟨b, off + j * 2 + 1, none⟩ = some (.int .u64 (xf j)))
    (hl : len * 16 ≤ 140737488351232) :
    Calls Tryd.prog 6 #[.slice ao len cap] w fun e w' => e = .returned (.bool true) ∧ Fr [] w w' := by
  have HU := Lib.hid hu
  have HA := Lib.hid ha
  have HB := Lib.hid hb
  have HC := Lib.hid hc
  clear hu ha hb hc
  go_enter Tryd.func6, Tryd.ntmps6
  go_wp2_with (first | ((go_at_call 7); (with_reducible refine (lives_any _ HU.out).mono ?_); rintro e w1 ⟨rfl, hF1⟩; have hs1 := hF1.size) | ((go_at_call 8); (with_reducible refine (cell_new _ (HU.out.fr hF1 (by simp))).mono ?_); rintro e w2 ⟨bq, bc, bw, rfl, hC2, hq1, hq2, hq3, hF2⟩))
  have h4 : Blk ((w2.alloc (.cells #[.int .i64 0] 3)).alloc (.cells #[.int .u64 0, .int .u64 0] 29)) w2.heap.size #[.int .i64 0] 3 := (Blk.new _ _ _).alloc _
  have h6 : Blk ((w2.alloc (.cells #[.int .i64 0] 3)).alloc (.cells #[.int .u64 0, .int .u64 0] 29)) (w2.heap.size + 1) #[.int .u64 0, .int .u64 0] 29 := Blk.mk0 _ _ _ _ (by simp)
  have hC3 := (hC2.al (.cells #[.int .i64 0] 3)).al (.cells #[.int .u64 0, .int .u64 0] 29)
  have hF3 : Fr [] w ((w2.alloc (.cells #[.int .i64 0] 3)).alloc (.cells #[.int .u64 0, .int .u64 0] 29)) := ((hF1.trans hF2).alloc _).alloc _
  have hz2 := (hF1.trans hF2).size
  obtain ⟨b4, hb4⟩ : ∃ n, n = w2.heap.size := ⟨_, rfl⟩
  have hb4w : w.heap.size ≤ b4 := by omega
  have q1 : w.heap.size ≤ bq := by omega
  have q3 : w.heap.size ≤ bw := by omega
  rw [← hb4] at h4 h6
  have HC3 := Lib.hid hC3
  have H4 := Lib.hid h4
  have H6 := Lib.hid h6
  clear hC3 h4 h6 hC2 hF1 hF2 hz2 hq1 hq2 hq3
  go_loopw [5, 22] (fun v5 v wr => ∃ (i n : Nat) (st v0 u : Int), i ≤ len ∧ v = .int .i64 i ∧ v5 = .int .i64 n ∧ n ≤ i ∧ Blk wr b4 #[.int .i64 n] 3 ∧ Blk wr (b4 + 1) #[.int .u64 st, .int .u64 v0] 29 ∧ ((st = 0 ∧ Cl wr bq bc bw 0 [0, u]) ∨ (st = 2 ∧ Cl wr bq bc bw 0 [2, v0])) ∧ Fr [] w wr) (fun _ v _ => len - (intOf v).toNat)
  case atStart => exact ⟨0, 0, 0, 0, 0, by omega, rfl, rfl, by omega, H4.out, H6.out, .inl ⟨rfl, HC3.out⟩, hF3⟩
  case round =>
    obtain ⟨i, n, st, v0, u, hi, rfl, rfl, hni, h4, h6, hst, hFr⟩ := hrel
    clear HC3 H4 H6 hF3
    rw [← hb4]
    clear hb4
    by_cases hlt : i < len
    · have ea := HA.out (by omega)
      have hbl := HB.out (by omega)
      have hcc := HC.out i hlt
      obtain ⟨x, hx⟩ : ∃ x, x = xf i := ⟨_, rfl⟩
      obtain ⟨k, hk⟩ : ∃ k, k = kf i := ⟨_, rfl⟩
      rw [← hx, ← hk] at hcc
      clear hx hk
      have c0 : wr.cell? ⟨b, off + i * 2, none⟩ = some (.int .u8 k) := by rw [World.cell?_of_block (hFr.block b hbl (by simp))]; exact hcc.1
      have c1 : wr.cell? ⟨b, off + i * 2 + 1, none⟩ = some (.int .u64 x) := by rw [World.cell?_of_block (hFr.block b hbl (by simp))]; exact hcc.2
      have hbr : b < wr.heap.size := Nat.lt_of_lt_of_le hbl hFr.size
      subst ea
      clear hcc
      have H4 := Lib.hid h4
      have H6 := Lib.hid h6
      have l4 := h4.lt
      have l6 := h6.lt
      have hzr := hFr.size
      have HFr := Lib.hid hFr
      clear h4 h6 hFr
      rcases hst with ⟨rfl, hC⟩ | ⟨rfl, hC⟩
      · have HC' := Lib.hid hC
        have r1 := hC.f.lt
        have r2 := hC.h.d.lt
        have n4 : b4 ≠ bq := fun e => by have := hC.f.ne H4.out (by decide); omega
        have n5 : b4 ≠ bw := fun e => by have := hC.h.d.ne H4.out (by decide); omega
        have n6 : b4 + 1 ≠ bq := fun e => by have := hC.f.ne H6.out (by decide); omega
        have n7 : b4 + 1 ≠ bw := fun e => by have := hC.h.d.ne H6.out (by decide); omega
        clear hC
        by_cases hk : k = 2
        · subst hk
          go_wp2_with ((go_at_call 22); (with_reducible refine (get_fail bq bc bw b4 wr.heap.size (wr.heap.size + 1) n 2 x u _ ((HC'.out.al _).al _) ((H4.out.alloc _).alloc _) ((Blk.new _ _ _).alloc _) (Blk.mk0 _ _ _ _ (by simp)) (by omega) (by omega)).mono ?_); rintro e w4 ⟨rfl, hC4, h44, hF4⟩; have h64 := hF4.blk ((H6.out.alloc _).alloc _) (by simp; omega); have h64c := h64.cell; have h64l := h64.lt; have hb9 : Blk w4 (wr.heap.size + 1) #[.bool true] 4 := hF4.blk (Blk.mk0 _ _ _ _ (by simp)) (by simp; omega); have hb9c := hb9.cell; have hb9l := hb9.lt; have h44c := h44.cell; have h44l := h44.lt)
          go_roundw
          case rel => exact ⟨i + 1, n + 1, 0, v0, u, by omega, by go_num, by go_num, by omega, by simpa using h44, h64, .inl ⟨rfl, hC4⟩, (((((HFr.out.alloc _).alloc _).mono (by simp)).trans hF4)).weaken (by intro z hz; simp at hz; right; omega)⟩
          case measure => simp [intOf]; omega
        · have hk2 : (k == 2) = false := by simpa using hk
          go_wp2_with ((go_at_call 22); (with_reducible refine (get_ok bq bc bw b4 wr.heap.size (wr.heap.size + 1) n k x u _ ((HC'.out.al _).al _) ((H4.out.alloc _).alloc _) ((Blk.new _ _ _).alloc _) (Blk.mk0 _ _ _ _ (by simp)) (by omega) (by omega)).mono ?_); rintro e w4 ⟨rfl, hC4, h44, hF4⟩; have h64 := hF4.blk ((H6.out.alloc _).alloc _) (by simp; omega); have h64c := h64.cell; have h64f := h64.free; have h64l := h64.lt; have hb9 : Blk w4 (wr.heap.size + 1) #[.bool false] 4 := hF4.blk (Blk.mk0 _ _ _ _ (by simp)) (by simp; omega); have hb9c := hb9.cell; have hb9l := hb9.lt; have hb8 : Blk w4 wr.heap.size #[.int .u8 k, .int .u64 x] 34 := hF4.blk ((Blk.new _ _ _).alloc _) (by simp; omega); have hb8c := hb8.cell; have hb8l := hb8.lt; have h44c := h44.cell; have h44l := h44.lt)
          have hfin := ((((HFr.out.alloc (.cells #[.int .u8 k, .int .u64 x] 34)).alloc (.cells #[.bool false] 4)).mono (by simp)).trans hF4).weaken (T := []) (by intro z hz; simp at hz; right; omega)
          go_roundw
          case rel =>
            refine ⟨i + 1, n + 1, 2, x, u, by omega, by go_num, by go_num, by omega, ?_, ?_, .inr ⟨rfl, ?_⟩, ?_⟩
            · have hB : Blk w4 b4 #[.int .i64 ((n + 1 : Nat) : Int)] 3 := by simpa using h44
              repeat' (first | (with_reducible exact hB) | (with_reducible refine Blk.drew ?_) | (with_reducible refine Blk.drN ?_ _) | (with_reducible refine Blk.set ?_ _ _) | (with_reducible refine Blk.other ?_ ?_ _) | (with_reducible refine Blk.alloc ?_ _) | (simp; done) | (simp; omega))
            · exact ((h64.set 0 (.int .u64 2)).set 1 (.int .u64 x)).cast (by simp)
            · refine hC4.fr (S := [b4 + 1]) ?_ (by first | (simp; done) | (simp; omega)) (by have := hC4.h.c.ne h64 (by decide); simpa using this) (by first | (simp; done) | (simp; omega)) (by have := hC4.z; first | (simp; done) | (simp; omega))
              repeat' (first | (with_reducible exact Fr.refl _ _) | (with_reducible refine Fr.drew ?_) | (with_reducible refine Fr.drN ?_ _) | (with_reducible refine Fr.alloc ?_ _) | (with_reducible refine Fr.set ?_ ?_ _) | (left; simp; done) | (right; simp; done) | (right; simp; omega))
            · repeat' (first | (with_reducible exact hfin) | (with_reducible refine Fr.drew ?_) | (with_reducible refine Fr.drN ?_ _) | (with_reducible refine Fr.alloc ?_ _) | (with_reducible refine Fr.set ?_ ?_ _) | (left; simp; done) | (right; simp; done) | (right; simp; omega))
          case measure => simp [intOf]; omega
      · have HC' := Lib.hid hC
        have r1 := hC.f.lt
        have r2 := hC.h.d.lt
        clear hC
        go_wp2_with ((go_at_call 22); (with_reducible refine (get_made bq bc bw b4 wr.heap.size (wr.heap.size + 1) v0 _ ((HC'.out.al _).al _)).mono ?_); rintro e w4 ⟨rfl, hF4⟩; have h64 := hF4.blk ((H6.out.alloc _).alloc _) (by simp); have h64c := h64.cell; have h64l := h64.lt; have h44 := hF4.blk ((H4.out.alloc _).alloc _) (by simp); have h44c := h44.cell; have h44l := h44.lt)
        go_roundw
        case rel => exact ⟨i + 1, n, 2, v0, u, by omega, by go_num, rfl, by omega, h44, h64, .inr ⟨rfl, ((HC'.out.al _).al _).fr0 hF4⟩, ((HFr.out.alloc _).alloc _).trans hF4⟩
        case measure => simp [intOf]; omega
    · obtain rfl : i = len := by omega
      have HFr := Lib.hid hFr
      clear hFr
      go_wp2_with ((go_at_call 22); (with_reducible refine (get_nil bq _).mono ?_); rintro e w4 ⟨rfl, hF4⟩)
      go_ret
      exact ⟨rfl, HFr.out.trans hF4⟩
end Go.Proofs.YtbbnafnnbhbbcaaDoor
