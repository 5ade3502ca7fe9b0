/- The packages cells and feed: what New makes. -/
import Derived.Test.YthkmknnajbpjfaaDoorOps
namespace Go.Proofs.YthkmknnajbpjfaaDoor
open Go.RowKit
set_option maxRecDepth 100000
set_option linter.unusedVariables false
set_option linter.unusedSimpArgs false
set_option maxHeartbeats 2000000
theorem infoU : (Tryd.prog.info? 102).map (fun i => (i.zero, i.size, i.bytes)) = some (some (.agg #[.int .u64 0]), 1, 8) := by kernel_rfl
theorem blk_of_full {w : World} {b e n base : Nat} {xs : List Value} (h : w.ownsRow base e 1 (.slice (some ⟨b, 0, none⟩) n n) n xs) : Blk w b xs.toArray e ∧ base ≤ b := by
  obtain ⟨h1, h2⟩ := h
  rcases h2 with ⟨h3, _⟩ | ⟨g, cap, cur, h3, h4, h5, h6, h7, h8, h9⟩
  · simp at h3
  · simp at h3
    obtain ⟨rfl, rfl⟩ := h3
    refine ⟨?_, h4⟩
    unfold Blk
    rw [h5, ← h9]
    congr 2
    rw [List.take_of_length_le (by simp; omega)]
theorem Fr.of_grown {w w' : World} (h : w.grownBy w' none) : Fr [] w w' := ⟨h.os, h.tape, h.output, h.size, fun k hk _ => h.block k hk (by simp)⟩
theorem cnew_any (n : Nat) (hn : n ≤ 65536) (w : World) :
    Calls Tryd.prog 21 #[.int .i64 n] w fun e w' => ∃ bc bw, e = .returned (.tuple #[.pointer (some ⟨bc, 0, none⟩), .int .i64 0]) ∧ Blk w' bc #[.slice (some ⟨bw, 0, none⟩) n n] 86 ∧ Blk w' bw (wds (List.replicate n 0)) 102 ∧ w.heap.size ≤ bc ∧ w.heap.size ≤ bw ∧ Fr [] w w' := by
  obtain ⟨i0, hi, hz0, hz1, hz2⟩ := info_parts infoU
  go_enter Tryd.func21, Tryd.ntmps21
  go_wp2_with (at_make; refine wpList_make_full _ rfl _ _ 84 rfl w.heap.size 102 i0 (.agg #[.int .u64 0]) 1 Tryd.underlying84 hi hz0 hz1 _ _ _ _ n rfl rfl rfl rfl (by rw [hz2]; omega) (by unfold maxLen; omega) (Nat.le_refl _) ?_; intro w1 hown hgrow)
  go_ret2
  have hB := blk_of_full hown
  have hF := Fr.of_grown hgrow
  refine ⟨_, _, rfl, Blk.new _ _ _, ?_, hF.size, hB.2, hF.alloc _⟩
  refine (hB.1.alloc _).cast ?_
  have e : (madeCells (Value.agg #[Value.int IntKind.u64 0]).cells (n * 1)).toList = List.replicate n (Value.int IntKind.u64 0) := by rw [Nat.mul_one]; exact toList_madeCells_one _ n
  rw [e]; simp [wds]
theorem at_any (bc bw i n : Nat) (w : World) (h : Blk w bc #[.slice (some ⟨bw, 0, none⟩) n n] 86) (hi : i < n) (hn : n ≤ 65536) :
    Calls Tryd.prog 29 #[.pointer (some ⟨bc, 0, none⟩), .int .i64 i] w fun e w' => e = .returned (.pointer (some ⟨bw, i, none⟩)) ∧ w = w' := by
  have hc := (h.cel 0 (v := .slice (some ⟨bw, 0, none⟩) n n) rfl).c
  have hlt := h.lt
  go_enter Tryd.func29, Tryd.ntmps29
  go_wp2
  go_ret
  exact ⟨rfl, rfl⟩
theorem cstore_any (bc bw i n : Nat) (x y : Int) (w : World) (h : Blk w bc #[.slice (some ⟨bw, 0, none⟩) n n] 86) (hi : i < n) (hn : n ≤ 65536) (hc : Cel w bw i (.int .u64 x)) :
    Calls Tryd.prog 22 #[.pointer (some ⟨bc, 0, none⟩), .int .i64 i, .int .u64 y] w fun e w' => e = .returned (.tuple #[]) ∧ w.setCell ⟨bw, i, none⟩ (.int .u64 y) = w' := by
  go_enter Tryd.func22, Tryd.ntmps22
  go_wp2_with (first | ((go_at_call 29); (with_reducible refine (at_any bc bw i n _ h hi hn).mono ?_); rintro e w1 ⟨rfl, rfl⟩) | ((go_at_call 30); (with_reducible refine (u64_store bw i x y _ hc).mono ?_); rintro e w1 ⟨rfl, rfl⟩))
  first | go_end0 | refine bodyPost_ret (results_none rfl _ _ _) rfl ?_
  exact ⟨rfl, rfl⟩
/-- The words after so many rounds of New's loop. -/
def inits (size k : Nat) : List Int := (List.range (2 + 2 * size)).map fun j => if 2 ≤ j ∧ j % 2 = 0 ∧ j < 2 + 2 * k then (((j - 2) / 2 : Nat) : Int) else 0
theorem inits_zero (size : Nat) : inits size 0 = List.replicate (2 + 2 * size) 0 := by
  unfold inits
  refine List.ext_getElem (by simp) ?_
  intro i h1 h2
  simp
  omega
theorem inits_len (size k : Nat) : (inits size k).length = 2 + 2 * size := by simp [inits]
theorem inits_get (size k j : Nat) (h : j < 2 + 2 * size) : (inits size k)[j]? = some (if 2 ≤ j ∧ j % 2 = 0 ∧ j < 2 + 2 * k then (((j - 2) / 2 : Nat) : Int) else 0) := by
  unfold inits
  rw [List.getElem?_map, List.getElem?_range h]; rfl
theorem inits_succ (size k : Nat) (h : k < size) : (inits size k).set (2 + 2 * k) (k : Int) = inits size (k + 1) := by
  refine List.ext_getElem? ?_
  intro j
  by_cases hj : j < 2 + 2 * size
  · rw [List.getElem?_set, inits_get _ _ _ hj, inits_len]
    by_cases e : 2 + 2 * k = j
    · subst e
      rw [if_pos rfl, if_pos (by omega), inits_get _ _ _ hj, if_pos (by omega)]
      congr 2; omega
    · rw [if_neg e, inits_get _ _ _ hj]
      congr 1
      by_cases c : 2 ≤ j ∧ j % 2 = 0 ∧ j < 2 + 2 * k
      · rw [if_pos c, if_pos (by omega)]
      · rw [if_neg c, if_neg (by omega)]
  · rw [List.getElem?_eq_none (by rw [List.length_set, inits_len]; omega), List.getElem?_eq_none (by rw [inits_len]; omega)]
theorem inits_Q (size : Nat) (h : 2 ≤ size) (h2 : size ≤ 4096) : M.Q size 0 [] (inits size size) := by
  have hg (j : Nat) (hj : j < 2 + 2 * size) : (inits size size).getD j 0 = if 2 ≤ j ∧ j % 2 = 0 ∧ j < 2 + 2 * size then (((j - 2) / 2 : Nat) : Int) else 0 := by
    rw [List.getD_eq_getElem?_getD, inits_get _ _ _ hj]; rfl
  refine ⟨inits_len _ _, ?_, by omega, by simp, by omega, ?_, ?_, ?_, ?_⟩
  · intro j
    by_cases hj : j < 2 + 2 * size
    · rw [hg j hj]; split <;> omega
    · rw [List.getD_eq_getElem?_getD, List.getElem?_eq_none (by rw [inits_len]; omega)]; decide
  · rw [hg 0 (by omega)]; simp
  · rw [hg 1 (by omega)]; simp
  · intro i hi; simp at hi
  · intro i _ hi
    have e : M.tcell size (0 + (i : Int)) = 2 + 2 * i := by
      unfold M.tcell
      rw [Int.zero_add, Int.emod_eq_of_lt (by omega) (by omega)]; omega
    rw [e, hg _ (by omega), if_pos (by omega)]; omega
theorem new_bad (size : Int) (w : World) (h : size < 2 ∨ 4096 < size) :
    Calls Tryd.prog 7 #[.int .i64 size] w fun e w' => e = .returned (.tuple #[.pointer none, .int .i64 2]) ∧ w = w' := by
  rcases h with h | h
  · go_enter Tryd.func7, Tryd.ntmps7
    go_wp2
    go_ret2
    exact ⟨rfl, rfl⟩
  · have h' : ¬ size < 2 := by omega
    go_enter Tryd.func7, Tryd.ntmps7
    go_wp2
    go_ret2
    exact ⟨rfl, rfl⟩
theorem new_ok (size : Nat) (w : World) (h : 2 ≤ size) (h2 : size ≤ 4096) (hu : Uses w) :
    Calls Tryd.prog 7 #[.int .i64 size] w fun e w' => ∃ bf bc bw, e = .returned (.tuple #[.pointer (some ⟨bf, 0, none⟩), .int .i64 0]) ∧ QW w' bf bc bw size 0 [] ∧ w.heap.size ≤ bf ∧ w.heap.size ≤ bc ∧ w.heap.size ≤ bw ∧ Fr [] w w' := by
  have hul := hu.lt
  go_enter Tryd.func7, Tryd.ntmps7
  go_wp2_with ((go_at_call 21); (refine (cnew_any (2 + 2 * size) (by omega) _).mono ?_); rintro e w1 ⟨bc, bw, rfl, hBc, hBw, hc, hw, hF⟩)
  have hbne : bc ≠ bw := hBc.ne hBw (by decide)
  rw [← inits_zero] at hBw
  have HUS := Lib.hid hu
  clear hu
  go_loopw [21] (fun v wr => ∃ k : Nat, k ≤ size ∧ v = .int .i64 k ∧ Blk wr bc #[.slice (some ⟨bw, 0, none⟩) (2 + 2 * size) (2 + 2 * size)] 86 ∧ Blk wr bw (wds (inits size k)) 102 ∧ Fr [] w wr) (fun v _ => size - (intOf v).toNat)
  case atStart => exact ⟨0, by omega, rfl, hBc, hBw, hF⟩
  case round =>
    obtain ⟨k, hk, rfl, hC, hW, hFr⟩ := hrel
    by_cases hlt : k < size
    · obtain ⟨c, hcc⟩ : ∃ c : Nat, (2 : Int) + 2 * (k : Int) = c := ⟨2 + 2 * k, by omega⟩
      have hcel : Cel wr bw c (.int .u64 0) := hW.cel c (by rw [wds_get, inits_get _ _ _ (by omega), if_neg (by omega)]; rfl)
      have hci : c < 2 + 2 * size := by omega
      go_wp2_with ((go_at_call 22); (with_reducible refine (cstore_any bc bw c (2 + 2 * size) 0 k _ hC hci (by omega) hcel).mono ?_); rintro e w2 ⟨rfl, rfl⟩)
      go_roundw
      case rel =>
        refine ⟨k + 1, by omega, by go_num, hC.other hbne _, ?_, ?_⟩
        · have := hW.set c (.int .u64 (k : Int))
          rw [wds_set, show c = 2 + 2 * k by omega, inits_succ _ _ hlt] at this
          rw [show c = 2 + 2 * k by omega]
          exact this
        · exact hFr.set (.inr hw) _
      case measure => simp [intOf]; omega
    · obtain rfl : k = size := by omega
      go_wp2
      go_ret2
      refine ⟨wr.heap.size, bc, bw, rfl, ⟨inits k k, ⟨Blk.new _ _ _, ⟨?_, ?_, HUS.out.fr (hFr.alloc _) (by simp), by rw [inits_len]; omega, by omega⟩, inits_len _ _, h, h2, ?_⟩, inits_Q k h h2⟩, hFr.size, hc, hw, hFr.alloc _⟩
      · rw [inits_len]; exact hC.alloc _
      · exact hW.alloc _
      · have := hFr.size; omega
end Go.Proofs.YthkmknnajbpjfaaDoor
