/- A cell that is made once: New, Start, Step, Done, Answer, Peek. -/
import Derived.Test.YtbbnafnnbhbbcaaGreatDoorPend
import Derived.Test.YtbbnafnnbhbbcaaGreatDoorSv
import Derived.Test.YtbbnafnnbhbbcaaGreatDoorAskNew
namespace Go.Proofs.YtbbnafnnbhbbcaaGreatDoor
open Go.RowKit
set_option maxRecDepth 100000
set_option linter.unusedVariables false
set_option linter.unusedSimpArgs false
set_option maxHeartbeats 2000000
theorem infoU : (Tryz.prog.info? 131).map (fun i => (i.zero, i.size, i.bytes)) = some (some (.agg #[.int .u64 0]), 1, 8) := by kernel_rfl
theorem blk_of_full {w : World} {b e n base : Nat} {xs : List Value} (h : w.ownsRow base e 1 (.slice (some ⟨b, 0, none⟩) n n) n xs) : Blk w b xs.toArray e ∧ base ≤ b := by
  obtain ⟨h1, h2⟩ := h
  rcases h2 with ⟨h3, _⟩ | ⟨g, cap, cur, h3, h4, h5, h6, h7, h8, h9⟩
  · simp at h3
  · simp at h3
    obtain ⟨rfl, rfl⟩ := h3
    refine ⟨?_, h4⟩
    unfold Blk
    rw [h5, ← h9]
    congr 2
    rw [List.take_of_length_le (by simp; omega)]
theorem Fr.of_grown {w w' : World} (h : w.grownBy w' none) : Fr [] w w' := ⟨h.os, h.tape, h.output, h.size, fun k hk _ => h.block k hk (by simp)⟩
theorem cnew_any (n : Nat) (hn : n ≤ 65536) (w : World) :
    Calls Tryz.prog 31 #[.int .i64 n] w fun e w' => ∃ bc bw, e = .returned (.tuple #[.pointer (some ⟨bc, 0, none⟩), .int .i64 0]) ∧ Blk w' bc #[.slice (some ⟨bw, 0, none⟩) n n] 111 ∧ Blk w' bw (wds (List.replicate n 0)) 131 ∧ w.heap.size ≤ bc ∧ w.heap.size ≤ bw ∧ Fr [] w w' := by
  obtain ⟨i0, hi, hz0, hz1, hz2⟩ := info_parts infoU
  go_enter Tryz.func31, Tryz.ntmps31
  go_wp2_with (at_make; refine wpList_make_full _ rfl _ _ 109 rfl w.heap.size 131 i0 (.agg #[.int .u64 0]) 1 Tryz.underlying109 hi hz0 hz1 _ _ _ _ n rfl rfl rfl rfl (by rw [hz2]; omega) (by unfold maxLen; omega) (Nat.le_refl _) ?_; intro w1 hown hgrow)
  go_ret2
  have hB := blk_of_full hown
  have hF := Fr.of_grown hgrow
  refine ⟨_, _, rfl, Blk.new _ _ _, ?_, hF.size, hB.2, hF.alloc _⟩
  refine (hB.1.alloc _).cast ?_
  have e : (madeCells (Value.agg #[Value.int IntKind.u64 0]).cells (n * 1)).toList = List.replicate n (Value.int IntKind.u64 0) := by rw [Nat.mul_one]; exact toList_madeCells_one _ n
  rw [e]; simp [wds]
theorem at_any (bc bw i n : Nat) (w : World) (h : Blk w bc #[.slice (some ⟨bw, 0, none⟩) n n] 111) (hi : i < n) (hn : n ≤ 65536) :
    Calls Tryz.prog 48 #[.pointer (some ⟨bc, 0, none⟩), .int .i64 i] w fun e w' => e = .returned (.pointer (some ⟨bw, i, none⟩)) ∧ w = w' := by
  have hc := (h.cel 0 (v := .slice (some ⟨bw, 0, none⟩) n n) rfl).c
  have hlt := h.lt
  go_enter Tryz.func48, Tryz.ntmps48
  go_wp2
  go_ret
  exact ⟨rfl, rfl⟩
/-- The words after so many rounds of New's loop. -/
def inits (size k : Nat) : List Int := (List.range (2 + 2 * size)).map fun j => if 2 ≤ j ∧ j % 2 = 0 ∧ j < 2 + 2 * k then (((j - 2) / 2 : Nat) : Int) else 0
theorem cload_any (bc bw i n : Nat) (x : Int) (w : World) (h : Blk w bc #[.slice (some ⟨bw, 0, none⟩) n n] 111) (hi : i < n) (hn : n ≤ 65536) (hc : Cel w bw i (.int .u64 x)) :
    Calls Tryz.prog 33 #[.pointer (some ⟨bc, 0, none⟩), .int .i64 i] w fun e w' => e = .returned (.int .u64 x) ∧ w = w' := by
  go_enter Tryz.func33, Tryz.ntmps33
  go_wp2_with (first | ((go_at_call 48); (with_reducible refine (at_any bc bw i n _ h hi hn).mono ?_); rintro e w1 ⟨rfl, rfl⟩) | ((go_at_call 49); (with_reducible refine (u64_load bw i x _ hc).mono ?_); rintro e w1 ⟨rfl, rfl⟩))
  go_ret
  exact ⟨rfl, rfl⟩
theorem Cl.load {w : World} {bq bc bw : Nat} {m u v : Int} (h : Cl w bq bc bw m [u, v]) (i : Nat) (x : Int) (hx : [u, v][i]? = some x) : Calls Tryz.prog 33 #[.pointer (some ⟨bc, 0, none⟩), .int .i64 i] w fun e w' => e = .returned (.int .u64 x) ∧ w = w' := by
  have hi : i < 2 := (List.getElem?_eq_some_iff.1 hx).1
  exact cload_any bc bw i 2 x w h.h.c hi (by omega) (h.h.d.cel i (by rw [wds_get, hx]; rfl))
theorem cnew2 (w : World) :
    Calls Tryz.prog 31 #[.int .i64 2] w fun e w' => ∃ bc bw, e = .returned (.tuple #[.pointer (some ⟨bc, 0, none⟩), .int .i64 0]) ∧ Blk w' bc #[.slice (some ⟨bw, 0, none⟩) 2 2] 111 ∧ Blk w' bw (wds [0, 0]) 131 ∧ w.heap.size ≤ bc ∧ w.heap.size ≤ bw ∧ Fr [] w w' := cnew_any 2 (by omega) w
theorem Cl.load0 {w : World} {bq bc bw : Nat} {m u v : Int} (h : Cl w bq bc bw m [u, v]) : Calls Tryz.prog 33 #[.pointer (some ⟨bc, 0, none⟩), .int .i64 0] w fun e w' => e = .returned (.int .u64 u) ∧ w = w' := h.load 0 u rfl
theorem Cl.load1 {w : World} {bq bc bw : Nat} {m u v : Int} (h : Cl w bq bc bw m [u, v]) : Calls Tryz.prog 33 #[.pointer (some ⟨bc, 0, none⟩), .int .i64 1] w fun e w' => e = .returned (.int .u64 v) ∧ w = w' := h.load 1 v rfl
theorem cell_new (w : World) (hu : Uses w) :
    Calls Tryz.prog 10 #[] w fun e w' => ∃ bq bc bw, e = .returned (.pointer (some ⟨bq, 0, none⟩)) ∧ Cl w' bq bc bw 0 [0, 0] ∧ w.heap.size ≤ bq ∧ w.heap.size ≤ bc ∧ w.heap.size ≤ bw ∧ Fr [] w w' := by
  have hul := hu.lt
  have HU := Lib.hid hu
  clear hu
  go_enter Tryz.func10, Tryz.ntmps10
  go_wp2_with ((go_at_call 31); (with_reducible refine (cnew2 _).mono ?_); rintro e w1 ⟨bc, bw, rfl, hb1, hb2, hl1, hl2, hF⟩)
  go_ret
  have hF2 := hF.alloc (.cells #[.pointer (some ⟨bc, 0, none⟩), .int .i32 0, .int .u32 0] 93)
  have hs := hF.size
  exact ⟨_, bc, bw, rfl, ⟨Blk.new _ _ _, ⟨hb1.alloc _, hb2.alloc _, HU.out.fr hF2 (by simp), by simp, by omega⟩, by omega⟩, hs, hl1, hl2, hF2⟩
theorem open_any (w : World) :
    Calls Tryz.prog 5 #[] w fun e w' => ∃ br, e = .returned (.pointer (some ⟨br, 0, none⟩)) ∧ Blk w' br #[.int .i32 0, .int .u32 0, .int .u32 0, .int .i32 0, .int .u32 0, .pointer none] 74 ∧ w.heap.size ≤ br ∧ Fr [] w w' := by
  go_enter Tryz.func5, Tryz.ntmps5
  go_wp2
  go_ret
  exact ⟨_, rfl, Blk.new _ _ _, Nat.le_refl _, (Fr.refl _ _).alloc _⟩
theorem RG.fresh {w : World} {br : Nat} (h : Blk w br #[.int .i32 0, .int .u32 0, .int .u32 0, .int .i32 0, .int .u32 0, .pointer none] 74) : RG w br w.heap.size 0 [] :=
  ⟨⟨0, 0, 0, none, h, .inl ⟨rfl, rfl, rfl⟩⟩, h.lt, Nat.le_refl _⟩
theorem start_make (bq : Nat) (x : Int) (w : World) (hz : 0 < w.heap.size) :
    Calls Tryz.prog 11 #[.pointer (some ⟨bq, 0, none⟩), .agg #[.int .u8 1, .int .u64 x]] w fun e w' => ∃ bp, e = .returned (.tuple #[.pointer (some ⟨bp, 0, none⟩), .int .i64 0]) ∧ Pn w' bp bq x (.func (.func 32) #[] #[]) false 0 false 0 ∧ w.heap.size ≤ bp ∧ Fr [] w w' := by
  go_enter Tryz.func11, Tryz.ntmps11
  go_wp2
  go_ret2
  refine ⟨_, rfl, ⟨Blk.mk0 _ _ _ _ (by simp), ?_⟩, ?_, ?_⟩
  · first | (simp; done) | (simp; omega)
  · first | (simp; done) | (simp; omega)
  · repeat' (first | (with_reducible exact Fr.refl _ _) | (with_reducible refine Fr.drew ?_) | (with_reducible refine Fr.drN ?_ _) | (with_reducible refine Fr.alloc ?_ _) | (with_reducible refine Fr.set ?_ ?_ _) | (left; simp; done) | (right; simp; done) | (right; simp; omega))
theorem done_any (bp bq : Nat) (x : Int) (nx : Value) (dn : Bool) (ans : Int) (own : Bool) (why : Int) (w : World) (p : Pn w bp bq x nx dn ans own why) :
    Calls Tryz.prog 15 #[.pointer (some ⟨bp, 0, none⟩)] w fun e w' => e = .returned (.bool dn) ∧ w = w' := by
  have p5 := (p.b.cel 4 (v := .bool dn) rfl).c
  go_enter Tryz.func15, Tryz.ntmps15
  go_wp2
  go_ret
  exact ⟨rfl, rfl⟩
theorem answer_any (bp bq : Nat) (x : Int) (nx : Value) (dn : Bool) (ans : Int) (own : Bool) (why : Int) (w : World) (p : Pn w bp bq x nx dn ans own why) :
    Calls Tryz.prog 13 #[.pointer (some ⟨bp, 0, none⟩)] w fun e w' => e = .returned (.tuple #[.int .u64 ans, .bool own, .int .i64 why]) ∧ Fr [] w w' := by
  have p5 := p.b.cell
  have p6 := p.b.lt
  go_enter Tryz.func13, Tryz.ntmps13
  go_wp2
  go_quiet (fail)
  go_wp2
  go_ret3
  exact ⟨rfl, (Fr.refl _ _).drN _⟩
theorem peek_made (bq bc bw : Nat) (m v : Int) (w : World) (h : Cl w bq bc bw m [2, v]) :
    Calls Tryz.prog 14 #[.pointer (some ⟨bq, 0, none⟩)] w fun e w' => e = .returned (.tuple #[.int .u64 v, .int .i64 0]) ∧ w = w' := by
  have hc := h.f.cell
  have hl := h.f.lt
  go_enter Tryz.func14, Tryz.ntmps14
  go_wp2_with (first | ((go_at_call 33); (with_reducible refine h.load0.mono ?_); rintro e w1 ⟨rfl, rfl⟩) | ((go_at_call 33); (with_reducible refine h.load1.mono ?_); rintro e w1 ⟨rfl, rfl⟩))
  go_ret2
  exact ⟨rfl, rfl⟩
theorem peek_not (bq bc bw : Nat) (m u v : Int) (w : World) (h : Cl w bq bc bw m [u, v]) (hu : (u != 2) = true) :
    Calls Tryz.prog 14 #[.pointer (some ⟨bq, 0, none⟩)] w fun e w' => e = .returned (.tuple #[.int .u64 0, .int .i64 110]) ∧ w = w' := by
  have hc := h.f.cell
  have hl := h.f.lt
  go_enter Tryz.func14, Tryz.ntmps14
  go_wp2_with ((go_at_call 33); (with_reducible refine h.load0.mono ?_); rintro e w1 ⟨rfl, rfl⟩)
  go_ret2
  exact ⟨rfl, rfl⟩
end Go.Proofs.YtbbnafnnbhbbcaaGreatDoor
