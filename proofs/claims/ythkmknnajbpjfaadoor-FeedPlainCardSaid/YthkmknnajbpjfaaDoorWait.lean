/- The package feed: wait. -/
import Derived.Test.YthkmknnajbpjfaaDoorLook
namespace Go.Proofs.YthkmknnajbpjfaaDoor
open Go.RowKit
set_option maxRecDepth 100000
set_option maxHeartbeats 2000000
theorem wait_put_lt (bp bf bc bw size : Nat) (l : List Int) (x : Int) (nx : Value) (at_ : Int) (dn : Bool) (aAt aX why : Int) (s : Int) (w : World) (h : Fd w bf bc bw size l) (p : Pd w bp bf 1 x nx at_ dn aAt aX why) (h0 : 0 ≤ at_) (h1 : at_ < 18446744073709551616) (c : Nat) (hc : c = M.tcell size at_) (hx : l[c]? = some s) (hs : s < at_) :
    Calls Tryd.prog 33 #[.pointer (some ⟨bp, 0, none⟩)] w fun e w' => e = .returned (.agg #[.int .u8 1, .int .i64 c, .int .u64 s, .int .u64 s, .bool true]) ∧ Pd w' bp bf 1 x nx at_ true aAt aX 51 ∧ Fr [bp] w w' := by
  have hpl := p.b.lt
  have HX := Lib.hid hx
  have HC := Lib.hid hc
  have h1' : at_ ≤ 18446744073709551615 := by omega
  clear hx hc h1
  have q1 : decide (s < at_) = true := decide_eq_true hs
  clear hs
  go_enter Tryd.func33, Tryd.ntmps33
  go_wp2_with (first | (go_at_call 31; refine (end_put bp bf x nx at_ dn aAt aX why _ (p.al _)).mono ?_; rintro e w1 ⟨rfl, rfl⟩) | (go_at_call 41; refine (turn_any bp bf bc bw size l 1 x nx at_ dn aAt aX why _ (h.al _) (p.al _) h0 c HC.out).mono ?_; rintro e w1 ⟨rfl, nd, rfl⟩) | (go_at_call 32; refine (act_load bp bf bc bw size c l 1 x nx at_ dn aAt aX why s _ ((h.al _).drN _) ((p.al _).drN _) HX.out).mono ?_; rintro e w1 ⟨rfl, hF⟩; have hB : Blk w1 (w.heap.size) #[.int .u8 0, .int .i64 0, .int .u64 0, .int .u64 0, .bool false] 50 := hF.blk ((Blk.new _ _ _).drN _) (by first | (simp; done) | (simp; omega)); have b1 := hB.cell; have b2 := hB.free; have hlt1 := hB.lt; have hP := hF.blk (((p.al _).drN _).b) (by first | (simp; done) | (simp; omega)); have p1 := hP.cell; have p2 := hP.free; have hpl1 := hP.lt))
  go_quiet (fail)
  go_wp2
  refine bodyPost_ret (v := .agg #[.int .u8 1, .int .i64 c, .int .u64 s, .int .u64 s, .bool true]) (by simp [results, Tryd.results33, go_sem, b1, hlt1]) rfl ⟨rfl, ?_, ?_⟩
  · apply Pd.of (cs := (Array.setIfInBounds (Array.setIfInBounds #[.pointer (some ⟨bf, 0, none⟩), .int .u8 1, .int .u64 x, nx, .int .u64 at_, .bool dn, .int .u64 aAt, .int .u64 aX, .int .i64 why] 5 (.bool true)) 8 (.int .i64 51)))
    · repeat' (first | (with_reducible exact hP) | (with_reducible refine Blk.drew ?_) | (with_reducible refine Blk.drN ?_ _) | (with_reducible refine Blk.set ?_ _ _) | (with_reducible refine Blk.other ?_ ?_ _) | (with_reducible refine Blk.alloc ?_ _) | (simp; done) | (simp; omega))
    · exact p.z
    · simp
  · replace hF := Fr.trans (a := w) (S := [bp]) (by repeat' (first | (with_reducible exact Fr.refl _ _) | (with_reducible refine Fr.drew ?_) | (with_reducible refine Fr.drN ?_ _) | (with_reducible refine Fr.alloc ?_ _) | (with_reducible refine Fr.set ?_ ?_ _) | (left; simp; done) | (right; simp; done) | (right; simp; omega))) (hF.mono (by simp))
    repeat' (first | (with_reducible exact hF) | (with_reducible refine Fr.drew ?_) | (with_reducible refine Fr.drN ?_ _) | (with_reducible refine Fr.alloc ?_ _) | (with_reducible refine Fr.set ?_ ?_ _) | (left; simp; done) | (right; simp; done) | (right; simp; omega))
theorem wait_put_gt (bp bf bc bw size : Nat) (l : List Int) (x : Int) (nx : Value) (at_ : Int) (dn : Bool) (aAt aX why : Int) (s : Int) (w : World) (h : Fd w bf bc bw size l) (p : Pd w bp bf 1 x nx at_ dn aAt aX why) (h0 : 0 ≤ at_) (h1 : at_ < 18446744073709551616) (c : Nat) (hc : c = M.tcell size at_) (hx : l[c]? = some s) (hs : at_ < s) :
    Calls Tryd.prog 33 #[.pointer (some ⟨bp, 0, none⟩)] w fun e w' => e = .returned (.agg #[.int .u8 1, .int .i64 c, .int .u64 s, .int .u64 s, .bool true]) ∧ Pd w' bp bf 1 x (.func (.func 23) #[] #[]) at_ dn aAt aX why ∧ Fr [bp] w w' := by
  have hpl := p.b.lt
  have HX := Lib.hid hx
  have HC := Lib.hid hc
  have h1' : at_ ≤ 18446744073709551615 := by omega
  clear hx hc h1
  have q1 : decide (s < at_) = false := decide_eq_false (by omega)
  have q2 : decide (at_ < s) = true := decide_eq_true hs
  clear hs
  go_enter Tryd.func33, Tryd.ntmps33
  go_wp2_with (first | (go_at_call 31; refine (end_put bp bf x nx at_ dn aAt aX why _ (p.al _)).mono ?_; rintro e w1 ⟨rfl, rfl⟩) | (go_at_call 41; refine (turn_any bp bf bc bw size l 1 x nx at_ dn aAt aX why _ (h.al _) (p.al _) h0 c HC.out).mono ?_; rintro e w1 ⟨rfl, nd, rfl⟩) | (go_at_call 32; refine (act_load bp bf bc bw size c l 1 x nx at_ dn aAt aX why s _ ((h.al _).drN _) ((p.al _).drN _) HX.out).mono ?_; rintro e w1 ⟨rfl, hF⟩; have hB : Blk w1 (w.heap.size) #[.int .u8 0, .int .i64 0, .int .u64 0, .int .u64 0, .bool false] 50 := hF.blk ((Blk.new _ _ _).drN _) (by first | (simp; done) | (simp; omega)); have b1 := hB.cell; have b2 := hB.free; have hlt1 := hB.lt; have hP := hF.blk (((p.al _).drN _).b) (by first | (simp; done) | (simp; omega)); have p1 := hP.cell; have p2 := hP.free; have hpl1 := hP.lt))
  go_quiet (fail)
  go_wp2
  go_quiet (fail)
  go_wp2
  refine bodyPost_ret (v := .agg #[.int .u8 1, .int .i64 c, .int .u64 s, .int .u64 s, .bool true]) (by simp [results, Tryd.results33, go_sem, b1, hlt1]) rfl ⟨rfl, ?_, ?_⟩
  · apply Pd.of (cs := (Array.setIfInBounds #[.pointer (some ⟨bf, 0, none⟩), .int .u8 1, .int .u64 x, nx, .int .u64 at_, .bool dn, .int .u64 aAt, .int .u64 aX, .int .i64 why] 3 (.func (.func 23) #[] #[])))
    · repeat' (first | (with_reducible exact hP) | (with_reducible refine Blk.drew ?_) | (with_reducible refine Blk.drN ?_ _) | (with_reducible refine Blk.set ?_ _ _) | (with_reducible refine Blk.other ?_ ?_ _) | (with_reducible refine Blk.alloc ?_ _) | (simp; done) | (simp; omega))
    · exact p.z
    · simp
  · replace hF := Fr.trans (a := w) (S := [bp]) (by repeat' (first | (with_reducible exact Fr.refl _ _) | (with_reducible refine Fr.drew ?_) | (with_reducible refine Fr.drN ?_ _) | (with_reducible refine Fr.alloc ?_ _) | (with_reducible refine Fr.set ?_ ?_ _) | (left; simp; done) | (right; simp; done) | (right; simp; omega))) (hF.mono (by simp))
    repeat' (first | (with_reducible exact hF) | (with_reducible refine Fr.drew ?_) | (with_reducible refine Fr.drN ?_ _) | (with_reducible refine Fr.alloc ?_ _) | (with_reducible refine Fr.set ?_ ?_ _) | (left; simp; done) | (right; simp; done) | (right; simp; omega))
theorem wait_put_eq (bp bf bc bw size : Nat) (l : List Int) (x : Int) (nx : Value) (at_ : Int) (dn : Bool) (aAt aX why : Int) (s : Int) (w : World) (h : Fd w bf bc bw size l) (p : Pd w bp bf 1 x nx at_ dn aAt aX why) (h0 : 0 ≤ at_) (h1 : at_ < 18446744073709551616) (c : Nat) (hc : c = M.tcell size at_) (hx : l[c]? = some s) (hs : s = at_) :
    Calls Tryd.prog 33 #[.pointer (some ⟨bp, 0, none⟩)] w fun e w' => e = .returned (.agg #[.int .u8 1, .int .i64 c, .int .u64 s, .int .u64 s, .bool true]) ∧ Pd w' bp bf 1 x (.func (.func 42) #[] #[]) at_ dn aAt aX why ∧ Fr [bp] w w' := by
  have hpl := p.b.lt
  have HX := Lib.hid hx
  have HC := Lib.hid hc
  have h1' : at_ ≤ 18446744073709551615 := by omega
  clear hx hc h1
  have q1 : decide (s < at_) = false := decide_eq_false (by omega)
  have q2 : decide (at_ < s) = false := decide_eq_false (by omega)
  clear hs
  go_enter Tryd.func33, Tryd.ntmps33
  go_wp2_with (first | (go_at_call 31; refine (end_put bp bf x nx at_ dn aAt aX why _ (p.al _)).mono ?_; rintro e w1 ⟨rfl, rfl⟩) | (go_at_call 41; refine (turn_any bp bf bc bw size l 1 x nx at_ dn aAt aX why _ (h.al _) (p.al _) h0 c HC.out).mono ?_; rintro e w1 ⟨rfl, nd, rfl⟩) | (go_at_call 32; refine (act_load bp bf bc bw size c l 1 x nx at_ dn aAt aX why s _ ((h.al _).drN _) ((p.al _).drN _) HX.out).mono ?_; rintro e w1 ⟨rfl, hF⟩; have hB : Blk w1 (w.heap.size) #[.int .u8 0, .int .i64 0, .int .u64 0, .int .u64 0, .bool false] 50 := hF.blk ((Blk.new _ _ _).drN _) (by first | (simp; done) | (simp; omega)); have b1 := hB.cell; have b2 := hB.free; have hlt1 := hB.lt; have hP := hF.blk (((p.al _).drN _).b) (by first | (simp; done) | (simp; omega)); have p1 := hP.cell; have p2 := hP.free; have hpl1 := hP.lt))
  go_quiet (fail)
  go_wp2
  go_quiet (fail)
  go_wp2
  refine bodyPost_ret (v := .agg #[.int .u8 1, .int .i64 c, .int .u64 s, .int .u64 s, .bool true]) (by simp [results, Tryd.results33, go_sem, b1, hlt1]) rfl ⟨rfl, ?_, ?_⟩
  · apply Pd.of (cs := (Array.setIfInBounds #[.pointer (some ⟨bf, 0, none⟩), .int .u8 1, .int .u64 x, nx, .int .u64 at_, .bool dn, .int .u64 aAt, .int .u64 aX, .int .i64 why] 3 (.func (.func 42) #[] #[])))
    · repeat' (first | (with_reducible exact hP) | (with_reducible refine Blk.drew ?_) | (with_reducible refine Blk.drN ?_ _) | (with_reducible refine Blk.set ?_ _ _) | (with_reducible refine Blk.other ?_ ?_ _) | (with_reducible refine Blk.alloc ?_ _) | (simp; done) | (simp; omega))
    · exact p.z
    · simp
  · replace hF := Fr.trans (a := w) (S := [bp]) (by repeat' (first | (with_reducible exact Fr.refl _ _) | (with_reducible refine Fr.drew ?_) | (with_reducible refine Fr.drN ?_ _) | (with_reducible refine Fr.alloc ?_ _) | (with_reducible refine Fr.set ?_ ?_ _) | (left; simp; done) | (right; simp; done) | (right; simp; omega))) (hF.mono (by simp))
    repeat' (first | (with_reducible exact hF) | (with_reducible refine Fr.drew ?_) | (with_reducible refine Fr.drN ?_ _) | (with_reducible refine Fr.alloc ?_ _) | (with_reducible refine Fr.set ?_ ?_ _) | (left; simp; done) | (right; simp; done) | (right; simp; omega))
theorem wait_take_lt (bp bf bc bw size : Nat) (l : List Int) (k t : Int) (x : Int) (nx : Value) (at_ : Int) (dn : Bool) (aAt aX why : Int) (s : Int) (w : World) (h : Fd w bf bc bw size l) (p : Pd w bp bf k x nx at_ dn aAt aX why) (hk : (k == 1) = false) (ht : IntKind.u64.wrap (at_ + 1) = t) (h0 : 0 ≤ at_) (h1 : at_ < 18446744073709551616) (c : Nat) (hc : c = M.tcell size at_) (hx : l[c]? = some s) (hs : s < t) :
    Calls Tryd.prog 33 #[.pointer (some ⟨bp, 0, none⟩)] w fun e w' => e = .returned (.agg #[.int .u8 1, .int .i64 c, .int .u64 s, .int .u64 s, .bool true]) ∧ Pd w' bp bf k x nx at_ true aAt aX 110 ∧ Fr [bp] w w' := by
  have hpl := p.b.lt
  have HX := Lib.hid hx
  have HC := Lib.hid hc
  have h1' : at_ ≤ 18446744073709551615 := by omega
  clear hx hc h1
  have q1 : decide (s < t) = true := decide_eq_true hs
  clear hs
  go_enter Tryd.func33, Tryd.ntmps33
  go_wp2_with (first | (go_at_call 31; refine (end_take bp bf k x nx at_ dn aAt aX why _ (p.al _) hk).mono ?_; rintro e w1 ⟨rfl, rfl⟩) | (go_at_call 41; refine (turn_any bp bf bc bw size l k x nx at_ dn aAt aX why _ (h.al _) (p.al _) h0 c HC.out).mono ?_; rintro e w1 ⟨rfl, nd, rfl⟩) | (go_at_call 32; refine (act_load bp bf bc bw size c l k x nx at_ dn aAt aX why s _ ((h.al _).drN _) ((p.al _).drN _) HX.out).mono ?_; rintro e w1 ⟨rfl, hF⟩; have hB : Blk w1 (w.heap.size) #[.int .u8 0, .int .i64 0, .int .u64 0, .int .u64 0, .bool false] 50 := hF.blk ((Blk.new _ _ _).drN _) (by first | (simp; done) | (simp; omega)); have b1 := hB.cell; have b2 := hB.free; have hlt1 := hB.lt; have hP := hF.blk (((p.al _).drN _).b) (by first | (simp; done) | (simp; omega)); have p1 := hP.cell; have p2 := hP.free; have hpl1 := hP.lt))
  go_quiet (fail)
  go_wp2
  refine bodyPost_ret (v := .agg #[.int .u8 1, .int .i64 c, .int .u64 s, .int .u64 s, .bool true]) (by simp [results, Tryd.results33, go_sem, b1, hlt1]) rfl ⟨rfl, ?_, ?_⟩
  · apply Pd.of (cs := (Array.setIfInBounds (Array.setIfInBounds #[.pointer (some ⟨bf, 0, none⟩), .int .u8 k, .int .u64 x, nx, .int .u64 at_, .bool dn, .int .u64 aAt, .int .u64 aX, .int .i64 why] 5 (.bool true)) 8 (.int .i64 110)))
    · repeat' (first | (with_reducible exact hP) | (with_reducible refine Blk.drew ?_) | (with_reducible refine Blk.drN ?_ _) | (with_reducible refine Blk.set ?_ _ _) | (with_reducible refine Blk.other ?_ ?_ _) | (with_reducible refine Blk.alloc ?_ _) | (simp; done) | (simp; omega))
    · exact p.z
    · simp
  · replace hF := Fr.trans (a := w) (S := [bp]) (by repeat' (first | (with_reducible exact Fr.refl _ _) | (with_reducible refine Fr.drew ?_) | (with_reducible refine Fr.drN ?_ _) | (with_reducible refine Fr.alloc ?_ _) | (with_reducible refine Fr.set ?_ ?_ _) | (left; simp; done) | (right; simp; done) | (right; simp; omega))) (hF.mono (by simp))
    repeat' (first | (with_reducible exact hF) | (with_reducible refine Fr.drew ?_) | (with_reducible refine Fr.drN ?_ _) | (with_reducible refine Fr.alloc ?_ _) | (with_reducible refine Fr.set ?_ ?_ _) | (left; simp; done) | (right; simp; done) | (right; simp; omega))
theorem wait_take_gt (bp bf bc bw size : Nat) (l : List Int) (k t : Int) (x : Int) (nx : Value) (at_ : Int) (dn : Bool) (aAt aX why : Int) (s : Int) (w : World) (h : Fd w bf bc bw size l) (p : Pd w bp bf k x nx at_ dn aAt aX why) (hk : (k == 1) = false) (ht : IntKind.u64.wrap (at_ + 1) = t) (h0 : 0 ≤ at_) (h1 : at_ < 18446744073709551616) (c : Nat) (hc : c = M.tcell size at_) (hx : l[c]? = some s) (hs : t < s) :
    Calls Tryd.prog 33 #[.pointer (some ⟨bp, 0, none⟩)] w fun e w' => e = .returned (.agg #[.int .u8 1, .int .i64 c, .int .u64 s, .int .u64 s, .bool true]) ∧ Pd w' bp bf k x (.func (.func 23) #[] #[]) at_ dn aAt aX why ∧ Fr [bp] w w' := by
  have hpl := p.b.lt
  have HX := Lib.hid hx
  have HC := Lib.hid hc
  have h1' : at_ ≤ 18446744073709551615 := by omega
  clear hx hc h1
  have q1 : decide (s < t) = false := decide_eq_false (by omega)
  have q2 : decide (t < s) = true := decide_eq_true hs
  clear hs
  go_enter Tryd.func33, Tryd.ntmps33
  go_wp2_with (first | (go_at_call 31; refine (end_take bp bf k x nx at_ dn aAt aX why _ (p.al _) hk).mono ?_; rintro e w1 ⟨rfl, rfl⟩) | (go_at_call 41; refine (turn_any bp bf bc bw size l k x nx at_ dn aAt aX why _ (h.al _) (p.al _) h0 c HC.out).mono ?_; rintro e w1 ⟨rfl, nd, rfl⟩) | (go_at_call 32; refine (act_load bp bf bc bw size c l k x nx at_ dn aAt aX why s _ ((h.al _).drN _) ((p.al _).drN _) HX.out).mono ?_; rintro e w1 ⟨rfl, hF⟩; have hB : Blk w1 (w.heap.size) #[.int .u8 0, .int .i64 0, .int .u64 0, .int .u64 0, .bool false] 50 := hF.blk ((Blk.new _ _ _).drN _) (by first | (simp; done) | (simp; omega)); have b1 := hB.cell; have b2 := hB.free; have hlt1 := hB.lt; have hP := hF.blk (((p.al _).drN _).b) (by first | (simp; done) | (simp; omega)); have p1 := hP.cell; have p2 := hP.free; have hpl1 := hP.lt))
  go_quiet (fail)
  go_wp2
  go_quiet (fail)
  go_wp2
  refine bodyPost_ret (v := .agg #[.int .u8 1, .int .i64 c, .int .u64 s, .int .u64 s, .bool true]) (by simp [results, Tryd.results33, go_sem, b1, hlt1]) rfl ⟨rfl, ?_, ?_⟩
  · apply Pd.of (cs := (Array.setIfInBounds #[.pointer (some ⟨bf, 0, none⟩), .int .u8 k, .int .u64 x, nx, .int .u64 at_, .bool dn, .int .u64 aAt, .int .u64 aX, .int .i64 why] 3 (.func (.func 23) #[] #[])))
    · repeat' (first | (with_reducible exact hP) | (with_reducible refine Blk.drew ?_) | (with_reducible refine Blk.drN ?_ _) | (with_reducible refine Blk.set ?_ _ _) | (with_reducible refine Blk.other ?_ ?_ _) | (with_reducible refine Blk.alloc ?_ _) | (simp; done) | (simp; omega))
    · exact p.z
    · simp
  · replace hF := Fr.trans (a := w) (S := [bp]) (by repeat' (first | (with_reducible exact Fr.refl _ _) | (with_reducible refine Fr.drew ?_) | (with_reducible refine Fr.drN ?_ _) | (with_reducible refine Fr.alloc ?_ _) | (with_reducible refine Fr.set ?_ ?_ _) | (left; simp; done) | (right; simp; done) | (right; simp; omega))) (hF.mono (by simp))
    repeat' (first | (with_reducible exact hF) | (with_reducible refine Fr.drew ?_) | (with_reducible refine Fr.drN ?_ _) | (with_reducible refine Fr.alloc ?_ _) | (with_reducible refine Fr.set ?_ ?_ _) | (left; simp; done) | (right; simp; done) | (right; simp; omega))
theorem wait_take_eq (bp bf bc bw size : Nat) (l : List Int) (k t : Int) (x : Int) (nx : Value) (at_ : Int) (dn : Bool) (aAt aX why : Int) (s : Int) (w : World) (h : Fd w bf bc bw size l) (p : Pd w bp bf k x nx at_ dn aAt aX why) (hk : (k == 1) = false) (ht : IntKind.u64.wrap (at_ + 1) = t) (h0 : 0 ≤ at_) (h1 : at_ < 18446744073709551616) (c : Nat) (hc : c = M.tcell size at_) (hx : l[c]? = some s) (hs : s = t) :
    Calls Tryd.prog 33 #[.pointer (some ⟨bp, 0, none⟩)] w fun e w' => e = .returned (.agg #[.int .u8 1, .int .i64 c, .int .u64 s, .int .u64 s, .bool true]) ∧ Pd w' bp bf k x (.func (.func 42) #[] #[]) at_ dn aAt aX why ∧ Fr [bp] w w' := by
  have hpl := p.b.lt
  have HX := Lib.hid hx
  have HC := Lib.hid hc
  have h1' : at_ ≤ 18446744073709551615 := by omega
  clear hx hc h1
  have q1 : decide (s < t) = false := decide_eq_false (by omega)
  have q2 : decide (t < s) = false := decide_eq_false (by omega)
  clear hs
  go_enter Tryd.func33, Tryd.ntmps33
  go_wp2_with (first | (go_at_call 31; refine (end_take bp bf k x nx at_ dn aAt aX why _ (p.al _) hk).mono ?_; rintro e w1 ⟨rfl, rfl⟩) | (go_at_call 41; refine (turn_any bp bf bc bw size l k x nx at_ dn aAt aX why _ (h.al _) (p.al _) h0 c HC.out).mono ?_; rintro e w1 ⟨rfl, nd, rfl⟩) | (go_at_call 32; refine (act_load bp bf bc bw size c l k x nx at_ dn aAt aX why s _ ((h.al _).drN _) ((p.al _).drN _) HX.out).mono ?_; rintro e w1 ⟨rfl, hF⟩; have hB : Blk w1 (w.heap.size) #[.int .u8 0, .int .i64 0, .int .u64 0, .int .u64 0, .bool false] 50 := hF.blk ((Blk.new _ _ _).drN _) (by first | (simp; done) | (simp; omega)); have b1 := hB.cell; have b2 := hB.free; have hlt1 := hB.lt; have hP := hF.blk (((p.al _).drN _).b) (by first | (simp; done) | (simp; omega)); have p1 := hP.cell; have p2 := hP.free; have hpl1 := hP.lt))
  go_quiet (fail)
  go_wp2
  go_quiet (fail)
  go_wp2
  refine bodyPost_ret (v := .agg #[.int .u8 1, .int .i64 c, .int .u64 s, .int .u64 s, .bool true]) (by simp [results, Tryd.results33, go_sem, b1, hlt1]) rfl ⟨rfl, ?_, ?_⟩
  · apply Pd.of (cs := (Array.setIfInBounds #[.pointer (some ⟨bf, 0, none⟩), .int .u8 k, .int .u64 x, nx, .int .u64 at_, .bool dn, .int .u64 aAt, .int .u64 aX, .int .i64 why] 3 (.func (.func 42) #[] #[])))
    · repeat' (first | (with_reducible exact hP) | (with_reducible refine Blk.drew ?_) | (with_reducible refine Blk.drN ?_ _) | (with_reducible refine Blk.set ?_ _ _) | (with_reducible refine Blk.other ?_ ?_ _) | (with_reducible refine Blk.alloc ?_ _) | (simp; done) | (simp; omega))
    · exact p.z
    · simp
  · replace hF := Fr.trans (a := w) (S := [bp]) (by repeat' (first | (with_reducible exact Fr.refl _ _) | (with_reducible refine Fr.drew ?_) | (with_reducible refine Fr.drN ?_ _) | (with_reducible refine Fr.alloc ?_ _) | (with_reducible refine Fr.set ?_ ?_ _) | (left; simp; done) | (right; simp; done) | (right; simp; omega))) (hF.mono (by simp))
    repeat' (first | (with_reducible exact hF) | (with_reducible refine Fr.drew ?_) | (with_reducible refine Fr.drN ?_ _) | (with_reducible refine Fr.alloc ?_ _) | (with_reducible refine Fr.set ?_ ?_ _) | (left; simp; done) | (right; simp; done) | (right; simp; omega))
end Go.Proofs.YthkmknnajbpjfaaDoor
