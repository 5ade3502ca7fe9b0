/- The package feed: an operation's action on a cell. -/
import Derived.Test.YthkmknnajbpjfaaDoorDo
namespace Go.Proofs.YthkmknnajbpjfaaDoor
open Go.RowKit
/-- A Feed at block bf, its Cells at bc, the words at bw. -/
structure Fd (w : World) (bf bc bw : Nat) (size : Nat) (l : List Int) : Prop where
  f : Blk w bf #[.pointer (some ⟨bc, 0, none⟩), .int .u64 size] 75
  h : Has w bc bw l
  n : l.length = 2 + 2 * size
  lo : 2 ≤ size
  hi : size ≤ 4096
  z : 0 < bf ∧ 0 < bc ∧ 0 < bw
theorem Fd.fr {S : List Nat} {w w' : World} {bf bc bw size : Nat} {l : List Int} (h : Fd w bf bc bw size l) (f : Fr S w w') (h0 : bf ∉ S) (h1 : bc ∉ S) (h2 : bw ∉ S) (h3 : 0 ∉ S) : Fd w' bf bc bw size l :=
  ⟨f.blk h.f h0, h.h.fr f h1 h2 h3, h.n, h.lo, h.hi, h.z⟩
theorem Fd.fr0 {w w' : World} {bf bc bw size : Nat} {l : List Int} (h : Fd w bf bc bw size l) (f : Fr [] w w') : Fd w' bf bc bw size l := h.fr f (by simp) (by simp) (by simp) (by simp)
theorem Fd.al {w : World} {bf bc bw size : Nat} {l : List Int} (h : Fd w bf bc bw size l) (o : Obj) : Fd (w.alloc o) bf bc bw size l := h.fr0 ((Fr.refl _ _).alloc _)
theorem Fd.dr {w : World} {bf bc bw size : Nat} {l : List Int} (h : Fd w bf bc bw size l) : Fd w.drew bf bc bw size l := h.fr0 ((Fr.refl _ _).drew)
theorem Fd.drN {w : World} {bf bc bw size : Nat} {l : List Int} (h : Fd w bf bc bw size l) (n : Nat) : Fd (w.drewN n) bf bc bw size l := h.fr0 ((Fr.refl _ _).drN n)
theorem Fd.st {w : World} {bf bc bw size : Nat} {l : List Int} (h : Fd w bf bc bw size l) {a : Addr} (v : Value) (h0 : bf ≠ a.block) (h1 : bc ≠ a.block) (h2 : bw ≠ a.block) (h3 : 0 ≠ a.block) : Fd (w.setCell a v) bf bc bw size l :=
  h.fr (S := [a.block]) ((Fr.refl _ _).set (by simp) v) (by simpa using h0) (by simpa using h1) (by simpa using h2) (by simpa using h3)
theorem Fd.ne1 {w : World} {bf bc bw size : Nat} {l : List Int} (h : Fd w bf bc bw size l) : bf ≠ bc := h.f.ne h.h.c (by decide)
theorem Fd.ne2 {w : World} {bf bc bw size : Nat} {l : List Int} (h : Fd w bf bc bw size l) : bf ≠ bw := h.f.ne h.h.d (by decide)
theorem Fd.put {w w' : World} {bf bc bw size i : Nat} {l : List Int} {y : Int} (h : Fd w bf bc bw size l) (f : Fr [bw] w w') (hd : Blk w' bw (wds (l.set i y)) 102) : Fd w' bf bc bw size (l.set i y) ∧ Fr [bw] w w' := by
  have e2 := h.ne2
  have e3 := h.h.ne
  have hz := h.z
  have hc := f.blk h.h.c (by simpa using e3)
  have hn := h.h.n
  have hn2 := h.n
  exact ⟨⟨f.blk h.f (by simpa using e2), ⟨by simpa using hc, hd, Uses.fr h.h.u f (by simp; omega), by simpa using hn, h.h.z⟩, by simpa using hn2, h.lo, h.hi, h.z⟩, f⟩
/-- A Pending at block bp, of the Feed at bf. -/
structure Pd (w : World) (bp bf : Nat) (k x : Int) (nx : Value) (at_ : Int) (dn : Bool) (aAt aX why : Int) : Prop where
  b : Blk w bp #[.pointer (some ⟨bf, 0, none⟩), .int .u8 k, .int .u64 x, nx, .int .u64 at_, .bool dn, .int .u64 aAt, .int .u64 aX, .int .i64 why] 78
  z : 0 < bp
theorem Pd.of {w : World} {bp bf : Nat} {k x : Int} {nx : Value} {at_ : Int} {dn : Bool} {aAt aX why : Int} {cs : Array Value} (h : Blk w bp cs 78) (z : 0 < bp) (e : cs = #[.pointer (some ⟨bf, 0, none⟩), .int .u8 k, .int .u64 x, nx, .int .u64 at_, .bool dn, .int .u64 aAt, .int .u64 aX, .int .i64 why]) : Pd w bp bf k x nx at_ dn aAt aX why := ⟨by subst e; exact h, z⟩
theorem Pd.fr {S : List Nat} {w w' : World} {bp bf : Nat} {k x : Int} {nx : Value} {at_ : Int} {dn : Bool} {aAt aX why : Int} (h : Pd w bp bf k x nx at_ dn aAt aX why) (f : Fr S w w') (hs : bp ∉ S) : Pd w' bp bf k x nx at_ dn aAt aX why := ⟨f.blk h.b hs, h.z⟩
theorem Pd.al {w : World} {bp bf : Nat} {k x : Int} {nx : Value} {at_ : Int} {dn : Bool} {aAt aX why : Int} (h : Pd w bp bf k x nx at_ dn aAt aX why) (o : Obj) : Pd (w.alloc o) bp bf k x nx at_ dn aAt aX why := ⟨h.b.alloc o, h.z⟩
theorem Pd.st {w : World} {bp bf : Nat} {k x : Int} {nx : Value} {at_ : Int} {dn : Bool} {aAt aX why : Int} (h : Pd w bp bf k x nx at_ dn aAt aX why) {a : Addr} (v : Value) (hne : bp ≠ a.block) : Pd (w.setCell a v) bp bf k x nx at_ dn aAt aX why := ⟨h.b.other hne v, h.z⟩
theorem Pd.dr {w : World} {bp bf : Nat} {k x : Int} {nx : Value} {at_ : Int} {dn : Bool} {aAt aX why : Int} (h : Pd w bp bf k x nx at_ dn aAt aX why) : Pd w.drew bp bf k x nx at_ dn aAt aX why := ⟨h.b.drew, h.z⟩
theorem Pd.drN {w : World} {bp bf : Nat} {k x : Int} {nx : Value} {at_ : Int} {dn : Bool} {aAt aX why : Int} (h : Pd w bp bf k x nx at_ dn aAt aX why) (n : Nat) : Pd (w.drewN n) bp bf k x nx at_ dn aAt aX why := ⟨h.b.drN n, h.z⟩
set_option maxRecDepth 100000
set_option linter.unusedVariables false
set_option linter.unusedSimpArgs false
set_option maxHeartbeats 1000000
theorem act_load (bp bf bc bw size i : Nat) (l : List Int) (k z : Int) (nx : Value) (at_ : Int) (dn : Bool) (aAt aX why : Int) (x : Int) (w : World) (h : Fd w bf bc bw size l) (p : Pd w bp bf k z nx at_ dn aAt aX why) (hx : l[i]? = some x) :
    Calls Tryd.prog 32 #[.pointer (some ⟨bp, 0, none⟩), .int .u8 1, .int .i64 i, .int .u64 0, .int .u64 0] w fun e w' => e = .returned (.agg #[.int .u8 1, .int .i64 i, .int .u64 x, .int .u64 x, .bool true]) ∧ Fr [] w w' := by
  have hpl := p.b.lt
  have hfl := h.f.lt
  have hwl := h.h.d.lt
  have p0 := (p.b.cel 0 (v := .pointer (some ⟨bf, 0, none⟩)) rfl).c
  have f0 := (h.f.cel 0 (v := .pointer (some ⟨bc, 0, none⟩)) rfl).c
  have HX := Lib.hid hx
  clear hx
  go_enter Tryd.func32, Tryd.ntmps32
  go_wp2_with (go_at_call 40; refine (do_load bc bw i l x _ (h.al _).h HX.out).mono ?_; rintro e w1 ⟨rfl, hF⟩; have hB : Blk w1 w.heap.size #[.int .u8 0, .int .i64 0, .int .u64 0, .int .u64 0, .bool false] 50 := hF.blk (Blk.new _ _ _) (by first | (simp; done) | (simp; omega)); have b1 := hB.cell; have b2 := hB.free; have hlt1 := hB.lt)
  refine bodyPost_ret (v := .agg #[.int .u8 1, .int .i64 i, .int .u64 x, .int .u64 x, .bool true]) (by simp [results, Tryd.results32, go_sem, b1, hlt1]) rfl ⟨rfl, ?_⟩
  replace hF := Fr.trans (a := w) (S := []) (by repeat' (first | (with_reducible exact Fr.refl _ _) | (with_reducible refine Fr.drew ?_) | (with_reducible refine Fr.drN ?_ _) | (with_reducible refine Fr.alloc ?_ _) | (with_reducible refine Fr.set ?_ ?_ _) | (left; simp; done) | (right; simp; done) | (right; simp; omega))) hF
  repeat' (first | (with_reducible exact hF) | (with_reducible refine Fr.drew ?_) | (with_reducible refine Fr.drN ?_ _) | (with_reducible refine Fr.alloc ?_ _) | (with_reducible refine Fr.set ?_ ?_ _) | (left; simp; done) | (right; simp; done) | (right; simp; omega))
theorem act_miss (bp bf bc bw size i : Nat) (l : List Int) (k z : Int) (nx : Value) (at_ : Int) (dn : Bool) (aAt aX why : Int) (x u y : Int) (w : World) (h : Fd w bf bc bw size l) (p : Pd w bp bf k z nx at_ dn aAt aX why) (hx : l[i]? = some x) (hne : ¬ x = u) :
    Calls Tryd.prog 32 #[.pointer (some ⟨bp, 0, none⟩), .int .u8 5, .int .i64 i, .int .u64 u, .int .u64 y] w fun e w' => e = .returned (.agg #[.int .u8 5, .int .i64 i, .int .u64 x, .int .u64 x, .bool false]) ∧ Fr [] w w' := by
  have hpl := p.b.lt
  have hfl := h.f.lt
  have hwl := h.h.d.lt
  have p0 := (p.b.cel 0 (v := .pointer (some ⟨bf, 0, none⟩)) rfl).c
  have f0 := (h.f.cel 0 (v := .pointer (some ⟨bc, 0, none⟩)) rfl).c
  have HX := Lib.hid hx
  clear hx
  have HN := Lib.hid hne
  clear hne
  go_enter Tryd.func32, Tryd.ntmps32
  go_wp2_with (go_at_call 40; refine (do_cas_miss bc bw i l x u y _ (h.al _).h HX.out HN.out).mono ?_; rintro e w1 ⟨rfl, hF⟩; have hB : Blk w1 w.heap.size #[.int .u8 0, .int .i64 0, .int .u64 0, .int .u64 0, .bool false] 50 := hF.blk (Blk.new _ _ _) (by first | (simp; done) | (simp; omega)); have b1 := hB.cell; have b2 := hB.free; have hlt1 := hB.lt)
  refine bodyPost_ret (v := .agg #[.int .u8 5, .int .i64 i, .int .u64 x, .int .u64 x, .bool false]) (by simp [results, Tryd.results32, go_sem, b1, hlt1]) rfl ⟨rfl, ?_⟩
  replace hF := Fr.trans (a := w) (S := []) (by repeat' (first | (with_reducible exact Fr.refl _ _) | (with_reducible refine Fr.drew ?_) | (with_reducible refine Fr.drN ?_ _) | (with_reducible refine Fr.alloc ?_ _) | (with_reducible refine Fr.set ?_ ?_ _) | (left; simp; done) | (right; simp; done) | (right; simp; omega))) hF
  repeat' (first | (with_reducible exact hF) | (with_reducible refine Fr.drew ?_) | (with_reducible refine Fr.drN ?_ _) | (with_reducible refine Fr.alloc ?_ _) | (with_reducible refine Fr.set ?_ ?_ _) | (left; simp; done) | (right; simp; done) | (right; simp; omega))
theorem act_store (bp bf bc bw size i : Nat) (l : List Int) (k z : Int) (nx : Value) (at_ : Int) (dn : Bool) (aAt aX why : Int) (x y : Int) (w : World) (h : Fd w bf bc bw size l) (p : Pd w bp bf k z nx at_ dn aAt aX why) (hx : l[i]? = some x) :
    Calls Tryd.prog 32 #[.pointer (some ⟨bp, 0, none⟩), .int .u8 2, .int .i64 i, .int .u64 0, .int .u64 y] w fun e w' => e = .returned (.agg #[.int .u8 2, .int .i64 i, .int .u64 x, .int .u64 y, .bool true]) ∧ Fd w' bf bc bw size (l.set i y) ∧ Fr [bw] w w' := by
  have hpl := p.b.lt
  have hfl := h.f.lt
  have hwl := h.h.d.lt
  have p0 := (p.b.cel 0 (v := .pointer (some ⟨bf, 0, none⟩)) rfl).c
  have f0 := (h.f.cel 0 (v := .pointer (some ⟨bc, 0, none⟩)) rfl).c
  have HX := Lib.hid hx
  clear hx
  go_enter Tryd.func32, Tryd.ntmps32
  go_wp2_with (go_at_call 40; refine (do_store bc bw i l x y _ (h.al _).h HX.out).mono ?_; rintro e w1 ⟨rfl, hH, hF⟩; have hB : Blk w1 w.heap.size #[.int .u8 0, .int .i64 0, .int .u64 0, .int .u64 0, .bool false] 50 := hF.blk (Blk.new _ _ _) (by first | (simp; done) | (simp; omega)); have b1 := hB.cell; have b2 := hB.free; have hlt1 := hB.lt)
  refine bodyPost_ret (v := .agg #[.int .u8 2, .int .i64 i, .int .u64 x, .int .u64 y, .bool true]) (by simp [results, Tryd.results32, go_sem, b1, hlt1]) rfl ⟨rfl, ?_⟩
  replace hF := Fr.trans (a := w) (S := [bw]) (by repeat' (first | (with_reducible exact Fr.refl _ _) | (with_reducible refine Fr.drew ?_) | (with_reducible refine Fr.drN ?_ _) | (with_reducible refine Fr.alloc ?_ _) | (with_reducible refine Fr.set ?_ ?_ _) | (left; simp; done) | (right; simp; done) | (right; simp; omega))) hF
  refine Fd.put h ?_ ?_
  · repeat' (first | (with_reducible exact hF) | (with_reducible refine Fr.drew ?_) | (with_reducible refine Fr.drN ?_ _) | (with_reducible refine Fr.alloc ?_ _) | (with_reducible refine Fr.set ?_ ?_ _) | (left; simp; done) | (right; simp; done) | (right; simp; omega))
  · have hHd := hH.d
    repeat' (first | (with_reducible exact hHd) | (with_reducible refine Blk.drew ?_) | (with_reducible refine Blk.drN ?_ _) | (with_reducible refine Blk.set ?_ _ _) | (with_reducible refine Blk.other ?_ ?_ _) | (with_reducible refine Blk.alloc ?_ _) | (simp; done) | (simp; omega))
theorem act_cas (bp bf bc bw size i : Nat) (l : List Int) (k z : Int) (nx : Value) (at_ : Int) (dn : Bool) (aAt aX why : Int) (x y : Int) (w : World) (h : Fd w bf bc bw size l) (p : Pd w bp bf k z nx at_ dn aAt aX why) (hx : l[i]? = some x) :
    Calls Tryd.prog 32 #[.pointer (some ⟨bp, 0, none⟩), .int .u8 5, .int .i64 i, .int .u64 x, .int .u64 y] w fun e w' => e = .returned (.agg #[.int .u8 5, .int .i64 i, .int .u64 x, .int .u64 y, .bool true]) ∧ Fd w' bf bc bw size (l.set i y) ∧ Fr [bw] w w' := by
  have hpl := p.b.lt
  have hfl := h.f.lt
  have hwl := h.h.d.lt
  have p0 := (p.b.cel 0 (v := .pointer (some ⟨bf, 0, none⟩)) rfl).c
  have f0 := (h.f.cel 0 (v := .pointer (some ⟨bc, 0, none⟩)) rfl).c
  have HX := Lib.hid hx
  clear hx
  go_enter Tryd.func32, Tryd.ntmps32
  go_wp2_with (go_at_call 40; refine (do_cas bc bw i l x y _ (h.al _).h HX.out).mono ?_; rintro e w1 ⟨rfl, hH, hF⟩; have hB : Blk w1 w.heap.size #[.int .u8 0, .int .i64 0, .int .u64 0, .int .u64 0, .bool false] 50 := hF.blk (Blk.new _ _ _) (by first | (simp; done) | (simp; omega)); have b1 := hB.cell; have b2 := hB.free; have hlt1 := hB.lt)
  refine bodyPost_ret (v := .agg #[.int .u8 5, .int .i64 i, .int .u64 x, .int .u64 y, .bool true]) (by simp [results, Tryd.results32, go_sem, b1, hlt1]) rfl ⟨rfl, ?_⟩
  replace hF := Fr.trans (a := w) (S := [bw]) (by repeat' (first | (with_reducible exact Fr.refl _ _) | (with_reducible refine Fr.drew ?_) | (with_reducible refine Fr.drN ?_ _) | (with_reducible refine Fr.alloc ?_ _) | (with_reducible refine Fr.set ?_ ?_ _) | (left; simp; done) | (right; simp; done) | (right; simp; omega))) hF
  refine Fd.put h ?_ ?_
  · repeat' (first | (with_reducible exact hF) | (with_reducible refine Fr.drew ?_) | (with_reducible refine Fr.drN ?_ _) | (with_reducible refine Fr.alloc ?_ _) | (with_reducible refine Fr.set ?_ ?_ _) | (left; simp; done) | (right; simp; done) | (right; simp; omega))
  · have hHd := hH.d
    repeat' (first | (with_reducible exact hHd) | (with_reducible refine Blk.drew ?_) | (with_reducible refine Blk.drN ?_ _) | (with_reducible refine Blk.set ?_ _ _) | (with_reducible refine Blk.other ?_ ?_ _) | (with_reducible refine Blk.alloc ?_ _) | (simp; done) | (simp; omega))
end Go.Proofs.YthkmknnajbpjfaaDoor
