/- A cell that is made once: an operation's actions. -/
import Derived.Test.YtbbnafnnbhbbcaaGreatDoorDo
namespace Go.Proofs.YtbbnafnnbhbbcaaGreatDoor
open Go.RowKit
/-- A Cell at block bq, its Cells at bc, the words at bw. -/
structure Cl (w : World) (bq bc bw : Nat) (m : Int) (l : List Int) : Prop where
  f : Blk w bq #[.pointer (some ⟨bc, 0, none⟩), .int .i32 m, .int .u32 0] 93
  h : Has w bc bw l
  z : 0 < bq ∧ 0 < bc ∧ 0 < bw
theorem Cl.fr {S : List Nat} {w w' : World} {bq bc bw : Nat} {m : Int} {l : List Int} (h : Cl w bq bc bw m l) (f : Fr S w w') (h0 : bq ∉ S) (h1 : bc ∉ S) (h2 : bw ∉ S) (h3 : 0 ∉ S) : Cl w' bq bc bw m l :=
  ⟨f.blk h.f h0, h.h.fr f h1 h2 h3, h.z⟩
theorem Cl.fr0 {w w' : World} {bq bc bw : Nat} {m : Int} {l : List Int} (h : Cl w bq bc bw m l) (f : Fr [] w w') : Cl w' bq bc bw m l := h.fr f (by simp) (by simp) (by simp) (by simp)
theorem Cl.al {w : World} {bq bc bw : Nat} {m : Int} {l : List Int} (h : Cl w bq bc bw m l) (o : Obj) : Cl (w.alloc o) bq bc bw m l := h.fr0 ((Fr.refl _ _).alloc _)
theorem Cl.ne1 {w : World} {bq bc bw : Nat} {m : Int} {l : List Int} (h : Cl w bq bc bw m l) : bq ≠ bc := h.f.ne h.h.c (by decide)
theorem Cl.ne2 {w : World} {bq bc bw : Nat} {m : Int} {l : List Int} (h : Cl w bq bc bw m l) : bq ≠ bw := h.f.ne h.h.d (by decide)
theorem Cl.put {w w' : World} {bq bc bw : Nat} {m : Int} {l l' : List Int} (h : Cl w bq bc bw m l) (f : Fr [bw] w w') (hd : Has w' bc bw l') : Cl w' bq bc bw m l' :=
  ⟨f.blk h.f (by simpa using h.ne2), hd, h.z⟩
/-- A Pending of OnceMake x at block bp, of the Cell at bq. -/
structure Pn (w : World) (bp bq : Nat) (x : Int) (nx : Value) (dn : Bool) (ans : Int) (own : Bool) (why : Int) : Prop where
  b : Blk w bp #[.pointer (some ⟨bq, 0, none⟩), .int .u8 1, .int .u64 x, nx, .bool dn, .int .u64 ans, .bool own, .int .i64 why] 96
  z : 0 < bp
theorem Pn.of {w : World} {bp bq : Nat} {x : Int} {nx : Value} {dn : Bool} {ans : Int} {own : Bool} {why : Int} {cs : Array Value} (h : Blk w bp cs 96) (z : 0 < bp) (e : cs = #[.pointer (some ⟨bq, 0, none⟩), .int .u8 1, .int .u64 x, nx, .bool dn, .int .u64 ans, .bool own, .int .i64 why]) : Pn w bp bq x nx dn ans own why := ⟨by subst e; exact h, z⟩
theorem Pn.fr {S : List Nat} {w w' : World} {bp bq : Nat} {x : Int} {nx : Value} {dn : Bool} {ans : Int} {own : Bool} {why : Int} (h : Pn w bp bq x nx dn ans own why) (f : Fr S w w') (hs : bp ∉ S) : Pn w' bp bq x nx dn ans own why := ⟨f.blk h.b hs, h.z⟩
theorem Pn.al {w : World} {bp bq : Nat} {x : Int} {nx : Value} {dn : Bool} {ans : Int} {own : Bool} {why : Int} (h : Pn w bp bq x nx dn ans own why) (o : Obj) : Pn (w.alloc o) bp bq x nx dn ans own why := ⟨h.b.alloc o, h.z⟩
set_option maxRecDepth 100000
set_option linter.unusedVariables false
set_option linter.unusedSimpArgs false
set_option maxHeartbeats 1000000
theorem act_load (bp bq bc bw : Nat) (m : Int) (l : List Int) (x : Int) (nx : Value) (dn : Bool) (ans : Int) (own : Bool) (why : Int) (i : Nat) (s : Int) (w : World) (h : Cl w bq bc bw m l) (p : Pn w bp bq x nx dn ans own why) (hx : l[i]? = some s) :
    Calls Tryz.prog 45 #[.pointer (some ⟨bp, 0, none⟩), .int .u8 1, .int .i64 i, .int .u64 0, .int .u64 0] w fun e w' => e = .returned (.agg #[.int .u8 1, .int .i64 i, .int .u64 s, .int .u64 s, .bool true]) ∧ Fr [] w w' := by
  have hpl := p.b.lt
  have hfl := h.f.lt
  have hcl := h.h.c.lt
  have hwl := h.h.d.lt
  have hzz := h.z
  have hpz := p.z
  have hn1 : bq ≠ bp := h.f.ne p.b (by decide)
  have hn2 : bc ≠ bp := h.h.c.ne p.b (by decide)
  have hn3 : bw ≠ bp := h.h.d.ne p.b (by decide)
  have hn4 := h.ne1
  have hn5 := h.ne2
  have p0 := (p.b.cel 0 (v := .pointer (some ⟨bq, 0, none⟩)) rfl).c
  have f0 := (h.f.cel 0 (v := .pointer (some ⟨bc, 0, none⟩)) rfl).c
  have HX := Lib.hid hx
  clear hx
  go_enter Tryz.func45, Tryz.ntmps45
  go_wp2_with (go_at_call 66; refine (do_load bc bw i l s _ (h.al _).h HX.out).mono ?_; rintro e w1 ⟨rfl, hF⟩; have hB : Blk w1 w.heap.size #[.int .u8 0, .int .i64 0, .int .u64 0, .int .u64 0, .bool false] 50 := hF.blk (Blk.new _ _ _) (by first | (simp; done) | (simp; omega)); have b1 := hB.cell; have b2 := hB.free; have hlt1 := hB.lt)
  refine bodyPost_ret (v := .agg #[.int .u8 1, .int .i64 i, .int .u64 s, .int .u64 s, .bool true]) (by simp [results, Tryz.results45, go_sem, b1, hlt1]) rfl ⟨rfl, ?_⟩
  replace hF := Fr.trans (a := w) (S := []) (by repeat' (first | (with_reducible exact Fr.refl _ _) | (with_reducible refine Fr.drew ?_) | (with_reducible refine Fr.drN ?_ _) | (with_reducible refine Fr.alloc ?_ _) | (with_reducible refine Fr.set ?_ ?_ _) | (left; simp; done) | (right; simp; done) | (right; simp; omega))) hF
  repeat' (first | (with_reducible exact hF) | (with_reducible refine Fr.drew ?_) | (with_reducible refine Fr.drN ?_ _) | (with_reducible refine Fr.alloc ?_ _) | (with_reducible refine Fr.set ?_ ?_ _) | (left; simp; done) | (right; simp; done) | (right; simp; omega))
theorem act_store (bp bq bc bw : Nat) (m : Int) (l : List Int) (x : Int) (nx : Value) (dn : Bool) (ans : Int) (own : Bool) (why : Int) (i : Nat) (s y : Int) (w : World) (h : Cl w bq bc bw m l) (p : Pn w bp bq x nx dn ans own why) (hx : l[i]? = some s) :
    Calls Tryz.prog 45 #[.pointer (some ⟨bp, 0, none⟩), .int .u8 2, .int .i64 i, .int .u64 0, .int .u64 y] w fun e w' => e = .returned (.agg #[.int .u8 2, .int .i64 i, .int .u64 s, .int .u64 y, .bool true]) ∧ Cl w' bq bc bw m (l.set i y) ∧ Fr [bw] w w' := by
  have hpl := p.b.lt
  have hfl := h.f.lt
  have hcl := h.h.c.lt
  have hwl := h.h.d.lt
  have hzz := h.z
  have hpz := p.z
  have hn1 : bq ≠ bp := h.f.ne p.b (by decide)
  have hn2 : bc ≠ bp := h.h.c.ne p.b (by decide)
  have hn3 : bw ≠ bp := h.h.d.ne p.b (by decide)
  have hn4 := h.ne1
  have hn5 := h.ne2
  have p0 := (p.b.cel 0 (v := .pointer (some ⟨bq, 0, none⟩)) rfl).c
  have f0 := (h.f.cel 0 (v := .pointer (some ⟨bc, 0, none⟩)) rfl).c
  have HX := Lib.hid hx
  clear hx
  go_enter Tryz.func45, Tryz.ntmps45
  go_wp2_with (go_at_call 66; refine (do_store bc bw i l s y _ (h.al _).h HX.out).mono ?_; rintro e w1 ⟨rfl, hH, hF⟩; have hB : Blk w1 w.heap.size #[.int .u8 0, .int .i64 0, .int .u64 0, .int .u64 0, .bool false] 50 := hF.blk (Blk.new _ _ _) (by first | (simp; done) | (simp; omega)); have b1 := hB.cell; have b2 := hB.free; have hlt1 := hB.lt; have hC := (h.al _).put hF hH)
  refine bodyPost_ret (v := .agg #[.int .u8 2, .int .i64 i, .int .u64 s, .int .u64 y, .bool true]) (by simp [results, Tryz.results45, go_sem, b1, hlt1]) rfl ⟨rfl, ?_, ?_⟩
  · refine hC.fr (S := [w.heap.size]) ?_ ?_ ?_ ?_ ?_
    · repeat' (first | (with_reducible exact Fr.refl _ _) | (with_reducible refine Fr.drew ?_) | (with_reducible refine Fr.drN ?_ _) | (with_reducible refine Fr.alloc ?_ _) | (with_reducible refine Fr.set ?_ ?_ _) | (left; simp; done) | (right; simp; done) | (right; simp; omega))
    all_goals (simp; omega)
  · replace hF := Fr.trans (a := w) (S := [bw]) (by repeat' (first | (with_reducible exact Fr.refl _ _) | (with_reducible refine Fr.drew ?_) | (with_reducible refine Fr.drN ?_ _) | (with_reducible refine Fr.alloc ?_ _) | (with_reducible refine Fr.set ?_ ?_ _) | (left; simp; done) | (right; simp; done) | (right; simp; omega))) hF
    repeat' (first | (with_reducible exact hF) | (with_reducible refine Fr.drew ?_) | (with_reducible refine Fr.drN ?_ _) | (with_reducible refine Fr.alloc ?_ _) | (with_reducible refine Fr.set ?_ ?_ _) | (left; simp; done) | (right; simp; done) | (right; simp; omega))
theorem act_cas (bp bq bc bw : Nat) (m : Int) (l : List Int) (x : Int) (nx : Value) (dn : Bool) (ans : Int) (own : Bool) (why : Int) (i : Nat) (s y : Int) (w : World) (h : Cl w bq bc bw m l) (p : Pn w bp bq x nx dn ans own why) (hx : l[i]? = some s) :
    Calls Tryz.prog 45 #[.pointer (some ⟨bp, 0, none⟩), .int .u8 5, .int .i64 i, .int .u64 s, .int .u64 y] w fun e w' => e = .returned (.agg #[.int .u8 5, .int .i64 i, .int .u64 s, .int .u64 y, .bool true]) ∧ Cl w' bq bc bw m (l.set i y) ∧ Fr [bw] w w' := by
  have hpl := p.b.lt
  have hfl := h.f.lt
  have hcl := h.h.c.lt
  have hwl := h.h.d.lt
  have hzz := h.z
  have hpz := p.z
  have hn1 : bq ≠ bp := h.f.ne p.b (by decide)
  have hn2 : bc ≠ bp := h.h.c.ne p.b (by decide)
  have hn3 : bw ≠ bp := h.h.d.ne p.b (by decide)
  have hn4 := h.ne1
  have hn5 := h.ne2
  have p0 := (p.b.cel 0 (v := .pointer (some ⟨bq, 0, none⟩)) rfl).c
  have f0 := (h.f.cel 0 (v := .pointer (some ⟨bc, 0, none⟩)) rfl).c
  have HX := Lib.hid hx
  clear hx
  go_enter Tryz.func45, Tryz.ntmps45
  go_wp2_with (go_at_call 66; refine (do_cas bc bw i l s y _ (h.al _).h HX.out).mono ?_; rintro e w1 ⟨rfl, hH, hF⟩; have hB : Blk w1 w.heap.size #[.int .u8 0, .int .i64 0, .int .u64 0, .int .u64 0, .bool false] 50 := hF.blk (Blk.new _ _ _) (by first | (simp; done) | (simp; omega)); have b1 := hB.cell; have b2 := hB.free; have hlt1 := hB.lt; have hC := (h.al _).put hF hH)
  refine bodyPost_ret (v := .agg #[.int .u8 5, .int .i64 i, .int .u64 s, .int .u64 y, .bool true]) (by simp [results, Tryz.results45, go_sem, b1, hlt1]) rfl ⟨rfl, ?_, ?_⟩
  · refine hC.fr (S := [w.heap.size]) ?_ ?_ ?_ ?_ ?_
    · repeat' (first | (with_reducible exact Fr.refl _ _) | (with_reducible refine Fr.drew ?_) | (with_reducible refine Fr.drN ?_ _) | (with_reducible refine Fr.alloc ?_ _) | (with_reducible refine Fr.set ?_ ?_ _) | (left; simp; done) | (right; simp; done) | (right; simp; omega))
    all_goals (simp; omega)
  · replace hF := Fr.trans (a := w) (S := [bw]) (by repeat' (first | (with_reducible exact Fr.refl _ _) | (with_reducible refine Fr.drew ?_) | (with_reducible refine Fr.drN ?_ _) | (with_reducible refine Fr.alloc ?_ _) | (with_reducible refine Fr.set ?_ ?_ _) | (left; simp; done) | (right; simp; done) | (right; simp; omega))) hF
    repeat' (first | (with_reducible exact hF) | (with_reducible refine Fr.drew ?_) | (with_reducible refine Fr.drN ?_ _) | (with_reducible refine Fr.alloc ?_ _) | (with_reducible refine Fr.set ?_ ?_ _) | (left; simp; done) | (right; simp; done) | (right; simp; omega))
theorem look_none (bp bq bc bw : Nat) (m : Int) (v : Int) (x : Int) (nx : Value) (dn : Bool) (ans : Int) (own : Bool) (why : Int) (w : World) (h : Cl w bq bc bw m [0, v]) (p : Pn w bp bq x nx dn ans own why) :
    Calls Tryz.prog 32 #[.pointer (some ⟨bp, 0, none⟩)] w fun e w' => e = .returned (.agg #[.int .u8 1, .int .i64 0, .int .u64 0, .int .u64 0, .bool true]) ∧ Pn w' bp bq x (.func (.func 47) #[] #[]) dn ans own why ∧ Fr [bp] w w' := by
  have hpl := p.b.lt
  have hfl := h.f.lt
  have hcl := h.h.c.lt
  have hwl := h.h.d.lt
  have hzz := h.z
  have hpz := p.z
  have hn1 : bq ≠ bp := h.f.ne p.b (by decide)
  have hn2 : bc ≠ bp := h.h.c.ne p.b (by decide)
  have hn3 : bw ≠ bp := h.h.d.ne p.b (by decide)
  have hn4 := h.ne1
  have hn5 := h.ne2
  have pc := p.b.cell
  go_enter Tryz.func32, Tryz.ntmps32
  go_wp2_with (go_at_call 45; refine (act_load bp bq bc bw m [0, v] x nx dn ans own why 0 0 _ (h.al _) (p.al _) rfl).mono ?_; rintro e w1 ⟨rfl, hF⟩; have hB : Blk w1 w.heap.size #[.int .u8 0, .int .i64 0, .int .u64 0, .int .u64 0, .bool false] 50 := hF.blk (Blk.new _ _ _) (by first | (simp; done) | (simp; omega)); have b1 := hB.cell; have b2 := hB.free; have hlt1 := hB.lt; have hP := hF.blk (p.al _).b (by first | (simp; done) | (simp; omega)); have p1 := hP.cell; have p2 := hP.free; have hpl1 := hP.lt)
  refine bodyPost_ret (v := .agg #[.int .u8 1, .int .i64 0, .int .u64 0, .int .u64 0, .bool true]) (by simp [results, Tryz.results32, go_sem, b1, hlt1]) rfl ⟨rfl, ?_, ?_⟩
  · apply Pn.of (cs := (Array.setIfInBounds #[.pointer (some ⟨bq, 0, none⟩), .int .u8 1, .int .u64 x, nx, .bool dn, .int .u64 ans, .bool own, .int .i64 why] 3 (.func (.func 47) #[] #[])))
    · repeat' (first | (with_reducible exact hP) | (with_reducible refine Blk.drew ?_) | (with_reducible refine Blk.drN ?_ _) | (with_reducible refine Blk.set ?_ _ _) | (with_reducible refine Blk.other ?_ ?_ _) | (with_reducible refine Blk.alloc ?_ _) | (simp; done) | (simp; omega))
    · exact p.z
    · simp
  · replace hF := Fr.trans (a := w) (S := [bp]) (by repeat' (first | (with_reducible exact Fr.refl _ _) | (with_reducible refine Fr.drew ?_) | (with_reducible refine Fr.drN ?_ _) | (with_reducible refine Fr.alloc ?_ _) | (with_reducible refine Fr.set ?_ ?_ _) | (left; simp; done) | (right; simp; done) | (right; simp; omega))) (hF.mono (by simp))
    repeat' (first | (with_reducible exact hF) | (with_reducible refine Fr.drew ?_) | (with_reducible refine Fr.drN ?_ _) | (with_reducible refine Fr.alloc ?_ _) | (with_reducible refine Fr.set ?_ ?_ _) | (left; simp; done) | (right; simp; done) | (right; simp; omega))
theorem begin_hit (bp bq bc bw : Nat) (m : Int) (v : Int) (x : Int) (nx : Value) (dn : Bool) (ans : Int) (own : Bool) (why : Int) (w : World) (h : Cl w bq bc bw m [0, v]) (p : Pn w bp bq x nx dn ans own why) :
    Calls Tryz.prog 47 #[.pointer (some ⟨bp, 0, none⟩)] w fun e w' => e = .returned (.agg #[.int .u8 5, .int .i64 0, .int .u64 0, .int .u64 1, .bool true]) ∧ Cl w' bq bc bw m [1, v] ∧ Pn w' bp bq x (.func (.func 68) #[] #[]) dn ans own why ∧ Fr [bp, bw] w w' := by
  have hpl := p.b.lt
  have hfl := h.f.lt
  have hcl := h.h.c.lt
  have hwl := h.h.d.lt
  have hzz := h.z
  have hpz := p.z
  have hn1 : bq ≠ bp := h.f.ne p.b (by decide)
  have hn2 : bc ≠ bp := h.h.c.ne p.b (by decide)
  have hn3 : bw ≠ bp := h.h.d.ne p.b (by decide)
  have hn4 := h.ne1
  have hn5 := h.ne2
  have pc := p.b.cell
  go_enter Tryz.func47, Tryz.ntmps47
  go_wp2_with (go_at_call 45; refine (act_cas bp bq bc bw m [0, v] x nx dn ans own why 0 0 1 _ (h.al _) (p.al _) rfl).mono ?_; rintro e w1 ⟨rfl, hC, hF⟩; have hB : Blk w1 w.heap.size #[.int .u8 0, .int .i64 0, .int .u64 0, .int .u64 0, .bool false] 50 := hF.blk (Blk.new _ _ _) (by first | (simp; done) | (simp; omega)); have b1 := hB.cell; have b2 := hB.free; have hlt1 := hB.lt; have hP := hF.blk (p.al _).b (by first | (simp; done) | (simp; omega)); have p1 := hP.cell; have p2 := hP.free; have hpl1 := hP.lt)
  refine bodyPost_ret (v := .agg #[.int .u8 5, .int .i64 0, .int .u64 0, .int .u64 1, .bool true]) (by simp [results, Tryz.results47, go_sem, b1, hlt1]) rfl ⟨rfl, ?_, ?_, ?_⟩
  · refine hC.fr (S := [w.heap.size, bp]) ?_ ?_ ?_ ?_ ?_
    · repeat' (first | (with_reducible exact Fr.refl _ _) | (with_reducible refine Fr.drew ?_) | (with_reducible refine Fr.drN ?_ _) | (with_reducible refine Fr.alloc ?_ _) | (with_reducible refine Fr.set ?_ ?_ _) | (left; simp; done) | (right; simp; done) | (right; simp; omega))
    all_goals (simp; omega)
  · apply Pn.of (cs := (Array.setIfInBounds #[.pointer (some ⟨bq, 0, none⟩), .int .u8 1, .int .u64 x, nx, .bool dn, .int .u64 ans, .bool own, .int .i64 why] 3 (.func (.func 68) #[] #[])))
    · repeat' (first | (with_reducible exact hP) | (with_reducible refine Blk.drew ?_) | (with_reducible refine Blk.drN ?_ _) | (with_reducible refine Blk.set ?_ _ _) | (with_reducible refine Blk.other ?_ ?_ _) | (with_reducible refine Blk.alloc ?_ _) | (simp; done) | (simp; omega))
    · exact p.z
    · simp
  · replace hF := Fr.trans (a := w) (S := [bp, bw]) (by repeat' (first | (with_reducible exact Fr.refl _ _) | (with_reducible refine Fr.drew ?_) | (with_reducible refine Fr.drN ?_ _) | (with_reducible refine Fr.alloc ?_ _) | (with_reducible refine Fr.set ?_ ?_ _) | (left; simp; done) | (right; simp; done) | (right; simp; omega))) (hF.mono (by simp))
    repeat' (first | (with_reducible exact hF) | (with_reducible refine Fr.drew ?_) | (with_reducible refine Fr.drN ?_ _) | (with_reducible refine Fr.alloc ?_ _) | (with_reducible refine Fr.set ?_ ?_ _) | (left; simp; done) | (right; simp; done) | (right; simp; omega))
theorem put_any (bp bq bc bw : Nat) (m : Int) (u v : Int) (x : Int) (nx : Value) (dn : Bool) (ans : Int) (own : Bool) (why : Int) (w : World) (h : Cl w bq bc bw m [u, v]) (p : Pn w bp bq x nx dn ans own why) :
    Calls Tryz.prog 68 #[.pointer (some ⟨bp, 0, none⟩)] w fun e w' => e = .returned (.agg #[.int .u8 2, .int .i64 1, .int .u64 v, .int .u64 x, .bool true]) ∧ Cl w' bq bc bw m [u, x] ∧ Pn w' bp bq x (.func (.func 84) #[] #[]) dn ans own why ∧ Fr [bp, bw] w w' := by
  have hpl := p.b.lt
  have hfl := h.f.lt
  have hcl := h.h.c.lt
  have hwl := h.h.d.lt
  have hzz := h.z
  have hpz := p.z
  have hn1 : bq ≠ bp := h.f.ne p.b (by decide)
  have hn2 : bc ≠ bp := h.h.c.ne p.b (by decide)
  have hn3 : bw ≠ bp := h.h.d.ne p.b (by decide)
  have hn4 := h.ne1
  have hn5 := h.ne2
  have pc := p.b.cell
  go_enter Tryz.func68, Tryz.ntmps68
  go_wp2_with (go_at_call 45; refine (act_store bp bq bc bw m [u, v] x nx dn ans own why 1 v x _ (h.al _) (p.al _) rfl).mono ?_; rintro e w1 ⟨rfl, hC, hF⟩; have hB : Blk w1 w.heap.size #[.int .u8 0, .int .i64 0, .int .u64 0, .int .u64 0, .bool false] 50 := hF.blk (Blk.new _ _ _) (by first | (simp; done) | (simp; omega)); have b1 := hB.cell; have b2 := hB.free; have hlt1 := hB.lt; have hP := hF.blk (p.al _).b (by first | (simp; done) | (simp; omega)); have p1 := hP.cell; have p2 := hP.free; have hpl1 := hP.lt)
  refine bodyPost_ret (v := .agg #[.int .u8 2, .int .i64 1, .int .u64 v, .int .u64 x, .bool true]) (by simp [results, Tryz.results68, go_sem, b1, hlt1]) rfl ⟨rfl, ?_, ?_, ?_⟩
  · refine hC.fr (S := [w.heap.size, bp]) ?_ ?_ ?_ ?_ ?_
    · repeat' (first | (with_reducible exact Fr.refl _ _) | (with_reducible refine Fr.drew ?_) | (with_reducible refine Fr.drN ?_ _) | (with_reducible refine Fr.alloc ?_ _) | (with_reducible refine Fr.set ?_ ?_ _) | (left; simp; done) | (right; simp; done) | (right; simp; omega))
    all_goals (simp; omega)
  · apply Pn.of (cs := (Array.setIfInBounds #[.pointer (some ⟨bq, 0, none⟩), .int .u8 1, .int .u64 x, nx, .bool dn, .int .u64 ans, .bool own, .int .i64 why] 3 (.func (.func 84) #[] #[])))
    · repeat' (first | (with_reducible exact hP) | (with_reducible refine Blk.drew ?_) | (with_reducible refine Blk.drN ?_ _) | (with_reducible refine Blk.set ?_ _ _) | (with_reducible refine Blk.other ?_ ?_ _) | (with_reducible refine Blk.alloc ?_ _) | (simp; done) | (simp; omega))
    · exact p.z
    · simp
  · replace hF := Fr.trans (a := w) (S := [bp, bw]) (by repeat' (first | (with_reducible exact Fr.refl _ _) | (with_reducible refine Fr.drew ?_) | (with_reducible refine Fr.drN ?_ _) | (with_reducible refine Fr.alloc ?_ _) | (with_reducible refine Fr.set ?_ ?_ _) | (left; simp; done) | (right; simp; done) | (right; simp; omega))) (hF.mono (by simp))
    repeat' (first | (with_reducible exact hF) | (with_reducible refine Fr.drew ?_) | (with_reducible refine Fr.drN ?_ _) | (with_reducible refine Fr.alloc ?_ _) | (with_reducible refine Fr.set ?_ ?_ _) | (left; simp; done) | (right; simp; done) | (right; simp; omega))
theorem last_any (bp bq bc bw : Nat) (m : Int) (u v : Int) (x : Int) (nx : Value) (dn : Bool) (ans : Int) (own : Bool) (why : Int) (w : World) (h : Cl w bq bc bw m [u, v]) (p : Pn w bp bq x nx dn ans own why) :
    Calls Tryz.prog 84 #[.pointer (some ⟨bp, 0, none⟩)] w fun e w' => e = .returned (.agg #[.int .u8 2, .int .i64 0, .int .u64 u, .int .u64 2, .bool true]) ∧ Cl w' bq bc bw m [2, v] ∧ Pn w' bp bq x nx true x true why ∧ Fr [bp, bw] w w' := by
  have hpl := p.b.lt
  have hfl := h.f.lt
  have hcl := h.h.c.lt
  have hwl := h.h.d.lt
  have hzz := h.z
  have hpz := p.z
  have hn1 : bq ≠ bp := h.f.ne p.b (by decide)
  have hn2 : bc ≠ bp := h.h.c.ne p.b (by decide)
  have hn3 : bw ≠ bp := h.h.d.ne p.b (by decide)
  have hn4 := h.ne1
  have hn5 := h.ne2
  have pc := p.b.cell
  go_enter Tryz.func84, Tryz.ntmps84
  go_wp2_with (go_at_call 45; refine (act_store bp bq bc bw m [u, v] x nx dn ans own why 0 u 2 _ (h.al _) (p.al _) rfl).mono ?_; rintro e w1 ⟨rfl, hC, hF⟩; have hB : Blk w1 w.heap.size #[.int .u8 0, .int .i64 0, .int .u64 0, .int .u64 0, .bool false] 50 := hF.blk (Blk.new _ _ _) (by first | (simp; done) | (simp; omega)); have b1 := hB.cell; have b2 := hB.free; have hlt1 := hB.lt; have hP := hF.blk (p.al _).b (by first | (simp; done) | (simp; omega)); have p1 := hP.cell; have p2 := hP.free; have hpl1 := hP.lt)
  refine bodyPost_ret (v := .agg #[.int .u8 2, .int .i64 0, .int .u64 u, .int .u64 2, .bool true]) (by simp [results, Tryz.results84, go_sem, b1, hlt1]) rfl ⟨rfl, ?_, ?_, ?_⟩
  · refine hC.fr (S := [w.heap.size, bp]) ?_ ?_ ?_ ?_ ?_
    · repeat' (first | (with_reducible exact Fr.refl _ _) | (with_reducible refine Fr.drew ?_) | (with_reducible refine Fr.drN ?_ _) | (with_reducible refine Fr.alloc ?_ _) | (with_reducible refine Fr.set ?_ ?_ _) | (left; simp; done) | (right; simp; done) | (right; simp; omega))
    all_goals (simp; omega)
  · apply Pn.of (cs := (Array.setIfInBounds (Array.setIfInBounds (Array.setIfInBounds #[.pointer (some ⟨bq, 0, none⟩), .int .u8 1, .int .u64 x, nx, .bool dn, .int .u64 ans, .bool own, .int .i64 why] 4 (.bool true)) 5 (.int .u64 x)) 6 (.bool true)))
    · repeat' (first | (with_reducible exact hP) | (with_reducible refine Blk.drew ?_) | (with_reducible refine Blk.drN ?_ _) | (with_reducible refine Blk.set ?_ _ _) | (with_reducible refine Blk.other ?_ ?_ _) | (with_reducible refine Blk.alloc ?_ _) | (simp; done) | (simp; omega))
    · exact p.z
    · simp
  · replace hF := Fr.trans (a := w) (S := [bp, bw]) (by repeat' (first | (with_reducible exact Fr.refl _ _) | (with_reducible refine Fr.drew ?_) | (with_reducible refine Fr.drN ?_ _) | (with_reducible refine Fr.alloc ?_ _) | (with_reducible refine Fr.set ?_ ?_ _) | (left; simp; done) | (right; simp; done) | (right; simp; omega))) (hF.mono (by simp))
    repeat' (first | (with_reducible exact hF) | (with_reducible refine Fr.drew ?_) | (with_reducible refine Fr.drN ?_ _) | (with_reducible refine Fr.alloc ?_ _) | (with_reducible refine Fr.set ?_ ?_ _) | (left; simp; done) | (right; simp; done) | (right; simp; omega))
end Go.Proofs.YtbbnafnnbhbbcaaGreatDoor
