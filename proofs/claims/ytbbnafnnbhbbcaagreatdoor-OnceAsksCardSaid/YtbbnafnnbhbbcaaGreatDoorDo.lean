/- The package cells: Do on words that are held by a Cells. -/
import Derived.Test.YtbbnafnnbhbbcaaGreatDoorDone
namespace Go.Proofs.YtbbnafnnbhbbcaaGreatDoor
open Go.RowKit
/-- What the table 'uses' holds, where load, store and compare-and-swap look. -/
structure Uses (w : World) : Prop where
  c2 : w.cell? ⟨0, 2, none⟩ = some (.bool false)
  c3 : w.cell? ⟨0, 3, none⟩ = some (.bool false)
  c4 : w.cell? ⟨0, 4, none⟩ = some (.bool false)
  c5 : w.cell? ⟨0, 5, none⟩ = some (.bool true)
  c10 : w.cell? ⟨0, 10, none⟩ = some (.bool true)
  c11 : w.cell? ⟨0, 11, none⟩ = some (.bool true)
theorem Uses.lt {w : World} (h : Uses w) : 0 < w.heap.size := World.block_lt_of_cell? w ⟨0, 2, none⟩ h.c2
theorem Uses.of {w w' : World} (h : Uses w) (e : w'.heap[0]? = w.heap[0]?) : Uses w' :=
  ⟨(World.cell?_of_block e).trans h.c2, (World.cell?_of_block e).trans h.c3, (World.cell?_of_block e).trans h.c4, (World.cell?_of_block e).trans h.c5, (World.cell?_of_block e).trans h.c10, (World.cell?_of_block e).trans h.c11⟩
theorem Uses.al {w : World} (h : Uses w) (o : Obj) : Uses (w.alloc o) := h.of (Below.heap_alloc w o _ h.lt)
theorem Uses.fr {S : List Nat} {w w' : World} (h : Uses w) (f : Fr S w w') (hs : 0 ∉ S) : Uses w' := h.of (f.block _ h.lt hs)

/-- Words as memory has them. -/
def wds (l : List Int) : Array Value := (l.map (Value.int .u64)).toArray
theorem wds_get (l : List Int) (i : Nat) : (wds l)[i]? = (l[i]?).map (Value.int .u64) := by simp [wds]
theorem wds_size (l : List Int) : (wds l).size = l.length := by simp [wds]
theorem wds_set (l : List Int) (i : Nat) (x : Int) : (wds l).setIfInBounds i (.int .u64 x) = wds (l.set i x) := by
  simp [wds, List.map_set]
/-- A Cells at block bc, its words at block bw. -/
structure Has (w : World) (bc bw : Nat) (l : List Int) : Prop where
  c : Blk w bc #[.slice (some ⟨bw, 0, none⟩) l.length l.length] 111
  d : Blk w bw (wds l) 131
  u : Uses w
  n : l.length ≤ 65536
  z : bw ≠ 0
theorem Has.ne {w : World} {bc bw : Nat} {l : List Int} (h : Has w bc bw l) : bc ≠ bw := h.c.ne h.d (by decide)
theorem Has.fr {S : List Nat} {w w' : World} {bc bw : Nat} {l : List Int} (h : Has w bc bw l) (f : Fr S w w') (h1 : bc ∉ S) (h2 : bw ∉ S) (h3 : 0 ∉ S) : Has w' bc bw l :=
  ⟨f.blk h.c h1, f.blk h.d h2, h.u.fr f h3, h.n, h.z⟩
theorem Has.fr0 {w w' : World} {bc bw : Nat} {l : List Int} (h : Has w bc bw l) (f : Fr [] w w') : Has w' bc bw l := h.fr f (by simp) (by simp) (by simp)
theorem Has.al {w : World} {bc bw : Nat} {l : List Int} (h : Has w bc bw l) (o : Obj) : Has (w.alloc o) bc bw l := h.fr0 ((Fr.refl _ _).alloc _)
theorem Has.dr {w : World} {bc bw : Nat} {l : List Int} (h : Has w bc bw l) : Has w.drew bc bw l := h.fr0 ((Fr.refl _ _).drew)
theorem Has.st {w : World} {bc bw : Nat} {l : List Int} (h : Has w bc bw l) (a : Addr) (v : Value) (h1 : bc ≠ a.block) (h2 : bw ≠ a.block) (h3 : 0 ≠ a.block) : Has (w.setCell a v) bc bw l :=
  h.fr (S := [a.block]) ((Fr.refl _ _).set (by simp) v) (by simpa using h1) (by simpa using h2) (by simpa using h3)
theorem Has.put {w w' : World} {bc bw i : Nat} {l : List Int} {x : Int} (h : Has w bc bw l) (f : Fr [bw] w w') (hd : Blk w' bw ((wds l).setIfInBounds i (.int .u64 x)) 131) : Has w' bc bw (l.set i x) :=
  ⟨by have := f.blk h.c (by simpa using h.ne); simpa using this, by rw [← wds_set]; exact hd, h.u.fr f (by simpa using h.z.symm), by simpa using h.n, h.z⟩

set_option maxRecDepth 100000
set_option maxHeartbeats 1000000
theorem do_load (bc bw i : Nat) (l : List Int) (x : Int) (w : World) (h : Has w bc bw l) (hx : l[i]? = some x) :
    Calls Tryz.prog 66 #[.pointer (some ⟨bc, 0, none⟩), .agg #[.int .u8 1, .int .i64 i, .int .u64 0, .int .u64 0]] w fun e w' => e = .returned (.tuple #[.agg #[.int .u8 1, .int .i64 i, .int .u64 x, .int .u64 x, .bool true], .int .i64 0]) ∧ Fr [] w w' := by
  have hlt : i < l.length := (List.getElem?_eq_some_iff.1 hx).1
  have hn := h.n
  have hcl := h.c.lt
  have hdl := h.d.lt
  have hul := h.u.lt
  have hC : Cel w bc 0 (.slice (some ⟨bw, 0, none⟩) l.length l.length) := h.c.cel 0 rfl
  have hbne := h.ne
  have hc := hC.c
  have hxd : (wds l)[i]? = some (.int .u64 x) := by rw [wds_get, hx]; rfl
  have u2 := h.u.c2
  have u3 := h.u.c3
  have hw : Cel w bw i (.int .u64 x) := h.d.cel i hxd
  have HX := Lib.hid hxd
  clear hx h hxd
  go_enter Tryz.func66, Tryz.ntmps66
  go_wp2_with fail
  go_quiet (fail)
  go_wp2_with fail
  refine region_tail 8 (by kernel_rfl) (by kernel_rfl) ?_
  intro W hW
  have hF0 : Fr [] w W := by rw [← hW]; repeat' (first | (with_reducible exact Fr.refl _ _) | (with_reducible refine Fr.drew ?_) | (with_reducible refine Fr.drN ?_ _) | (with_reducible refine Fr.alloc ?_ _) | (with_reducible refine Fr.set ?_ ?_ _) | (left; simp; done) | (right; simp; done) | (right; simp; omega))
  have hBr : Blk W (w.heap.size + 1) #[.int .u8 0, .int .i64 0, .int .u64 0, .int .u64 0, .bool false] 50 := by rw [← hW]; repeat' (first | ((with_reducible refine Blk.mk0 _ _ _ _ ?_); first | (simp; done) | (simp; omega)) | (with_reducible refine Blk.drew ?_) | (with_reducible refine Blk.drN ?_ _) | (with_reducible refine Blk.set ?_ _ _) | (with_reducible refine Blk.other ?_ ?_ _) | (with_reducible refine Blk.alloc ?_ _) | (simp; done) | (simp; omega))
  have hBa : Blk W w.heap.size #[.int .u8 1, .int .i64 i, .int .u64 0, .int .u64 0] 128 := by rw [← hW]; repeat' (first | ((with_reducible refine Blk.mk0 _ _ _ _ ?_); first | (simp; done) | (simp; omega)) | (with_reducible refine Blk.drew ?_) | (with_reducible refine Blk.drN ?_ _) | (with_reducible refine Blk.set ?_ _ _) | (with_reducible refine Blk.other ?_ ?_ _) | (with_reducible refine Blk.alloc ?_ _) | (simp; done) | (simp; omega))
  have hW0 := hW
  clear hW
  have c0 := (hBa.cel 0 (v := .int .u8 1) rfl).c
  have c1 := (hBa.cel 1 (v := .int .i64 i) rfl).c
  have c2 := (hBa.cel 2 (v := .int .u64 0) rfl).c
  have c3 := (hBa.cel 3 (v := .int .u64 0) rfl).c
  replace hw : Cel W bw i (.int .u64 x) := hF0.cel hw (by simp)
  have hcW : W.cell? ⟨bc, 0, none⟩ = some (.slice (some ⟨bw, 0, none⟩) l.length l.length) := (hF0.cel (hC) (by simp)).c
  clear hc hW0
  have hi0 : (0 : Int) ≤ i := by omega
  have hi1 : (i : Int) < l.length := by omega
  simp only [List.take_succ_cons, List.take_zero, List.drop_succ_cons, List.drop_zero]
  repeat still_step
  refine wpStill_nil ?_
  go_wp2_with (go_at_call 83; refine (done_load bw i _ x _ hw).mono ?_; rintro e w' ⟨rfl, hf⟩; have hB : Blk w' (w.heap.size + 1) #[.int .u8 0, .int .i64 0, .int .u64 0, .int .u64 0, .bool false] 50 := (hf.blk hBr (by first | (simp; done) | (simp; omega))); have a0 := (hB.cel 0 (v := .int .u8 0) rfl).c; have b0 := (hB.cel 0 rfl).f; have a1 := (hB.cel 1 (v := .int .i64 0) rfl).c; have b1 := (hB.cel 1 rfl).f; have a2 := (hB.cel 2 (v := .int .u64 0) rfl).c; have b2 := (hB.cel 2 rfl).f; have a3 := (hB.cel 3 (v := .int .u64 0) rfl).c; have b3 := (hB.cel 3 rfl).f; have a4 := (hB.cel 4 (v := .bool false) rfl).c; have b4 := (hB.cel 4 rfl).f; have HF := Lib.hid (Fr.trans (a := w) (S := []) hF0 hf); clear hf; have HB := Lib.hid hB; clear hB)
  all_goals go_wp2
  all_goals (try simp only [Exit.inBlock, Exit.then])
  all_goals refine bodyPost_ret (v := .tuple #[.agg #[.int .u8 1, .int .i64 i, .int .u64 x, .int .u64 x, .bool true], .int .i64 0]) (by simp [results, Tryz.results66, go_sem, *]) rfl ?_
  all_goals exact ⟨rfl, by repeat' (first | (with_reducible exact HF.out) | (with_reducible refine Fr.drew ?_) | (with_reducible refine Fr.drN ?_ _) | (with_reducible refine Fr.alloc ?_ _) | (with_reducible refine Fr.set ?_ ?_ _) | (left; simp; done) | (right; simp; done) | (right; simp; omega))⟩
theorem do_cas_miss (bc bw i : Nat) (l : List Int) (x u y : Int) (w : World) (h : Has w bc bw l) (hx : l[i]? = some x) (hne : ¬ x = u) :
    Calls Tryz.prog 66 #[.pointer (some ⟨bc, 0, none⟩), .agg #[.int .u8 5, .int .i64 i, .int .u64 u, .int .u64 y]] w fun e w' => e = .returned (.tuple #[.agg #[.int .u8 5, .int .i64 i, .int .u64 x, .int .u64 x, .bool false], .int .i64 0]) ∧ Fr [] w w' := by
  have hlt : i < l.length := (List.getElem?_eq_some_iff.1 hx).1
  have hn := h.n
  have hcl := h.c.lt
  have hdl := h.d.lt
  have hul := h.u.lt
  have hC : Cel w bc 0 (.slice (some ⟨bw, 0, none⟩) l.length l.length) := h.c.cel 0 rfl
  have hbne := h.ne
  have hc := hC.c
  have hxd : (wds l)[i]? = some (.int .u64 x) := by rw [wds_get, hx]; rfl
  have u2 := h.u.c10
  have u3 := h.u.c11
  have hw : Cel w bw i (.int .u64 x) := h.d.cel i hxd
  have HN := Lib.hid hne
  clear hne
  have HX := Lib.hid hxd
  clear hx h hxd
  go_enter Tryz.func66, Tryz.ntmps66
  go_wp2_with fail
  go_quiet (fail)
  go_wp2_with fail
  refine region_tail 8 (by kernel_rfl) (by kernel_rfl) ?_
  intro W hW
  have hF0 : Fr [] w W := by rw [← hW]; repeat' (first | (with_reducible exact Fr.refl _ _) | (with_reducible refine Fr.drew ?_) | (with_reducible refine Fr.drN ?_ _) | (with_reducible refine Fr.alloc ?_ _) | (with_reducible refine Fr.set ?_ ?_ _) | (left; simp; done) | (right; simp; done) | (right; simp; omega))
  have hBr : Blk W (w.heap.size + 1) #[.int .u8 0, .int .i64 0, .int .u64 0, .int .u64 0, .bool false] 50 := by rw [← hW]; repeat' (first | ((with_reducible refine Blk.mk0 _ _ _ _ ?_); first | (simp; done) | (simp; omega)) | (with_reducible refine Blk.drew ?_) | (with_reducible refine Blk.drN ?_ _) | (with_reducible refine Blk.set ?_ _ _) | (with_reducible refine Blk.other ?_ ?_ _) | (with_reducible refine Blk.alloc ?_ _) | (simp; done) | (simp; omega))
  have hBa : Blk W w.heap.size #[.int .u8 5, .int .i64 i, .int .u64 u, .int .u64 y] 128 := by rw [← hW]; repeat' (first | ((with_reducible refine Blk.mk0 _ _ _ _ ?_); first | (simp; done) | (simp; omega)) | (with_reducible refine Blk.drew ?_) | (with_reducible refine Blk.drN ?_ _) | (with_reducible refine Blk.set ?_ _ _) | (with_reducible refine Blk.other ?_ ?_ _) | (with_reducible refine Blk.alloc ?_ _) | (simp; done) | (simp; omega))
  have hW0 := hW
  clear hW
  have c0 := (hBa.cel 0 (v := .int .u8 5) rfl).c
  have c1 := (hBa.cel 1 (v := .int .i64 i) rfl).c
  have c2 := (hBa.cel 2 (v := .int .u64 u) rfl).c
  have c3 := (hBa.cel 3 (v := .int .u64 y) rfl).c
  replace hw : Cel W bw i (.int .u64 x) := hF0.cel hw (by simp)
  have hcW : W.cell? ⟨bc, 0, none⟩ = some (.slice (some ⟨bw, 0, none⟩) l.length l.length) := (hF0.cel (hC) (by simp)).c
  clear hc hW0
  have hi0 : (0 : Int) ≤ i := by omega
  have hi1 : (i : Int) < l.length := by omega
  simp only [List.take_succ_cons, List.take_zero, List.drop_succ_cons, List.drop_zero]
  repeat still_step
  refine wpStill_nil ?_
  go_wp2_with (go_at_call 83; refine (done_cas_miss bw i _ x u y _ hw HN.out).mono ?_; rintro e w' ⟨rfl, hf⟩; have hB : Blk w' (w.heap.size + 1) #[.int .u8 0, .int .i64 0, .int .u64 0, .int .u64 0, .bool false] 50 := (hf.blk hBr (by first | (simp; done) | (simp; omega))); have a0 := (hB.cel 0 (v := .int .u8 0) rfl).c; have b0 := (hB.cel 0 rfl).f; have a1 := (hB.cel 1 (v := .int .i64 0) rfl).c; have b1 := (hB.cel 1 rfl).f; have a2 := (hB.cel 2 (v := .int .u64 0) rfl).c; have b2 := (hB.cel 2 rfl).f; have a3 := (hB.cel 3 (v := .int .u64 0) rfl).c; have b3 := (hB.cel 3 rfl).f; have a4 := (hB.cel 4 (v := .bool false) rfl).c; have b4 := (hB.cel 4 rfl).f; have HF := Lib.hid (Fr.trans (a := w) (S := []) hF0 hf); clear hf; have HB := Lib.hid hB; clear hB)
  all_goals go_wp2
  all_goals (try simp only [Exit.inBlock, Exit.then])
  all_goals refine bodyPost_ret (v := .tuple #[.agg #[.int .u8 5, .int .i64 i, .int .u64 x, .int .u64 x, .bool false], .int .i64 0]) (by simp [results, Tryz.results66, go_sem, *]) rfl ?_
  all_goals exact ⟨rfl, by repeat' (first | (with_reducible exact HF.out) | (with_reducible refine Fr.drew ?_) | (with_reducible refine Fr.drN ?_ _) | (with_reducible refine Fr.alloc ?_ _) | (with_reducible refine Fr.set ?_ ?_ _) | (left; simp; done) | (right; simp; done) | (right; simp; omega))⟩
theorem do_store (bc bw i : Nat) (l : List Int) (x y : Int) (w : World) (h : Has w bc bw l) (hx : l[i]? = some x) :
    Calls Tryz.prog 66 #[.pointer (some ⟨bc, 0, none⟩), .agg #[.int .u8 2, .int .i64 i, .int .u64 0, .int .u64 y]] w fun e w' => e = .returned (.tuple #[.agg #[.int .u8 2, .int .i64 i, .int .u64 x, .int .u64 y, .bool true], .int .i64 0]) ∧ Has w' bc bw (l.set i y) ∧ Fr [bw] w w' := by
  have hlt : i < l.length := (List.getElem?_eq_some_iff.1 hx).1
  have hn := h.n
  have hcl := h.c.lt
  have hdl := h.d.lt
  have hul := h.u.lt
  have hC : Cel w bc 0 (.slice (some ⟨bw, 0, none⟩) l.length l.length) := h.c.cel 0 rfl
  have hbne := h.ne
  have hc := hC.c
  have hxd : (wds l)[i]? = some (.int .u64 x) := by rw [wds_get, hx]; rfl
  have u2 := h.u.c4
  have u3 := h.u.c5
  have hd := h.d
  have HH : Hid (∀ w', Fr [bw] w w' → Blk w' bw ((wds l).setIfInBounds i (.int .u64 y)) 131 → Has w' bc bw (l.set i y)) := fun w' f d => h.put f d
  have HX := Lib.hid hxd
  clear hx h hxd
  go_enter Tryz.func66, Tryz.ntmps66
  go_wp2_with fail
  go_quiet (fail)
  go_wp2_with fail
  refine region_tail 8 (by kernel_rfl) (by kernel_rfl) ?_
  intro W hW
  have hF0 : Fr [bw] w W := by rw [← hW]; repeat' (first | (with_reducible exact Fr.refl _ _) | (with_reducible refine Fr.drew ?_) | (with_reducible refine Fr.drN ?_ _) | (with_reducible refine Fr.alloc ?_ _) | (with_reducible refine Fr.set ?_ ?_ _) | (left; simp; done) | (right; simp; done) | (right; simp; omega))
  have hBr : Blk W (w.heap.size + 1) #[.int .u8 0, .int .i64 0, .int .u64 0, .int .u64 0, .bool false] 50 := by rw [← hW]; repeat' (first | ((with_reducible refine Blk.mk0 _ _ _ _ ?_); first | (simp; done) | (simp; omega)) | (with_reducible refine Blk.drew ?_) | (with_reducible refine Blk.drN ?_ _) | (with_reducible refine Blk.set ?_ _ _) | (with_reducible refine Blk.other ?_ ?_ _) | (with_reducible refine Blk.alloc ?_ _) | (simp; done) | (simp; omega))
  have hBa : Blk W w.heap.size #[.int .u8 2, .int .i64 i, .int .u64 0, .int .u64 y] 128 := by rw [← hW]; repeat' (first | ((with_reducible refine Blk.mk0 _ _ _ _ ?_); first | (simp; done) | (simp; omega)) | (with_reducible refine Blk.drew ?_) | (with_reducible refine Blk.drN ?_ _) | (with_reducible refine Blk.set ?_ _ _) | (with_reducible refine Blk.other ?_ ?_ _) | (with_reducible refine Blk.alloc ?_ _) | (simp; done) | (simp; omega))
  have hW0 := hW
  clear hW
  have c0 := (hBa.cel 0 (v := .int .u8 2) rfl).c
  have c1 := (hBa.cel 1 (v := .int .i64 i) rfl).c
  have c2 := (hBa.cel 2 (v := .int .u64 0) rfl).c
  have c3 := (hBa.cel 3 (v := .int .u64 y) rfl).c
  replace hd : Blk W bw (wds l) 131 := by rw [← hW0]; repeat' (first | (with_reducible exact hd) | (with_reducible refine Blk.drew ?_) | (with_reducible refine Blk.drN ?_ _) | (with_reducible refine Blk.set ?_ _ _) | (with_reducible refine Blk.other ?_ ?_ _) | (with_reducible refine Blk.alloc ?_ _) | (simp; done) | (simp; omega))
  have hcW : W.cell? ⟨bc, 0, none⟩ = some (.slice (some ⟨bw, 0, none⟩) l.length l.length) := (hF0.cel hC (by simpa using hbne)).c
  clear hc hW0
  have hi0 : (0 : Int) ≤ i := by omega
  have hi1 : (i : Int) < l.length := by omega
  simp only [List.take_succ_cons, List.take_zero, List.drop_succ_cons, List.drop_zero]
  repeat still_step
  refine wpStill_nil ?_
  go_wp2_with (go_at_call 83; refine (done_store bw i (wds l) 131 _ x y _ hd HX.out).mono ?_; rintro e w' ⟨rfl, hf, hp⟩; have HP := Lib.hid hp; clear hp; have hB : Blk w' (w.heap.size + 1) #[.int .u8 0, .int .i64 0, .int .u64 0, .int .u64 0, .bool false] 50 := (hf.blk hBr (by first | (simp; done) | (simp; omega))); have a0 := (hB.cel 0 (v := .int .u8 0) rfl).c; have b0 := (hB.cel 0 rfl).f; have a1 := (hB.cel 1 (v := .int .i64 0) rfl).c; have b1 := (hB.cel 1 rfl).f; have a2 := (hB.cel 2 (v := .int .u64 0) rfl).c; have b2 := (hB.cel 2 rfl).f; have a3 := (hB.cel 3 (v := .int .u64 0) rfl).c; have b3 := (hB.cel 3 rfl).f; have a4 := (hB.cel 4 (v := .bool false) rfl).c; have b4 := (hB.cel 4 rfl).f; have HF := Lib.hid (Fr.trans (a := w) (S := [bw]) hF0 hf); clear hf; have HB := Lib.hid hB; clear hB)
  all_goals go_wp2
  all_goals (try simp only [Exit.inBlock, Exit.then])
  all_goals refine bodyPost_ret (v := .tuple #[.agg #[.int .u8 2, .int .i64 i, .int .u64 x, .int .u64 y, .bool true], .int .i64 0]) (by simp [results, Tryz.results66, go_sem, *]) rfl ?_
  all_goals exact ⟨rfl, HH.out _ (by repeat' (first | (with_reducible exact HF.out) | (with_reducible refine Fr.drew ?_) | (with_reducible refine Fr.drN ?_ _) | (with_reducible refine Fr.alloc ?_ _) | (with_reducible refine Fr.set ?_ ?_ _) | (left; simp; done) | (right; simp; done) | (right; simp; omega))) (by repeat' (first | (with_reducible exact HP.out) | (with_reducible refine Blk.drew ?_) | (with_reducible refine Blk.drN ?_ _) | (with_reducible refine Blk.other ?_ ?_ _) | (with_reducible refine Blk.alloc ?_ _) | (simp; done) | (simp; omega))), (by repeat' (first | (with_reducible exact HF.out) | (with_reducible refine Fr.drew ?_) | (with_reducible refine Fr.drN ?_ _) | (with_reducible refine Fr.alloc ?_ _) | (with_reducible refine Fr.set ?_ ?_ _) | (left; simp; done) | (right; simp; done) | (right; simp; omega)))⟩
theorem do_cas (bc bw i : Nat) (l : List Int) (x y : Int) (w : World) (h : Has w bc bw l) (hx : l[i]? = some x) :
    Calls Tryz.prog 66 #[.pointer (some ⟨bc, 0, none⟩), .agg #[.int .u8 5, .int .i64 i, .int .u64 x, .int .u64 y]] w fun e w' => e = .returned (.tuple #[.agg #[.int .u8 5, .int .i64 i, .int .u64 x, .int .u64 y, .bool true], .int .i64 0]) ∧ Has w' bc bw (l.set i y) ∧ Fr [bw] w w' := by
  have hlt : i < l.length := (List.getElem?_eq_some_iff.1 hx).1
  have hn := h.n
  have hcl := h.c.lt
  have hdl := h.d.lt
  have hul := h.u.lt
  have hC : Cel w bc 0 (.slice (some ⟨bw, 0, none⟩) l.length l.length) := h.c.cel 0 rfl
  have hbne := h.ne
  have hc := hC.c
  have hxd : (wds l)[i]? = some (.int .u64 x) := by rw [wds_get, hx]; rfl
  have u2 := h.u.c10
  have u3 := h.u.c11
  have hd := h.d
  have HH : Hid (∀ w', Fr [bw] w w' → Blk w' bw ((wds l).setIfInBounds i (.int .u64 y)) 131 → Has w' bc bw (l.set i y)) := fun w' f d => h.put f d
  have HX := Lib.hid hxd
  clear hx h hxd
  go_enter Tryz.func66, Tryz.ntmps66
  go_wp2_with fail
  go_quiet (fail)
  go_wp2_with fail
  refine region_tail 8 (by kernel_rfl) (by kernel_rfl) ?_
  intro W hW
  have hF0 : Fr [bw] w W := by rw [← hW]; repeat' (first | (with_reducible exact Fr.refl _ _) | (with_reducible refine Fr.drew ?_) | (with_reducible refine Fr.drN ?_ _) | (with_reducible refine Fr.alloc ?_ _) | (with_reducible refine Fr.set ?_ ?_ _) | (left; simp; done) | (right; simp; done) | (right; simp; omega))
  have hBr : Blk W (w.heap.size + 1) #[.int .u8 0, .int .i64 0, .int .u64 0, .int .u64 0, .bool false] 50 := by rw [← hW]; repeat' (first | ((with_reducible refine Blk.mk0 _ _ _ _ ?_); first | (simp; done) | (simp; omega)) | (with_reducible refine Blk.drew ?_) | (with_reducible refine Blk.drN ?_ _) | (with_reducible refine Blk.set ?_ _ _) | (with_reducible refine Blk.other ?_ ?_ _) | (with_reducible refine Blk.alloc ?_ _) | (simp; done) | (simp; omega))
  have hBa : Blk W w.heap.size #[.int .u8 5, .int .i64 i, .int .u64 x, .int .u64 y] 128 := by rw [← hW]; repeat' (first | ((with_reducible refine Blk.mk0 _ _ _ _ ?_); first | (simp; done) | (simp; omega)) | (with_reducible refine Blk.drew ?_) | (with_reducible refine Blk.drN ?_ _) | (with_reducible refine Blk.set ?_ _ _) | (with_reducible refine Blk.other ?_ ?_ _) | (with_reducible refine Blk.alloc ?_ _) | (simp; done) | (simp; omega))
  have hW0 := hW
  clear hW
  have c0 := (hBa.cel 0 (v := .int .u8 5) rfl).c
  have c1 := (hBa.cel 1 (v := .int .i64 i) rfl).c
  have c2 := (hBa.cel 2 (v := .int .u64 x) rfl).c
  have c3 := (hBa.cel 3 (v := .int .u64 y) rfl).c
  replace hd : Blk W bw (wds l) 131 := by rw [← hW0]; repeat' (first | (with_reducible exact hd) | (with_reducible refine Blk.drew ?_) | (with_reducible refine Blk.drN ?_ _) | (with_reducible refine Blk.set ?_ _ _) | (with_reducible refine Blk.other ?_ ?_ _) | (with_reducible refine Blk.alloc ?_ _) | (simp; done) | (simp; omega))
  have hcW : W.cell? ⟨bc, 0, none⟩ = some (.slice (some ⟨bw, 0, none⟩) l.length l.length) := (hF0.cel hC (by simpa using hbne)).c
  clear hc hW0
  have hi0 : (0 : Int) ≤ i := by omega
  have hi1 : (i : Int) < l.length := by omega
  simp only [List.take_succ_cons, List.take_zero, List.drop_succ_cons, List.drop_zero]
  repeat still_step
  refine wpStill_nil ?_
  go_wp2_with (go_at_call 83; refine (done_cas bw i (wds l) 131 _ x y _ hd HX.out).mono ?_; rintro e w' ⟨rfl, hf, hp⟩; have HP := Lib.hid hp; clear hp; have hB : Blk w' (w.heap.size + 1) #[.int .u8 0, .int .i64 0, .int .u64 0, .int .u64 0, .bool false] 50 := (hf.blk hBr (by first | (simp; done) | (simp; omega))); have a0 := (hB.cel 0 (v := .int .u8 0) rfl).c; have b0 := (hB.cel 0 rfl).f; have a1 := (hB.cel 1 (v := .int .i64 0) rfl).c; have b1 := (hB.cel 1 rfl).f; have a2 := (hB.cel 2 (v := .int .u64 0) rfl).c; have b2 := (hB.cel 2 rfl).f; have a3 := (hB.cel 3 (v := .int .u64 0) rfl).c; have b3 := (hB.cel 3 rfl).f; have a4 := (hB.cel 4 (v := .bool false) rfl).c; have b4 := (hB.cel 4 rfl).f; have HF := Lib.hid (Fr.trans (a := w) (S := [bw]) hF0 hf); clear hf; have HB := Lib.hid hB; clear hB)
  all_goals go_wp2
  all_goals (try simp only [Exit.inBlock, Exit.then])
  all_goals refine bodyPost_ret (v := .tuple #[.agg #[.int .u8 5, .int .i64 i, .int .u64 x, .int .u64 y, .bool true], .int .i64 0]) (by simp [results, Tryz.results66, go_sem, *]) rfl ?_
  all_goals exact ⟨rfl, HH.out _ (by repeat' (first | (with_reducible exact HF.out) | (with_reducible refine Fr.drew ?_) | (with_reducible refine Fr.drN ?_ _) | (with_reducible refine Fr.alloc ?_ _) | (with_reducible refine Fr.set ?_ ?_ _) | (left; simp; done) | (right; simp; done) | (right; simp; omega))) (by repeat' (first | (with_reducible exact HP.out) | (with_reducible refine Blk.drew ?_) | (with_reducible refine Blk.drN ?_ _) | (with_reducible refine Blk.other ?_ ?_ _) | (with_reducible refine Blk.alloc ?_ _) | (simp; done) | (simp; omega))), (by repeat' (first | (with_reducible exact HF.out) | (with_reducible refine Fr.drew ?_) | (with_reducible refine Fr.drN ?_ _) | (with_reducible refine Fr.alloc ?_ _) | (with_reducible refine Fr.set ?_ ?_ _) | (left; simp; done) | (right; simp; done) | (right; simp; omega)))⟩
end Go.Proofs.YtbbnafnnbhbbcaaGreatDoor
