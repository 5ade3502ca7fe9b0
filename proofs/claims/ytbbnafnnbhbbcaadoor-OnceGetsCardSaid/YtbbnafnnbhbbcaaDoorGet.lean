/- Once: Get. -/
import Derived.Test.YtbbnafnnbhbbcaaDoorOLives
namespace Go.Proofs.YtbbnafnnbhbbcaaDoor
open Go.RowKit
set_option maxRecDepth 100000
set_option linter.unusedVariables false
set_option linter.unusedSimpArgs false
set_option maxHeartbeats 4000000
theorem Cl.lock {w : World} {bq bc bw : Nat} {m : Int} {l : List Int} (h : Cl w bq bc bw m l) (m' : Int) : Cl (w.setCell ⟨bq, 1, none⟩ (.int .i32 m')) bq bc bw m' l := by
  have hF : Fr [bq] w (w.setCell ⟨bq, 1, none⟩ (.int .i32 m')) := (Fr.refl _ _).set (.inl (by simp)) _
  exact ⟨h.f.set 1 _, h.h.fr hF (by simpa using h.ne1.symm) (by simpa using h.ne2.symm) (by have := h.z; simp; omega), h.z⟩
theorem Cl.word {w : World} {bq bc bw : Nat} {m : Int} {l : List Int} (h : Cl w bq bc bw m l) : Cel w bq 1 (.int .i32 m) := h.f.cel 1 rfl
/-- What the law hands to Get. -/
abbrev clo (b4 b8 b9 : Nat) : Value := .func (.func 23) #[] #[.pointer (some ⟨b4, 0, none⟩), .pointer (some ⟨b8, 0, none⟩), .pointer (some ⟨b9, 0, none⟩)]
theorem clo_any (b4 b8 b9 : Nat) (n k x : Int) (f : Bool) (w : World) (h4 : Blk w b4 #[.int .i64 n] 3) (h8 : Blk w b8 #[.int .u8 k, .int .u64 x] 34) (h9 : Blk w b9 #[.bool f] 4) (h0 : 0 ≤ n) (h1 : n < 9223372036854775807) :
    Calls Tryd.prog 23 #[.pointer (some ⟨b4, 0, none⟩), .pointer (some ⟨b8, 0, none⟩), .pointer (some ⟨b9, 0, none⟩)] w fun e w' => e = .returned (.tuple #[.int .u64 x, .bool (!f)]) ∧ Blk w' b4 #[.int .i64 (n + 1)] 3 ∧ Fr [b4] w w' := by
  have hnot : ∀ (x : Bool) (w : World), (Op.unary .not (.bool x)).run Tryd.prog w = .ok (.bool (!x)) w := fun _ _ => rfl
  have hn1 := h4.ne h8 (by decide)
  have hn2 := h4.ne h9 (by decide)
  have c4 := h4.cell
  have c8 := h8.cell
  have c9 := h9.cell
  have f4 := h4.free 0
  have l4 := h4.lt
  have l8 := h8.lt
  have l9 := h9.lt
  have g4 := h4.set 0 (.int .i64 (n + 1))
  have g8 := (h8.other (a := ⟨b4, 0, none⟩) (by simpa using hn1.symm) (.int .i64 (n + 1))).cell
  have g9 := (h9.other (a := ⟨b4, 0, none⟩) (by simpa using hn2.symm) (.int .i64 (n + 1))).cell
  go_enter Tryd.func23, Tryd.ntmps23
  go_wp2
  go_quiet (fail)
  go_wp2
  go_ret2
  exact ⟨rfl, g4.drN _, ((Fr.refl _ _).set (.inl (by simp)) _).drN _⟩
theorem eq_nil (W : World) : (binOp .eql 73 .nilFunc .nilFunc).run Tryd.prog W = .ok (.bool true) W := by kernel_rfl
theorem eq_clo (b4 b8 b9 : Nat) (W : World) : (binOp .eql 73 (clo b4 b8 b9) .nilFunc).run Tryd.prog W = .ok (.bool false) W := by kernel_rfl
theorem get_nil (bq : Nat) (w : World) :
    Calls Tryd.prog 22 #[.pointer (some ⟨bq, 0, none⟩), .nilFunc] w fun e w' => e = .returned (.tuple #[.int .u64 0, .bool false, .int .i64 1]) ∧ Fr [] w w' := by
  have he1 := eq_nil
  have he2 := eq_clo
  go_enter_defers Tryd.func22, Tryd.ntmps22
  go_wp2
  refine ⟨_, results_tmp3 rfl _ _ _, ?_⟩
  exact ⟨rfl, (Fr.refl _ _).alloc _⟩
theorem get_made (bq bc bw b4 b8 b9 : Nat) (v : Int) (w : World) (h : Cl w bq bc bw 0 [2, v]) :
    Calls Tryd.prog 22 #[.pointer (some ⟨bq, 0, none⟩), clo b4 b8 b9] w fun e w' => e = .returned (.tuple #[.int .u64 v, .bool false, .int .i64 0]) ∧ Fr [] w w' := by
  have he1 := eq_nil
  have he2 := eq_clo
  go_enter_defers Tryd.func22, Tryd.ntmps22
  go_wp2_with ((go_at_call 11); (with_reducible refine (peek_made bq bc bw 0 v _ (h.al _)).mono ?_); rintro e w1 ⟨rfl, rfl⟩)
  refine ⟨_, results_tmp3 rfl _ _ _, ?_⟩
  exact ⟨rfl, (Fr.refl _ _).alloc _⟩
/-- What is done at the end: the word of the state is put. -/
theorem end_deferred (bq bc bw p2 p11 : Nat) (m u v y : Int) (w : World) (md : FrameMode) (h : Cl w bq bc bw m [u, v]) (h2 : Blk w p2 #[.pointer (some ⟨bq, 0, none⟩)] 25) (h11 : Blk w p11 #[.int .u64 y] 27) :
    CallsD Tryd.prog 37 #[.pointer (some ⟨p2, 0, none⟩), .pointer (some ⟨p11, 0, none⟩)] md w fun e u' w' => u' = md ∧ (e = .returned (.tuple #[]) ∧ Cl w' bq bc bw m [y, v] ∧ Fr [bw] w w') := by
  have c2 := h2.cell
  have c11 := h11.cell
  have l2 := h2.lt
  have l11 := h11.lt
  have cq := h.f.cell
  have lq := h.f.lt
  go_enter_d Tryd.func37, Tryd.ntmps37
  go_wp2
  go_still_tail 5, (by kernel_rfl)
  change wpList _ _ _ _ _ w.drew
  go_wp2_with ((go_at_call 36); (with_reducible refine (Cl.store0 (h.fr0 ((Fr.refl _ _).drew)) y).mono ?_); rintro e w1 ⟨rfl, hC, hF⟩)
  first | go_end0 | refine bodyPost_ret (results_none rfl _ _ _) rfl ?_
  exact ⟨rfl, hC, ((Fr.refl [bw] w).drew).trans hF⟩
theorem Uses.ne4 {w : World} {b : Nat} {v : Value} {t : TypeId} (h : Uses w) (hb : Blk w b #[v] t) : 0 ≠ b := by
  rintro rfl
  have := h.c2
  rw [hb.cell] at this
  cases this
theorem get_ok (bq bc bw b4 b8 b9 : Nat) (n k x v : Int) (w : World) (h : Cl w bq bc bw 0 [0, v]) (h4 : Blk w b4 #[.int .i64 n] 3) (h8 : Blk w b8 #[.int .u8 k, .int .u64 x] 34) (h9 : Blk w b9 #[.bool false] 4) (h0 : 0 ≤ n) (h1 : n < 9223372036854775807) :
    Calls Tryd.prog 22 #[.pointer (some ⟨bq, 0, none⟩), clo b4 b8 b9] w fun e w' => e = .returned (.tuple #[.int .u64 x, .bool true, .int .i64 0]) ∧ Cl w' bq bc bw 0 [2, x] ∧ Blk w' b4 #[.int .i64 (n + 1)] 3 ∧ Fr [bq, bw, b4] w w' := by
  have lq := h.f.lt
  have lc := h.h.c.lt
  have lw := h.h.d.lt
  have lu := h.h.u.lt
  have l4 := h4.lt
  have l8 := h8.lt
  have l9 := h9.lt
  have q1 := h.ne1
  have q2 := h.ne2
  have q4 : bq ≠ b4 := h.f.ne h4 (by decide)
  have q8 : bq ≠ b8 := h.f.ne h8 (by decide)
  have q9 : bq ≠ b9 := h.f.ne h9 (by decide)
  have w4 : bw ≠ b4 := h.h.d.ne h4 (by decide)
  have w8 : bw ≠ b8 := h.h.d.ne h8 (by decide)
  have w9 : bw ≠ b9 := h.h.d.ne h9 (by decide)
  have c4 : bc ≠ b4 := h.h.c.ne h4 (by decide)
  have u4 : 0 ≠ b4 := h.h.u.ne4 h4
  have hz := h.z
  have hP := Blk.new w #[.pointer (some ⟨bq, 0, none⟩)] 25
  have hCa := h.al (.cells #[.pointer (some ⟨bq, 0, none⟩)] 25)
  have hpc := hP.cell
  have hpl := hP.lt
  have hqc := hCa.f.cell
  have hql := hCa.f.lt
  have HCa := Lib.hid hCa
  clear hCa
  have he1 := eq_nil
  have he2 := eq_clo
  go_enter_defers Tryd.func22, Tryd.ntmps22
  go_wp2_with fail
  go_at_call 11
  refine (peek_not bq bc bw 0 0 v _ HCa.out (by decide)).mono ?_
  rintro e w1 ⟨rfl, rfl⟩
  go_wp2_with fail
  go_at_call 31
  refine (lock_free' bq 1 _ HCa.out.word).mono ?_
  rintro e w1 ⟨rfl, rfl⟩
  have hCb := HCa.out.lock 1
  have hPb : Blk ((w.alloc (.cells #[.pointer (some ⟨bq, 0, none⟩)] 25)).setCell ⟨bq, 1, none⟩ (.int .i32 1)) w.heap.size #[.pointer (some ⟨bq, 0, none⟩)] 25 := hP.other (by simp; omega) _
  have hFb : Fr [bq, bw, b4] w ((w.alloc (.cells #[.pointer (some ⟨bq, 0, none⟩)] 25)).setCell ⟨bq, 1, none⟩ (.int .i32 1)) := by repeat' (first | (with_reducible exact Fr.refl _ _) | (with_reducible refine Fr.drew ?_) | (with_reducible refine Fr.drN ?_ _) | (with_reducible refine Fr.alloc ?_ _) | (with_reducible refine Fr.set ?_ ?_ _) | (left; simp; done) | (right; simp; done) | (right; simp; omega))
  have hF0 : Fr [bq] w ((w.alloc (.cells #[.pointer (some ⟨bq, 0, none⟩)] 25)).setCell ⟨bq, 1, none⟩ (.int .i32 1)) := by repeat' (first | (with_reducible exact Fr.refl _ _) | (with_reducible refine Fr.drew ?_) | (with_reducible refine Fr.drN ?_ _) | (with_reducible refine Fr.alloc ?_ _) | (with_reducible refine Fr.set ?_ ?_ _) | (left; simp; done) | (right; simp; done) | (right; simp; omega))
  have h4b := hF0.blk h4 (by simpa using q4.symm)
  have h8b := hF0.blk h8 (by simpa using q8.symm)
  have h9b := hF0.blk h9 (by simpa using q9.symm)
  generalize ((w.alloc (.cells #[.pointer (some ⟨bq, 0, none⟩)] 25)).setCell ⟨bq, 1, none⟩ (.int .i32 1)) = wb at hCb hPb hFb h4b h8b h9b ⊢
  clear hpc hpl hqc hql hF0 hP
  have hpc := hPb.cell
  have hpl := hPb.lt
  have hqc := hCb.f.cell
  have hql := hCb.f.lt
  have HCb := Lib.hid hCb
  go_wp2_with fail
  go_at_call 11
  refine (peek_not bq bc bw 1 0 v _ hCb (by decide)).mono ?_
  rintro e w1 ⟨rfl, rfl⟩
  go_wp2_with fail
  go_at_call 36
  refine (Cl.store0 hCb 1).mono ?_
  rintro e wd ⟨rfl, hCd, hFd⟩
  have hPd := hFd.blk hPb (by simp; omega)
  have h4d := hFd.blk h4b (by simpa using w4.symm)
  have h8d := hFd.blk h8b (by simpa using w8.symm)
  have h9d := hFd.blk h9b (by simpa using w9.symm)
  have hFd' := hFb.trans (hFd.mono (by simp))
  have hszd := hPd.lt
  clear hpc hpl hqc hql hCb HCb hPb h4b h8b h9b hFb hFd
  have hpc := hPd.cell
  have hpl := hPd.lt
  have hqc := hCd.f.cell
  have hql := hCd.f.lt
  go_wp2_with fail
  go_at_call 23
  refine (clo_any b4 b8 b9 n k x false _ (h4d.alloc _) (h8d.alloc _) (h9d.alloc _) h0 h1).mono ?_
  rintro e we ⟨rfl, h4e, hFe⟩
  have hB : Blk we wd.heap.size #[.int .u64 0] 27 := hFe.blk (Blk.new _ _ _) (by simp; omega)
  have hCe := (hCd.al (.cells #[.int .u64 0] 27)).fr hFe (by simpa using q4) (by simpa using c4) (by simpa using w4) (by simpa using u4)
  have hPe := hFe.blk (hPd.alloc (.cells #[.int .u64 0] 27)) (by simp; omega)
  have hFe' : Fr [bq, bw, b4] w we := (hFd'.alloc _).trans (hFe.mono (by simp))
  have hsze := hFe.size
  simp only [World.size_alloc] at hsze
  clear hpc hpl hqc hql hCd hPd h4d h8d h9d hFd' hFe
  have hpc := hPe.cell
  have hpl := hPe.lt
  have hqc := hCe.f.cell
  have hql := hCe.f.lt
  have hbc := hB.cell
  have hbf := hB.free 0
  have hbl := hB.lt
  go_wp2_with fail
  go_at_call 36
  refine (Cl.store1 hCe x).mono ?_
  rintro e wf ⟨rfl, hCf, hFf⟩
  have hPf := hFf.blk hPe (by simp; omega)
  have h4f := hFf.blk h4e (by simpa using w4.symm)
  have hBf := hFf.blk hB (by simp; omega)
  have hFf' := hFe'.trans (hFf.mono (by simp))
  have hszf := hFf.size
  clear hpc hpl hqc hql hCe hPe h4e hFe' hFf hB hbc hbf hbl
  have hbc := hBf.cell
  have hbf := hBf.free 0
  have hbl := hBf.lt
  go_wp2_with fail
  have hB2 := hBf.set 0 (.int .u64 2)
  have hF1 : Fr [wd.heap.size] wf (wf.setCell ⟨wd.heap.size, 0, none⟩ (.int .u64 2)) := (Fr.refl _ _).set (.inl (by simp)) _
  have hC1 := hCf.fr hF1 (by simp; omega) (by simp; omega) (by simp; omega) (by simp; omega)
  have hP1 := hF1.blk hPf (by simp; omega)
  have h41 := hF1.blk h4f (by simp; omega)
  have hFz : Fr [bq, bw, b4] w (wf.setCell ⟨wd.heap.size, 0, none⟩ (.int .u64 2)) := hFf'.set (.inr (by simp; omega)) _
  generalize wf.setCell ⟨wd.heap.size, 0, none⟩ (.int .u64 2) = wz at hB2 hC1 hP1 h41 hFz ⊢
  refine leaves_cons (f := 37) (args := #[.pointer (some ⟨w.heap.size, 0, none⟩), .pointer (some ⟨wd.heap.size, 0, none⟩)]) (by simp) (by simp [go_sem]) ?_
  refine (end_deferred bq bc bw w.heap.size wd.heap.size 1 1 x 2 _ .returning hC1 hP1 hB2).mono ?_
  rintro e u' w'' ⟨rfl, rfl, hCy, hFy⟩
  have h4y := hFy.blk h41 (by simpa using w4.symm)
  have hFyy := hFz.trans (hFy.mono (by simp))
  refine leaves_cons (f := 32) (args := #[.pointer (some ⟨bq, 1, none⟩)]) (by simp [settle]) (by simp [go_sem]) ?_
  refine (Go.MuLone.unlock_deferred muLib ⟨bq, 1, none⟩ _ _ hCy.word.c hCy.word.f).mono ?_
  rintro e u' w'' ⟨rfl, rfl, rfl⟩
  refine ⟨_, results_tmp3 rfl _ _ _, rfl, hCy.lock 0, h4y.other (by simpa using q4.symm) _, hFyy.set (.inl (by simp)) _⟩
theorem get_fail (bq bc bw b4 b8 b9 : Nat) (n k x v : Int) (w : World) (h : Cl w bq bc bw 0 [0, v]) (h4 : Blk w b4 #[.int .i64 n] 3) (h8 : Blk w b8 #[.int .u8 k, .int .u64 x] 34) (h9 : Blk w b9 #[.bool true] 4) (h0 : 0 ≤ n) (h1 : n < 9223372036854775807) :
    Calls Tryd.prog 22 #[.pointer (some ⟨bq, 0, none⟩), clo b4 b8 b9] w fun e w' => e = .returned (.tuple #[.int .u64 0, .bool false, .int .i64 130]) ∧ Cl w' bq bc bw 0 [0, v] ∧ Blk w' b4 #[.int .i64 (n + 1)] 3 ∧ Fr [bq, bw, b4] w w' := by
  have lq := h.f.lt
  have lc := h.h.c.lt
  have lw := h.h.d.lt
  have lu := h.h.u.lt
  have l4 := h4.lt
  have l8 := h8.lt
  have l9 := h9.lt
  have q1 := h.ne1
  have q2 := h.ne2
  have q4 : bq ≠ b4 := h.f.ne h4 (by decide)
  have q8 : bq ≠ b8 := h.f.ne h8 (by decide)
  have q9 : bq ≠ b9 := h.f.ne h9 (by decide)
  have w4 : bw ≠ b4 := h.h.d.ne h4 (by decide)
  have w8 : bw ≠ b8 := h.h.d.ne h8 (by decide)
  have w9 : bw ≠ b9 := h.h.d.ne h9 (by decide)
  have c4 : bc ≠ b4 := h.h.c.ne h4 (by decide)
  have u4 : 0 ≠ b4 := h.h.u.ne4 h4
  have hz := h.z
  have hP := Blk.new w #[.pointer (some ⟨bq, 0, none⟩)] 25
  have hCa := h.al (.cells #[.pointer (some ⟨bq, 0, none⟩)] 25)
  have hpc := hP.cell
  have hpl := hP.lt
  have hqc := hCa.f.cell
  have hql := hCa.f.lt
  have HCa := Lib.hid hCa
  clear hCa
  have he1 := eq_nil
  have he2 := eq_clo
  go_enter_defers Tryd.func22, Tryd.ntmps22
  go_wp2_with fail
  go_at_call 11
  refine (peek_not bq bc bw 0 0 v _ HCa.out (by decide)).mono ?_
  rintro e w1 ⟨rfl, rfl⟩
  go_wp2_with fail
  go_at_call 31
  refine (lock_free' bq 1 _ HCa.out.word).mono ?_
  rintro e w1 ⟨rfl, rfl⟩
  have hCb := HCa.out.lock 1
  have hPb : Blk ((w.alloc (.cells #[.pointer (some ⟨bq, 0, none⟩)] 25)).setCell ⟨bq, 1, none⟩ (.int .i32 1)) w.heap.size #[.pointer (some ⟨bq, 0, none⟩)] 25 := hP.other (by simp; omega) _
  have hFb : Fr [bq, bw, b4] w ((w.alloc (.cells #[.pointer (some ⟨bq, 0, none⟩)] 25)).setCell ⟨bq, 1, none⟩ (.int .i32 1)) := by repeat' (first | (with_reducible exact Fr.refl _ _) | (with_reducible refine Fr.drew ?_) | (with_reducible refine Fr.drN ?_ _) | (with_reducible refine Fr.alloc ?_ _) | (with_reducible refine Fr.set ?_ ?_ _) | (left; simp; done) | (right; simp; done) | (right; simp; omega))
  have hF0 : Fr [bq] w ((w.alloc (.cells #[.pointer (some ⟨bq, 0, none⟩)] 25)).setCell ⟨bq, 1, none⟩ (.int .i32 1)) := by repeat' (first | (with_reducible exact Fr.refl _ _) | (with_reducible refine Fr.drew ?_) | (with_reducible refine Fr.drN ?_ _) | (with_reducible refine Fr.alloc ?_ _) | (with_reducible refine Fr.set ?_ ?_ _) | (left; simp; done) | (right; simp; done) | (right; simp; omega))
  have h4b := hF0.blk h4 (by simpa using q4.symm)
  have h8b := hF0.blk h8 (by simpa using q8.symm)
  have h9b := hF0.blk h9 (by simpa using q9.symm)
  generalize ((w.alloc (.cells #[.pointer (some ⟨bq, 0, none⟩)] 25)).setCell ⟨bq, 1, none⟩ (.int .i32 1)) = wb at hCb hPb hFb h4b h8b h9b ⊢
  clear hpc hpl hqc hql hF0 hP
  have hpc := hPb.cell
  have hpl := hPb.lt
  have hqc := hCb.f.cell
  have hql := hCb.f.lt
  have HCb := Lib.hid hCb
  go_wp2_with fail
  go_at_call 11
  refine (peek_not bq bc bw 1 0 v _ hCb (by decide)).mono ?_
  rintro e w1 ⟨rfl, rfl⟩
  go_wp2_with fail
  go_at_call 36
  refine (Cl.store0 hCb 1).mono ?_
  rintro e wd ⟨rfl, hCd, hFd⟩
  have hPd := hFd.blk hPb (by simp; omega)
  have h4d := hFd.blk h4b (by simpa using w4.symm)
  have h8d := hFd.blk h8b (by simpa using w8.symm)
  have h9d := hFd.blk h9b (by simpa using w9.symm)
  have hFd' := hFb.trans (hFd.mono (by simp))
  have hszd := hPd.lt
  clear hpc hpl hqc hql hCb HCb hPb h4b h8b h9b hFb hFd
  have hpc := hPd.cell
  have hpl := hPd.lt
  have hqc := hCd.f.cell
  have hql := hCd.f.lt
  go_wp2_with fail
  go_at_call 23
  refine (clo_any b4 b8 b9 n k x true _ (h4d.alloc _) (h8d.alloc _) (h9d.alloc _) h0 h1).mono ?_
  rintro e we ⟨rfl, h4e, hFe⟩
  have hB : Blk we wd.heap.size #[.int .u64 0] 27 := hFe.blk (Blk.new _ _ _) (by simp; omega)
  have hCe := (hCd.al (.cells #[.int .u64 0] 27)).fr hFe (by simpa using q4) (by simpa using c4) (by simpa using w4) (by simpa using u4)
  have hPe := hFe.blk (hPd.alloc (.cells #[.int .u64 0] 27)) (by simp; omega)
  have hFe' : Fr [bq, bw, b4] w we := (hFd'.alloc _).trans (hFe.mono (by simp))
  have hsze := hFe.size
  simp only [World.size_alloc] at hsze
  clear hpc hpl hqc hql hCd hPd h4d h8d h9d hFd' hFe
  have hpc := hPe.cell
  have hpl := hPe.lt
  have hqc := hCe.f.cell
  have hql := hCe.f.lt
  have hbc := hB.cell
  have hbf := hB.free 0
  have hbl := hB.lt
  go_wp2_with fail
  refine leaves_cons (f := 37) (args := #[.pointer (some ⟨w.heap.size, 0, none⟩), .pointer (some ⟨wd.heap.size, 0, none⟩)]) (by simp) (by simp [go_sem]) ?_
  refine (end_deferred bq bc bw w.heap.size wd.heap.size 1 1 v 0 _ .returning hCe hPe hB).mono ?_
  rintro e u' w'' ⟨rfl, rfl, hCy, hFy⟩
  have h4y := hFy.blk h4e (by simpa using w4.symm)
  have hFyy := hFe'.trans (hFy.mono (by simp))
  refine leaves_cons (f := 32) (args := #[.pointer (some ⟨bq, 1, none⟩)]) (by simp [settle]) (by simp [go_sem]) ?_
  refine (Go.MuLone.unlock_deferred muLib ⟨bq, 1, none⟩ _ _ hCy.word.c hCy.word.f).mono ?_
  rintro e u' w'' ⟨rfl, rfl, rfl⟩
  refine ⟨_, results_tmp3 rfl _ _ _, rfl, hCy.lock 0, h4y.other (by simpa using q4.symm) _, hFyy.set (.inl (by simp)) _⟩
end Go.Proofs.YtbbnafnnbhbbcaaDoor
