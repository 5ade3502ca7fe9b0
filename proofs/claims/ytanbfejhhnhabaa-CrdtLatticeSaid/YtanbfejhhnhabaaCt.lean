/- The package crdt: counters. -/
import Derived.Test.YtanbfejhhnhabaaBe
import Derived.Test.YtanbfejhhnhabaaLocks
import Derived.RegionTactic
import Derived.BigRegion
namespace Go.Proofs.Ytanbfejhhnhabaa
open Go.RowKit Go.Maps Go.Sort
set_option maxRecDepth 100000
set_option linter.unusedVariables false
set_option linter.unusedSimpArgs false
set_option maxHeartbeats 8000000
theorem NM.tight {w : World} {b n : Nat} {l : List Nd} (h : NM w b n l) (hg : Good l) : NM w b l.length l := by
  obtain ⟨D, ho, hD⟩ := h.ex
  have hp := names_perm ho hD hg
  have e : Maps.size D = l.length := by
    rw [size_keys ho.isMap, ← hp.length_eq]; simp
  refine ⟨D, ?_, hD⟩
  obtain ⟨es, clock, h1, h2, h3, h4⟩ := ho
  refine ⟨es, clock, h1, h2, ?_, h4⟩
  rw [h4] at e
  have e2 : es.size = l.length := by rw [← e]; show es.size = (List.foldr DataW.insert [] _).length; rw [length_sorted]; simp
  omega
/-- A counter in memory. -/
structure CT (w : World) (bc b : Nat) (m : Int) (nm : ByteArray) (l : List Nd) : Prop where
  blk : Blk w bc #[.int .i32 m, .int .u32 0, .string nm, .map (some b)] 77
  nm_ : NM w b l.length l
  good : Good l
  bnd : Bnd l
  len : l.length ≤ 64
  nsz : nameF nm = true
theorem CT.ne {w : World} {bc b : Nat} {m : Int} {nm : ByteArray} {l : List Nd} (h : CT w bc b m nm l) : bc ≠ b := h.nm_.neBlk h.blk
theorem CT.fr {S : List Nat} {w w' : World} {bc b : Nat} {m : Int} {nm : ByteArray} {l : List Nd} (h : CT w bc b m nm l) (f : Fr S w w') (h1 : bc ∉ S) (h2 : b ∉ S) : CT w' bc b m nm l :=
  ⟨f.blk h.blk h1, h.nm_.fr f h2, h.good, h.bnd, h.len, h.nsz⟩
theorem CT.fr0 {w w' : World} {bc b : Nat} {m : Int} {nm : ByteArray} {l : List Nd} (h : CT w bc b m nm l) (f : Fr [] w w') : CT w' bc b m nm l := h.fr f (by simp) (by simp)
theorem CT.lock {w : World} {bc b : Nat} {m : Int} {nm : ByteArray} {l : List Nd} (h : CT w bc b m nm l) (m' : Int) : CT (w.setCell ⟨bc, 0, none⟩ (.int .i32 m')) bc b m' nm l := by
  have hF : Fr [bc] w (w.setCell ⟨bc, 0, none⟩ (.int .i32 m')) := (Fr.refl _ _).set (.inl (by simp)) _
  exact ⟨h.blk.set 0 _, h.nm_.fr hF (by simpa using h.ne.symm), h.good, h.bnd, h.len, h.nsz⟩
theorem CT.word {w : World} {bc b : Nat} {m : Int} {nm : ByteArray} {l : List Nd} (h : CT w bc b m nm l) : Cel w bc 0 (.int .i32 m) := h.blk.cel 0 rfl
open Go.MuLone in
theorem lock_free' (b o : Nat) (w : World) (h : Cel w b o (.int .i32 0)) :
    Calls Try.prog 34 #[.pointer (some ⟨b, o, none⟩)] w fun e w' => e = .returned (.tuple #[]) ∧ w.setCell ⟨b, o, none⟩ (.int .i32 1) = w' :=
  (Go.MuLone.lock_free muLib ⟨b, o, none⟩ w h.c h.f).mono fun e w' h => ⟨h.1, h.2.symm⟩
theorem new_bad (nm : ByteArray) (w : World) (h : nameF nm = false) :
    Calls Try.prog 7 #[.string nm] w fun e w' => e = .returned (.tuple #[.pointer none, .int .i64 131]) ∧ w = w' := by
  go_enter Try.func7, Try.ntmps7
  go_wp2_with ((go_at_call 31); (with_reducible refine (name_any _ _).mono ?_); rintro e w1 ⟨rfl, rfl⟩)
  go_ret2
  exact ⟨rfl, rfl⟩
theorem new_ok (nm : ByteArray) (w : World) (h : nameF nm = true) :
    Calls Try.prog 7 #[.string nm] w fun e w' => ∃ bc b, e = .returned (.tuple #[.pointer (some ⟨bc, 0, none⟩), .int .i64 0]) ∧ CT w' bc b 0 nm [] ∧ w.heap.size ≤ bc ∧ w.heap.size ≤ b ∧ Fr [] w w' := by
  have hmm := @run_makeMap Try.prog
  go_enter Try.func7, Try.ntmps7
  go_wp2_with ((go_at_call 31); (with_reducible refine (name_any _ _).mono ?_); rintro e w1 ⟨rfl, rfl⟩)
  go_ret2
  refine ⟨_, w.heap.size, rfl, ⟨Blk.mk0 _ _ _ _ (by simp), (NM.made w _ rfl).fr0 ((Fr.refl _ _).alloc _), ⟨Srt.nil, by simp⟩, fun a ha => by simp at ha, by simp, h⟩, by simp, Nat.le_refl _, ?_⟩
  repeat' (first | (with_reducible exact Fr.refl _ _) | (with_reducible refine Fr.drew ?_) | (with_reducible refine Fr.drN ?_ _) | (with_reducible refine Fr.alloc ?_ _) | (with_reducible refine Fr.set ?_ ?_ _) | (left; simp; done) | (right; simp; done) | (right; simp; omega))
theorem cstate_any (bc b : Nat) (nm : ByteArray) (l : List Nd) (w : World) (h : CT w bc b 0 nm l) :
    Calls Try.prog 10 #[.pointer (some ⟨bc, 0, none⟩)] w fun e w' => ∃ v, e = .returned v ∧ SN w' w.heap.size v l ∧ CT w' bc b 0 nm l ∧ Fr [bc] w w' := by
  have hlt := h.blk.lt
  have hw := h.word
  have hl1 := h.lock 1
  have hc := hl1.blk.cell
  have hll := hl1.blk.lt
  have hbn := h.ne
  have hn := h.len
  have HL := Lib.hid hl1
  clear hl1
  go_enter_defers Try.func10, Try.ntmps10
  go_wp2_with (first | ((go_at_call 34); (with_reducible refine (lock_free' bc 0 _ hw).mono ?_); rintro e w1 ⟨rfl, rfl⟩) | ((go_at_call 36); (with_reducible refine (state_any b _ l _ HL.out.nm_ HL.out.good (by omega) (by omega)).mono ?_); rintro e w2 ⟨v, rfl, hS, hF⟩))
  have hC := HL.out.fr0 hF
  refine leaves_cons (f := 35) (args := #[.pointer (some ⟨bc, 0, none⟩)]) (by simp) (by simp [go_sem]) ?_
  refine (Go.MuLone.unlock_deferred muLib ⟨bc, 0, none⟩ .returning _ hC.word.c hC.word.f).mono ?_
  rintro e u' w'' ⟨rfl, rfl, rfl⟩
  refine ⟨_, results_tmp rfl _ _ _, v, rfl, ?_, hC.lock 0, ?_⟩
  · have h1 := hS.fr (S := [bc]) ((Fr.refl _ _).set (p := ⟨bc, 0, none⟩) (.inl (by simp)) (.int .i32 0)) (fun g hg hm => by have := (hS.own hg).1; simp at hm this; omega)
    simpa using h1
  · refine Fr.set ?_ (.inl (by simp)) _
    exact ((Fr.refl [bc] w).set (.inl (by simp)) _).trans (hF.mono (by simp))
theorem cval_any (bc b : Nat) (nm : ByteArray) (l : List Nd) (w : World) (h : CT w bc b 0 nm l) :
    Calls Try.prog 19 #[.pointer (some ⟨bc, 0, none⟩)] w fun e w' => e = .returned (.int .i64 (valL l)) ∧ CT w' bc b 0 nm l ∧ Fr [bc] w w' := by
  have HB := h.bnd
  have HN := h.len
  have H := Lib.hid h
  clear h
  go_enter Try.func19, Try.ntmps19
  go_wp2_with (first | ((go_at_call 10); (with_reducible refine (cstate_any bc b nm l _ H.out).mono ?_); rintro e w1 ⟨v, rfl, hS, hC, hF⟩) | ((go_at_call 40); (with_reducible refine (value_any v l _ hS.rd HB HN).mono ?_); rintro e w2 ⟨rfl, hF2⟩))
  go_ret
  exact ⟨rfl, hC.fr0 hF2, hF.trans (hF2.mono (by simp))⟩
end Go.Proofs.Ytanbfejhhnhabaa
