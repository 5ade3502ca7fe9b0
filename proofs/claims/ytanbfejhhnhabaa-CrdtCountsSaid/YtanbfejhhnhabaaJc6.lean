/- The package crdt: count. -/
import Derived.Test.YtanbfejhhnhabaaRows
import Derived.Conc.MuLib
import Derived.Conc.MuLone
import Derived.KernelRfl
import Derived.Test.YtanbfejhhnhabaaJc4
import Derived.RegionTactic
import Derived.BigRegion
/- The numbers under which this translation holds the library's lock, and that it holds it. -/
namespace Go.Proofs.Ytanbfejhhnhabaa
abbrev muLink : Go.Conc.Locks.MuLink := { lock := 34, unlock := 35, ilock := 54, iunlock := 55, lockSlow := 68, unlockSlow := 71, disable := 64, enable := 66, acquire := 67, relMerge := 69, cas32 := 65, add32 := 70, tMutex := 75, tIMutex := 73, tPMutex := 93, tPIMutex := 103, tPI32 := 105, tUP := 107, tNoCopy := 70, tU32 := 71 }
theorem muLib : Go.Conc.Locks.MuLib Try.prog muLink :=
  ⟨Try.func34, Try.func35, Try.func54, Try.func55, Try.func64, Try.func66, Try.func67, Try.func69, Try.func65, Try.func70, Try.underlying73, Try.runUnderlying73, Try.sizeOf73, Try.isAgg73, Try.zeroValue73, Try.underlying75, Try.runUnderlying75, Try.sizeOf75, Try.isAgg75, Try.zeroValue75, Try.underlying93, Try.runUnderlying93, Try.sizeOf93, Try.isAgg93, Try.zeroValue93, Try.underlying103, Try.runUnderlying103, Try.sizeOf103, Try.isAgg103, Try.zeroValue103, Try.underlying105, Try.runUnderlying105, Try.sizeOf105, Try.isAgg105, Try.zeroValue105, Try.underlying107, Try.runUnderlying107, Try.sizeOf107, Try.isAgg107, Try.zeroValue107, Try.underlying70, Try.runUnderlying70, Try.sizeOf70, Try.isAgg70, Try.zeroValue70, Try.underlying21, Try.runUnderlying21, Try.sizeOf21, Try.isAgg21, Try.zeroValue21, (by kernel_rfl)⟩
end Go.Proofs.Ytanbfejhhnhabaa

/- The package crdt: counters. -/
namespace Go.Proofs.Ytanbfejhhnhabaa
open Go.RowKit Go.Maps Go.Sort
set_option maxRecDepth 100000
set_option linter.unusedVariables false
set_option linter.unusedSimpArgs false
set_option maxHeartbeats 8000000
theorem NM.tight {w : World} {b n : Nat} {l : List Nd} (h : NM w b n l) (hg : Good l) : NM w b l.length l := by
  obtain ⟨D, ho, hD⟩ := h.ex
  have hp := names_perm ho hD hg
  have e : Maps.size D = l.length := by
    rw [size_keys ho.isMap, ← hp.length_eq]; simp
  refine ⟨D, ?_, hD⟩
  obtain ⟨es, clock, h1, h2, h3, h4⟩ := ho
  refine ⟨es, clock, h1, h2, ?_, h4⟩
  rw [h4] at e
  have e2 : es.size = l.length := by rw [← e]; show es.size = (List.foldr DataW.insert [] _).length; rw [length_sorted]; simp
  omega
/-- A counter in memory. -/
structure CT (w : World) (bc b : Nat) (m : Int) (nm : ByteArray) (l : List Nd) : Prop where
  blk : Blk w bc #[.int .i32 m, .int .u32 0, .string nm, .map (some b)] 77
  nm_ : NM w b l.length l
  good : Good l
  bnd : Bnd l
  len : l.length ≤ 64
  nsz : nameF nm = true
theorem CT.ne {w : World} {bc b : Nat} {m : Int} {nm : ByteArray} {l : List Nd} (h : CT w bc b m nm l) : bc ≠ b := h.nm_.neBlk h.blk
theorem CT.fr {S : List Nat} {w w' : World} {bc b : Nat} {m : Int} {nm : ByteArray} {l : List Nd} (h : CT w bc b m nm l) (f : Fr S w w') (h1 : bc ∉ S) (h2 : b ∉ S) : CT w' bc b m nm l :=
  ⟨f.blk h.blk h1, h.nm_.fr f h2, h.good, h.bnd, h.len, h.nsz⟩
theorem CT.fr0 {w w' : World} {bc b : Nat} {m : Int} {nm : ByteArray} {l : List Nd} (h : CT w bc b m nm l) (f : Fr [] w w') : CT w' bc b m nm l := h.fr f (by simp) (by simp)
theorem CT.lock {w : World} {bc b : Nat} {m : Int} {nm : ByteArray} {l : List Nd} (h : CT w bc b m nm l) (m' : Int) : CT (w.setCell ⟨bc, 0, none⟩ (.int .i32 m')) bc b m' nm l := by
  have hF : Fr [bc] w (w.setCell ⟨bc, 0, none⟩ (.int .i32 m')) := (Fr.refl _ _).set (.inl (by simp)) _
  exact ⟨h.blk.set 0 _, h.nm_.fr hF (by simpa using h.ne.symm), h.good, h.bnd, h.len, h.nsz⟩
theorem CT.word {w : World} {bc b : Nat} {m : Int} {nm : ByteArray} {l : List Nd} (h : CT w bc b m nm l) : Cel w bc 0 (.int .i32 m) := h.blk.cel 0 rfl
open Go.MuLone in
theorem lock_free' (b o : Nat) (w : World) (h : Cel w b o (.int .i32 0)) :
    Calls Try.prog 34 #[.pointer (some ⟨b, o, none⟩)] w fun e w' => e = .returned (.tuple #[]) ∧ w.setCell ⟨b, o, none⟩ (.int .i32 1) = w' :=
  (Go.MuLone.lock_free muLib ⟨b, o, none⟩ w h.c h.f).mono fun e w' h => ⟨h.1, h.2.symm⟩
theorem new_bad (nm : ByteArray) (w : World) (h : nameF nm = false) :
    Calls Try.prog 7 #[.string nm] w fun e w' => e = .returned (.tuple #[.pointer none, .int .i64 131]) ∧ w = w' := by
  go_enter Try.func7, Try.ntmps7
  go_wp2_with ((go_at_call 31); (with_reducible refine (name_any _ _).mono ?_); rintro e w1 ⟨rfl, rfl⟩)
  go_ret2
  exact ⟨rfl, rfl⟩
theorem new_ok (nm : ByteArray) (w : World) (h : nameF nm = true) :
    Calls Try.prog 7 #[.string nm] w fun e w' => ∃ bc b, e = .returned (.tuple #[.pointer (some ⟨bc, 0, none⟩), .int .i64 0]) ∧ CT w' bc b 0 nm [] ∧ w.heap.size ≤ bc ∧ w.heap.size ≤ b ∧ Fr [] w w' := by
  have hmm := @run_makeMap Try.prog
  go_enter Try.func7, Try.ntmps7
  go_wp2_with ((go_at_call 31); (with_reducible refine (name_any _ _).mono ?_); rintro e w1 ⟨rfl, rfl⟩)
  go_ret2
  refine ⟨_, w.heap.size, rfl, ⟨Blk.mk0 _ _ _ _ (by simp), (NM.made w _ rfl).fr0 ((Fr.refl _ _).alloc _), ⟨Srt.nil, by simp⟩, fun a ha => by simp at ha, by simp, h⟩, by simp, Nat.le_refl _, ?_⟩
  repeat' (first | (with_reducible exact Fr.refl _ _) | (with_reducible refine Fr.drew ?_) | (with_reducible refine Fr.drN ?_ _) | (with_reducible refine Fr.alloc ?_ _) | (with_reducible refine Fr.set ?_ ?_ _) | (left; simp; done) | (right; simp; done) | (right; simp; omega))
theorem cstate_any (bc b : Nat) (nm : ByteArray) (l : List Nd) (w : World) (h : CT w bc b 0 nm l) :
    Calls Try.prog 10 #[.pointer (some ⟨bc, 0, none⟩)] w fun e w' => ∃ v, e = .returned v ∧ SN w' w.heap.size v l ∧ CT w' bc b 0 nm l ∧ Fr [bc] w w' := by
  have hlt := h.blk.lt
  have hw := h.word
  have hl1 := h.lock 1
  have hc := hl1.blk.cell
  have hll := hl1.blk.lt
  have hbn := h.ne
  have hn := h.len
  have HL := Lib.hid hl1
  clear hl1
  go_enter_defers Try.func10, Try.ntmps10
  go_wp2_with (first | ((go_at_call 34); (with_reducible refine (lock_free' bc 0 _ hw).mono ?_); rintro e w1 ⟨rfl, rfl⟩) | ((go_at_call 36); (with_reducible refine (state_any b _ l _ HL.out.nm_ HL.out.good (by omega) (by omega)).mono ?_); rintro e w2 ⟨v, rfl, hS, hF⟩))
  have hC := HL.out.fr0 hF
  refine leaves_cons (f := 35) (args := #[.pointer (some ⟨bc, 0, none⟩)]) (by simp) (by simp [go_sem]) ?_
  refine (Go.MuLone.unlock_deferred muLib ⟨bc, 0, none⟩ .returning _ hC.word.c hC.word.f).mono ?_
  rintro e u' w'' ⟨rfl, rfl, rfl⟩
  refine ⟨_, results_tmp rfl _ _ _, v, rfl, ?_, hC.lock 0, ?_⟩
  · have h1 := hS.fr (S := [bc]) ((Fr.refl _ _).set (p := ⟨bc, 0, none⟩) (.inl (by simp)) (.int .i32 0)) (fun g hg hm => by have := (hS.own hg).1; simp at hm this; omega)
    simpa using h1
  · refine Fr.set ?_ (.inl (by simp)) _
    exact ((Fr.refl [bc] w).set (.inl (by simp)) _).trans (hF.mono (by simp))
theorem cval_any (bc b : Nat) (nm : ByteArray) (l : List Nd) (w : World) (h : CT w bc b 0 nm l) :
    Calls Try.prog 19 #[.pointer (some ⟨bc, 0, none⟩)] w fun e w' => e = .returned (.int .i64 (valL l)) ∧ CT w' bc b 0 nm l ∧ Fr [bc] w w' := by
  have HB := h.bnd
  have HN := h.len
  have H := Lib.hid h
  clear h
  go_enter Try.func19, Try.ntmps19
  go_wp2_with (first | ((go_at_call 10); (with_reducible refine (cstate_any bc b nm l _ H.out).mono ?_); rintro e w1 ⟨v, rfl, hS, hC, hF⟩) | ((go_at_call 40); (with_reducible refine (value_any v l _ hS.rd HB HN).mono ?_); rintro e w2 ⟨rfl, hF2⟩))
  go_ret
  exact ⟨rfl, hC.fr0 hF2, hF.trans (hF2.mono (by simp))⟩
end Go.Proofs.Ytanbfejhhnhabaa

namespace Go.Proofs.Ytanbfejhhnhabaa
open Go.RowKit Go.Maps Go.Sort
set_option maxRecDepth 100000
set_option linter.unusedVariables false
set_option linter.unusedSimpArgs false
set_option maxHeartbeats 8000000
def countF (l : List Nd) (nm : ByteArray) (up down : Int) : List Nd × Int :=
  if 72057594037927936 - (ofL l nm).1 < up ∨ 72057594037927936 - (ofL l nm).2 < down then (l, 51)
  else if up = 0 ∧ down = 0 then (l, 0)
  else if lk l nm = none ∧ l.length = 64 then (l, 3)
  else (putL l (nm, (ofL l nm).1 + up, (ofL l nm).2 + down), 0)
def CountPost (bc b : Nat) (l : List Nd) (nm : ByteArray) (up down : Int) (w : World) (e : Ending) (w' : World) : Prop :=
  e = .returned (.int .i64 (countF l nm up down).2) ∧ CT w' bc b 0 nm (countF l nm up down).1 ∧ Fr [bc, b] w w'
theorem ofL_bd {l : List Nd} (h : Bnd l) (s : ByteArray) : 0 ≤ (ofL l s).1 ∧ (ofL l s).1 ≤ 72057594037927936 ∧ 0 ≤ (ofL l s).2 ∧ (ofL l s).2 ≤ 72057594037927936 := by
  unfold ofL
  cases hl : lk l s with
  | none => simp
  | some p => exact h _ (lk_mem hl)
theorem CountPost.mk {bc b : Nat} {l l' : List Nd} {nm : ByteArray} {up down y : Int} {w w' : World} (h : countF l nm up down = (l', y)) (hC : CT w' bc b 0 nm l') (hF : Fr [bc, b] w w') : CountPost bc b l nm up down w (.returned (.int .i64 y)) w' :=
  ⟨by rw [h], by rw [h]; exact hC, hF⟩
theorem count_any (bc b : Nat) (nm : ByteArray) (l : List Nd) (up down : Int) (w : World) (h : CT w bc b 0 nm l) (hu0 : 0 ≤ up) (hu1 : up < 18446744073709551616) (hd0 : 0 ≤ down) (hd1 : down < 18446744073709551616) :
    Calls Try.prog 37 #[.pointer (some ⟨bc, 0, none⟩), .int .u64 up, .int .u64 down] w (CountPost bc b l nm up down w) := by
  have hlt := h.blk.lt
  have hw := h.word
  have hl1 := h.lock 1
  have hbn := h.ne
  have hn := h.len
  have hsz : nm.size ≤ maxLen := by have := nameF_sz h.nsz; unfold maxLen; omega
  obtain ⟨x0, x1, x2, x3⟩ := ofL_bd h.bnd nm
  have hF1 : Fr [bc, b] w (w.setCell ⟨bc, 0, none⟩ (.int .i32 1)) := (Fr.refl _ _).set (.inl (by simp)) _
  go_enter_defers Try.func37, Try.ntmps37
  go_wp2_with ((go_at_call 34); (with_reducible refine (lock_free' bc 0 _ hw).mono ?_); rintro e w1 ⟨rfl, rfl⟩)
  generalize w.setCell ⟨bc, 0, none⟩ (.int .i32 1) = w1 at hl1 hF1 ⊢
  have hc := hl1.blk.cell
  have hll := hl1.blk.lt
  obtain ⟨s', hv⟩ := lkV_ex l nm
  have hlk1 := (hl1.nm_.fr0 ((Fr.refl [] w1).drew)).look_ok nm hsz
  have hlk2 := (hl1.nm_.fr0 (((Fr.refl [] w1).alloc (.cells #[.string ⟨#[]⟩, .int .u64 0, .int .u64 0] 33)).drew)).look_ok nm hsz
  rw [hv] at hlk1 hlk2
  go_wp2_with fail
  have H1 := Lib.hid hl1
  obtain ⟨is_, his⟩ : ∃ i, i = (lk l nm).isSome := ⟨_, rfl⟩
  rw [← his] at hlk1 hlk2
  obtain ⟨xu, hxu⟩ : ∃ i, i = (ofL l nm).1 := ⟨_, rfl⟩
  obtain ⟨xd, hxd⟩ : ∃ i, i = (ofL l nm).2 := ⟨_, rfl⟩
  rw [← hxu] at hlk1 hlk2 x0 x1
  rw [← hxd] at hlk1 hlk2 x2 x3
  have HIS := Lib.hid his
  have HXU := Lib.hid hxu
  have HXD := Lib.hid hxd
  have HV := Lib.hid hv
  clear his hxu hxd hv hl1
  go_cut [7, 8] from 18 to 29 (fun v7 v8 wr => ∃ bx, v7 = .pointer (some ⟨bx, 0, none⟩) ∧ v8 = .bool is_ ∧ Blk wr bx #[.string s', .int .u64 xu, .int .u64 xd] 33 ∧ w1.heap.size ≤ bx ∧ Fr [] w1 wr)
  case first =>
    go_region
    all_goals go_wp2
    all_goals go_meet
    all_goals refine ⟨_, rfl, rfl, ?_, ?_, ?_⟩
    all_goals first
      | (exact (Blk.new _ _ _).drew)
      | ((repeat' (first | (with_reducible exact Fr.refl _ _) | (with_reducible refine Fr.drew ?_) | (with_reducible refine Fr.drN ?_ _) | (with_reducible refine Fr.alloc ?_ _) | (with_reducible refine Fr.set ?_ ?_ _) | (left; simp; done) | (right; simp; done) | (right; simp; omega))); done)
      | (simp; done)
      | (exact (((Blk.new _ _ _).drew.set 0 (.string s')).set 1 (.int .u64 xu)).set 2 (.int .u64 xd) |>.cast (by simp))
      | (exact ((((Blk.new _ _ _).set 0 (.string s')).set 1 (.int .u64 xu)).set 2 (.int .u64 xd)).cast (by simp))
      | skip
  case rest =>
    obtain ⟨bx, rfl, rfl, hbx, hbw, hFr⟩ := hcut
    have hC := H1.out.fr0 hFr
    have HC := Lib.hid hC
    have hbc := hbx.cell
    have hbl := hbx.lt
    have hcc := hC.blk.cell
    have hcl := hC.blk.lt
    have hszl := hC.nm_.size hC.good
    have HF := Lib.hid (hF1.trans (hFr.mono (by simp)))
    clear hC hc hll hF1 hFr hlk1 hlk2
    by_cases hA : 72057594037927936 - xu < up
    · have e : countF l nm up down = (l, 51) := by
        unfold countF
        rw [← HXU.out, ← HXD.out]
        rw [if_pos (.inl hA)]
      have E := Lib.hid e
      clear e
      have hA1 : decide (72057594037927936 - xu < up) = true := by simpa using hA
      go_wp2
      refine leaves_cons (f := 35) (args := #[.pointer (some ⟨bc, 0, none⟩)]) (by simp) (by simp [go_sem]) ?_
      refine (Go.MuLone.unlock_deferred muLib ⟨bc, 0, none⟩ .returning _ (HC.out).word.c (HC.out).word.f).mono ?_
      rintro e u' w'' ⟨rfl, rfl, rfl⟩
      refine ⟨_, results_tmp rfl _ _ _, ?_⟩
      exact CountPost.mk E.out ((HC.out).lock 0) ((HF.out).set (.inl (by simp)) _)
    · have hA1 : decide (72057594037927936 - xu < up) = false := by simpa using hA
      by_cases hB : 72057594037927936 - xd < down
      · have e : countF l nm up down = (l, 51) := by
          unfold countF
          rw [← HXU.out, ← HXD.out]
          rw [if_pos (.inr hB)]
        have E := Lib.hid e
        clear e
        have hB1 : decide (72057594037927936 - xd < down) = true := by simpa using hB
        go_wp2
        refine leaves_cons (f := 35) (args := #[.pointer (some ⟨bc, 0, none⟩)]) (by simp) (by simp [go_sem]) ?_
        refine (Go.MuLone.unlock_deferred muLib ⟨bc, 0, none⟩ .returning _ (HC.out).word.c (HC.out).word.f).mono ?_
        rintro e u' w'' ⟨rfl, rfl, rfl⟩
        refine ⟨_, results_tmp rfl _ _ _, ?_⟩
        exact CountPost.mk E.out ((HC.out).lock 0) ((HF.out).set (.inl (by simp)) _)
      · have hB1 : decide (72057594037927936 - xd < down) = false := by simpa using hB
        have hAB : ¬ (72057594037927936 - xu < up ∨ 72057594037927936 - xd < down) := by omega
        have HAB := Lib.hid hAB
        clear hAB
        by_cases h0 : up = 0 ∧ down = 0
        · obtain ⟨rfl, rfl⟩ := h0
          have e : countF l nm 0 0 = (l, 0) := by
            unfold countF
            rw [← HXU.out, ← HXD.out]
            rw [if_neg HAB.out, if_pos ⟨rfl, rfl⟩]
          have E := Lib.hid e
          clear e
          go_wp2
          refine leaves_cons (f := 35) (args := #[.pointer (some ⟨bc, 0, none⟩)]) (by simp) (by simp [go_sem]) ?_
          refine (Go.MuLone.unlock_deferred muLib ⟨bc, 0, none⟩ .returning _ (HC.out).word.c (HC.out).word.f).mono ?_
          rintro e u' w'' ⟨rfl, rfl, rfl⟩
          refine ⟨_, results_tmp rfl _ _ _, ?_⟩
          exact CountPost.mk E.out ((HC.out).lock 0) ((HF.out).set (.inl (by simp)) _)
        · by_cases hu : up = 0
          · have hdn : ¬ down = 0 := fun e => h0 ⟨hu, e⟩
            subst hu
            have hd2 : (down == 0) = false := by simpa using hdn
            clear hdn
            have H0 := Lib.hid h0
            clear h0
            cases hlk : lk l nm with
            | some v =>
              have hi : is_ = true := by rw [HIS.out, hlk]; rfl
              have H64 : Hid (¬ (lk l nm = none ∧ l.length = 64)) := Lib.hid (by simp [hlk])
              subst hi
              clear hlk
              have e : countF l nm 0 down = (putL l (nm, xu + 0, xd + down), 0) := by
                unfold countF
                rw [← HXU.out, ← HXD.out]
                rw [if_neg HAB.out, if_neg H0.out, if_neg H64.out]
              have E := Lib.hid e
              clear e
              obtain ⟨w5, hup, hM5, hF5⟩ := (HC.out.nm_.fr0 (Fr.refl [] wc).drew).store nm hsz (xu + 0) (xd + down) (by unfold maxLen; omega)
              try simp only [Int.add_zero] at hup
              have hbcd := hbx.drew.cell
              have hccd := HC.out.blk.drew.cell
              have HM5 := Lib.hid hM5
              clear hM5
              go_wp2_with fail
              go_still_tail 21, (by kernel_rfl)
              change wpList _ _ _ _ _ wc.drew
              go_wp2
              rw [hup]
              go_wp2
              have hg5 : Good (putL l (nm, xu + 0, xd + down)) := ⟨HC.out.good.st.put _, fun y hy => by
                rcases mem_putL hy with rfl | hy
                · exact nameF_sz HC.out.nsz
                · exact HC.out.good.sz y hy⟩
              have hb5 : Bnd (putL l (nm, xu + 0, xd + down)) := fun y hy => by
                rcases mem_putL hy with rfl | hy
                · simp only; omega
                · exact HC.out.bnd y hy
              have hl5 : (putL l (nm, xu + 0, xd + down)).length ≤ 64 := by
                rw [len_putL HC.out.good.st]
                have hh := H64.out
                cases hlk : lk l nm with
                | none => simp [hlk] at hh ⊢; omega
                | some v => simp; omega
              have hC5 : CT w5 bc b 1 nm (putL l (nm, xu + 0, xd + down)) := ⟨hF5.blk HC.out.blk.drew (by simpa using hbn), HM5.out.tight hg5, hg5, hb5, hl5, HC.out.nsz⟩
              have hF6 : Fr [bc, b] w w5 := HF.out.drew.trans (hF5.mono (by simp))
              refine leaves_cons (f := 35) (args := #[.pointer (some ⟨bc, 0, none⟩)]) (by simp) (by simp [go_sem]) ?_
              refine (Go.MuLone.unlock_deferred muLib ⟨bc, 0, none⟩ .returning _ (hC5).word.c (hC5).word.f).mono ?_
              rintro e u' w'' ⟨rfl, rfl, rfl⟩
              refine ⟨_, results_tmp rfl _ _ _, ?_⟩
              exact CountPost.mk E.out ((hC5).lock 0) ((hF6).set (.inl (by simp)) _)
            | none =>
              have hi : is_ = false := by rw [HIS.out, hlk]; rfl
              subst hi
              by_cases h64 : l.length = 64
              · have e64 : ((l.length : Int) == 64) = true := by simp; omega
                have e : countF l nm 0 down = (l, 3) := by
                  unfold countF
                  rw [← HXU.out, ← HXD.out]
                  rw [if_neg HAB.out, if_neg H0.out, if_pos ⟨hlk, h64⟩]
                have E := Lib.hid e
                clear e
                clear hlk h64
                go_wp2
                refine leaves_cons (f := 35) (args := #[.pointer (some ⟨bc, 0, none⟩)]) (by simp) (by simp [go_sem]) ?_
                refine (Go.MuLone.unlock_deferred muLib ⟨bc, 0, none⟩ .returning _ (HC.out).word.c (HC.out).word.f).mono ?_
                rintro e u' w'' ⟨rfl, rfl, rfl⟩
                refine ⟨_, results_tmp rfl _ _ _, ?_⟩
                exact CountPost.mk E.out ((HC.out).lock 0) ((HF.out).set (.inl (by simp)) _)
              · have e64 : ((l.length : Int) == 64) = false := by simp; omega
                have H64 : Hid (¬ (lk l nm = none ∧ l.length = 64)) := Lib.hid (by simp [h64])
                clear hlk h64
                have e : countF l nm 0 down = (putL l (nm, xu + 0, xd + down), 0) := by
                  unfold countF
                  rw [← HXU.out, ← HXD.out]
                  rw [if_neg HAB.out, if_neg H0.out, if_neg H64.out]
                have E := Lib.hid e
                clear e
                obtain ⟨w5, hup, hM5, hF5⟩ := (HC.out.nm_.fr0 (Fr.refl [] wc).drew).store nm hsz (xu + 0) (xd + down) (by unfold maxLen; omega)
                try simp only [Int.add_zero] at hup
                have hbcd := hbx.drew.cell
                have hccd := HC.out.blk.drew.cell
                have HM5 := Lib.hid hM5
                clear hM5
                go_wp2_with fail
                go_still_tail 21, (by kernel_rfl)
                change wpList _ _ _ _ _ wc.drew
                go_wp2
                rw [hup]
                go_wp2
                have hg5 : Good (putL l (nm, xu + 0, xd + down)) := ⟨HC.out.good.st.put _, fun y hy => by
                  rcases mem_putL hy with rfl | hy
                  · exact nameF_sz HC.out.nsz
                  · exact HC.out.good.sz y hy⟩
                have hb5 : Bnd (putL l (nm, xu + 0, xd + down)) := fun y hy => by
                  rcases mem_putL hy with rfl | hy
                  · simp only; omega
                  · exact HC.out.bnd y hy
                have hl5 : (putL l (nm, xu + 0, xd + down)).length ≤ 64 := by
                  rw [len_putL HC.out.good.st]
                  have hh := H64.out
                  cases hlk : lk l nm with
                  | none => simp [hlk] at hh ⊢; omega
                  | some v => simp; omega
                have hC5 : CT w5 bc b 1 nm (putL l (nm, xu + 0, xd + down)) := ⟨hF5.blk HC.out.blk.drew (by simpa using hbn), HM5.out.tight hg5, hg5, hb5, hl5, HC.out.nsz⟩
                have hF6 : Fr [bc, b] w w5 := HF.out.drew.trans (hF5.mono (by simp))
                refine leaves_cons (f := 35) (args := #[.pointer (some ⟨bc, 0, none⟩)]) (by simp) (by simp [go_sem]) ?_
                refine (Go.MuLone.unlock_deferred muLib ⟨bc, 0, none⟩ .returning _ (hC5).word.c (hC5).word.f).mono ?_
                rintro e u' w'' ⟨rfl, rfl, rfl⟩
                refine ⟨_, results_tmp rfl _ _ _, ?_⟩
                exact CountPost.mk E.out ((hC5).lock 0) ((hF6).set (.inl (by simp)) _)
          · have hu2 : (up == 0) = false := by simpa using hu
            clear hu
            have H0 := Lib.hid h0
            clear h0
            cases hlk : lk l nm with
            | some v =>
              have hi : is_ = true := by rw [HIS.out, hlk]; rfl
              have H64 : Hid (¬ (lk l nm = none ∧ l.length = 64)) := Lib.hid (by simp [hlk])
              subst hi
              clear hlk
              have e : countF l nm up down = (putL l (nm, xu + up, xd + down), 0) := by
                unfold countF
                rw [← HXU.out, ← HXD.out]
                rw [if_neg HAB.out, if_neg H0.out, if_neg H64.out]
              have E := Lib.hid e
              clear e
              obtain ⟨w5, hup, hM5, hF5⟩ := (HC.out.nm_.fr0 (Fr.refl [] wc).drew).store nm hsz (xu + up) (xd + down) (by unfold maxLen; omega)
              try simp only [Int.add_zero] at hup
              have hbcd := hbx.drew.cell
              have hccd := HC.out.blk.drew.cell
              have HM5 := Lib.hid hM5
              clear hM5
              go_wp2_with fail
              go_still_tail 21, (by kernel_rfl)
              change wpList _ _ _ _ _ wc.drew
              go_wp2
              rw [hup]
              go_wp2
              have hg5 : Good (putL l (nm, xu + up, xd + down)) := ⟨HC.out.good.st.put _, fun y hy => by
                rcases mem_putL hy with rfl | hy
                · exact nameF_sz HC.out.nsz
                · exact HC.out.good.sz y hy⟩
              have hb5 : Bnd (putL l (nm, xu + up, xd + down)) := fun y hy => by
                rcases mem_putL hy with rfl | hy
                · simp only; omega
                · exact HC.out.bnd y hy
              have hl5 : (putL l (nm, xu + up, xd + down)).length ≤ 64 := by
                rw [len_putL HC.out.good.st]
                have hh := H64.out
                cases hlk : lk l nm with
                | none => simp [hlk] at hh ⊢; omega
                | some v => simp; omega
              have hC5 : CT w5 bc b 1 nm (putL l (nm, xu + up, xd + down)) := ⟨hF5.blk HC.out.blk.drew (by simpa using hbn), HM5.out.tight hg5, hg5, hb5, hl5, HC.out.nsz⟩
              have hF6 : Fr [bc, b] w w5 := HF.out.drew.trans (hF5.mono (by simp))
              refine leaves_cons (f := 35) (args := #[.pointer (some ⟨bc, 0, none⟩)]) (by simp) (by simp [go_sem]) ?_
              refine (Go.MuLone.unlock_deferred muLib ⟨bc, 0, none⟩ .returning _ (hC5).word.c (hC5).word.f).mono ?_
              rintro e u' w'' ⟨rfl, rfl, rfl⟩
              refine ⟨_, results_tmp rfl _ _ _, ?_⟩
              exact CountPost.mk E.out ((hC5).lock 0) ((hF6).set (.inl (by simp)) _)
            | none =>
              have hi : is_ = false := by rw [HIS.out, hlk]; rfl
              subst hi
              by_cases h64 : l.length = 64
              · have e64 : ((l.length : Int) == 64) = true := by simp; omega
                have e : countF l nm up down = (l, 3) := by
                  unfold countF
                  rw [← HXU.out, ← HXD.out]
                  rw [if_neg HAB.out, if_neg H0.out, if_pos ⟨hlk, h64⟩]
                have E := Lib.hid e
                clear e
                clear hlk h64
                go_wp2
                refine leaves_cons (f := 35) (args := #[.pointer (some ⟨bc, 0, none⟩)]) (by simp) (by simp [go_sem]) ?_
                refine (Go.MuLone.unlock_deferred muLib ⟨bc, 0, none⟩ .returning _ (HC.out).word.c (HC.out).word.f).mono ?_
                rintro e u' w'' ⟨rfl, rfl, rfl⟩
                refine ⟨_, results_tmp rfl _ _ _, ?_⟩
                exact CountPost.mk E.out ((HC.out).lock 0) ((HF.out).set (.inl (by simp)) _)
              · have e64 : ((l.length : Int) == 64) = false := by simp; omega
                have H64 : Hid (¬ (lk l nm = none ∧ l.length = 64)) := Lib.hid (by simp [h64])
                clear hlk h64
                have e : countF l nm up down = (putL l (nm, xu + up, xd + down), 0) := by
                  unfold countF
                  rw [← HXU.out, ← HXD.out]
                  rw [if_neg HAB.out, if_neg H0.out, if_neg H64.out]
                have E := Lib.hid e
                clear e
                obtain ⟨w5, hup, hM5, hF5⟩ := (HC.out.nm_.fr0 (Fr.refl [] wc).drew).store nm hsz (xu + up) (xd + down) (by unfold maxLen; omega)
                try simp only [Int.add_zero] at hup
                have hbcd := hbx.drew.cell
                have hccd := HC.out.blk.drew.cell
                have HM5 := Lib.hid hM5
                clear hM5
                go_wp2_with fail
                go_still_tail 21, (by kernel_rfl)
                change wpList _ _ _ _ _ wc.drew
                go_wp2
                rw [hup]
                go_wp2
                have hg5 : Good (putL l (nm, xu + up, xd + down)) := ⟨HC.out.good.st.put _, fun y hy => by
                  rcases mem_putL hy with rfl | hy
                  · exact nameF_sz HC.out.nsz
                  · exact HC.out.good.sz y hy⟩
                have hb5 : Bnd (putL l (nm, xu + up, xd + down)) := fun y hy => by
                  rcases mem_putL hy with rfl | hy
                  · simp only; omega
                  · exact HC.out.bnd y hy
                have hl5 : (putL l (nm, xu + up, xd + down)).length ≤ 64 := by
                  rw [len_putL HC.out.good.st]
                  have hh := H64.out
                  cases hlk : lk l nm with
                  | none => simp [hlk] at hh ⊢; omega
                  | some v => simp; omega
                have hC5 : CT w5 bc b 1 nm (putL l (nm, xu + up, xd + down)) := ⟨hF5.blk HC.out.blk.drew (by simpa using hbn), HM5.out.tight hg5, hg5, hb5, hl5, HC.out.nsz⟩
                have hF6 : Fr [bc, b] w w5 := HF.out.drew.trans (hF5.mono (by simp))
                refine leaves_cons (f := 35) (args := #[.pointer (some ⟨bc, 0, none⟩)]) (by simp) (by simp [go_sem]) ?_
                refine (Go.MuLone.unlock_deferred muLib ⟨bc, 0, none⟩ .returning _ (hC5).word.c (hC5).word.f).mono ?_
                rintro e u' w'' ⟨rfl, rfl, rfl⟩
                refine ⟨_, results_tmp rfl _ _ _, ?_⟩
                exact CountPost.mk E.out ((hC5).lock 0) ((hF6).set (.inl (by simp)) _)
end Go.Proofs.Ytanbfejhhnhabaa
