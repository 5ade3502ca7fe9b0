/- The package crdt: the law's first question. -/
import Derived.Test.YtanbfejhhnhabaaJs9
import Derived.Test.YtanbfejhhnhabaaJs5
import Derived.Test.YtanbfejhhnhabaaPCrdtLatticex1
/- The package crdt: count. -/
namespace Go.Proofs.Ytanbfejhhnhabaa
open Go.RowKit Go.Maps Go.Sort
set_option maxRecDepth 100000
set_option linter.unusedVariables false
set_option linter.unusedSimpArgs false
set_option maxHeartbeats 8000000
def countF (l : List Nd) (nm : ByteArray) (up down : Int) : List Nd × Int :=
  if 72057594037927936 - (ofL l nm).1 < up ∨ 72057594037927936 - (ofL l nm).2 < down then (l, 51)
  else if up = 0 ∧ down = 0 then (l, 0)
  else if lk l nm = none ∧ l.length = 64 then (l, 3)
  else (putL l (nm, (ofL l nm).1 + up, (ofL l nm).2 + down), 0)
def CountPost (bc b : Nat) (l : List Nd) (nm : ByteArray) (up down : Int) (w : World) (e : Ending) (w' : World) : Prop :=
  e = .returned (.int .i64 (countF l nm up down).2) ∧ CT w' bc b 0 nm (countF l nm up down).1 ∧ Fr [bc, b] w w'
theorem ofL_bd {l : List Nd} (h : Bnd l) (s : ByteArray) : 0 ≤ (ofL l s).1 ∧ (ofL l s).1 ≤ 72057594037927936 ∧ 0 ≤ (ofL l s).2 ∧ (ofL l s).2 ≤ 72057594037927936 := by
  unfold ofL
  cases hl : lk l s with
  | none => simp
  | some p => exact h _ (lk_mem hl)
theorem CountPost.mk {bc b : Nat} {l l' : List Nd} {nm : ByteArray} {up down y : Int} {w w' : World} (h : countF l nm up down = (l', y)) (hC : CT w' bc b 0 nm l') (hF : Fr [bc, b] w w') : CountPost bc b l nm up down w (.returned (.int .i64 y)) w' :=
  ⟨by rw [h], by rw [h]; exact hC, hF⟩
theorem count_any (bc b : Nat) (nm : ByteArray) (l : List Nd) (up down : Int) (w : World) (h : CT w bc b 0 nm l) (hu0 : 0 ≤ up) (hu1 : up < 18446744073709551616) (hd0 : 0 ≤ down) (hd1 : down < 18446744073709551616) :
    Calls Try.prog 37 #[.pointer (some ⟨bc, 0, none⟩), .int .u64 up, .int .u64 down] w (CountPost bc b l nm up down w) := by
  have hlt := h.blk.lt
  have hw := h.word
  have hl1 := h.lock 1
  have hbn := h.ne
  have hn := h.len
  have hsz : nm.size ≤ maxLen := by have := nameF_sz h.nsz; unfold maxLen; omega
  obtain ⟨x0, x1, x2, x3⟩ := ofL_bd h.bnd nm
  have hF1 : Fr [bc, b] w (w.setCell ⟨bc, 0, none⟩ (.int .i32 1)) := (Fr.refl _ _).set (.inl (by simp)) _
  go_enter_defers Try.func37, Try.ntmps37
  go_wp2_with ((go_at_call 34); (with_reducible refine (lock_free' bc 0 _ hw).mono ?_); rintro e w1 ⟨rfl, rfl⟩)
  generalize w.setCell ⟨bc, 0, none⟩ (.int .i32 1) = w1 at hl1 hF1 ⊢
  have hc := hl1.blk.cell
  have hll := hl1.blk.lt
  obtain ⟨s', hv⟩ := lkV_ex l nm
  have hlk1 := (hl1.nm_.fr0 ((Fr.refl [] w1).drew)).look_ok nm hsz
  have hlk2 := (hl1.nm_.fr0 (((Fr.refl [] w1).alloc (.cells #[.string ⟨#[]⟩, .int .u64 0, .int .u64 0] 33)).drew)).look_ok nm hsz
  rw [hv] at hlk1 hlk2
  go_wp2_with fail
  have H1 := Lib.hid hl1
  obtain ⟨is_, his⟩ : ∃ i, i = (lk l nm).isSome := ⟨_, rfl⟩
  rw [← his] at hlk1 hlk2
  obtain ⟨xu, hxu⟩ : ∃ i, i = (ofL l nm).1 := ⟨_, rfl⟩
  obtain ⟨xd, hxd⟩ : ∃ i, i = (ofL l nm).2 := ⟨_, rfl⟩
  rw [← hxu] at hlk1 hlk2 x0 x1
  rw [← hxd] at hlk1 hlk2 x2 x3
  have HIS := Lib.hid his
  have HXU := Lib.hid hxu
  have HXD := Lib.hid hxd
  have HV := Lib.hid hv
  clear his hxu hxd hv hl1
  go_cut [7, 8] from 18 to 29 (fun v7 v8 wr => ∃ bx, v7 = .pointer (some ⟨bx, 0, none⟩) ∧ v8 = .bool is_ ∧ Blk wr bx #[.string s', .int .u64 xu, .int .u64 xd] 33 ∧ w1.heap.size ≤ bx ∧ Fr [] w1 wr)
  case first =>
    go_region
    all_goals go_wp2
    all_goals go_meet
    all_goals refine ⟨_, rfl, rfl, ?_, ?_, ?_⟩
    all_goals first
      | (exact (Blk.new _ _ _).drew)
      | ((repeat' (first | (with_reducible exact Fr.refl _ _) | (with_reducible refine Fr.drew ?_) | (with_reducible refine Fr.drN ?_ _) | (with_reducible refine Fr.alloc ?_ _) | (with_reducible refine Fr.set ?_ ?_ _) | (left; simp; done) | (right; simp; done) | (right; simp; omega))); done)
      | (simp; done)
      | (exact (((Blk.new _ _ _).drew.set 0 (.string s')).set 1 (.int .u64 xu)).set 2 (.int .u64 xd) |>.cast (by simp))
      | (exact ((((Blk.new _ _ _).set 0 (.string s')).set 1 (.int .u64 xu)).set 2 (.int .u64 xd)).cast (by simp))
      | skip
  case rest =>
    obtain ⟨bx, rfl, rfl, hbx, hbw, hFr⟩ := hcut
    have hC := H1.out.fr0 hFr
    have HC := Lib.hid hC
    have hbc := hbx.cell
    have hbl := hbx.lt
    have hcc := hC.blk.cell
    have hcl := hC.blk.lt
    have hszl := hC.nm_.size hC.good
    have HF := Lib.hid (hF1.trans (hFr.mono (by simp)))
    clear hC hc hll hF1 hFr hlk1 hlk2
    by_cases hA : 72057594037927936 - xu < up
    · have e : countF l nm up down = (l, 51) := by
        unfold countF
        rw [← HXU.out, ← HXD.out]
        rw [if_pos (.inl hA)]
      have E := Lib.hid e
      clear e
      have hA1 : decide (72057594037927936 - xu < up) = true := by simpa using hA
      go_wp2
      refine leaves_cons (f := 35) (args := #[.pointer (some ⟨bc, 0, none⟩)]) (by simp) (by simp [go_sem]) ?_
      refine (Go.MuLone.unlock_deferred muLib ⟨bc, 0, none⟩ .returning _ (HC.out).word.c (HC.out).word.f).mono ?_
      rintro e u' w'' ⟨rfl, rfl, rfl⟩
      refine ⟨_, results_tmp rfl _ _ _, ?_⟩
      exact CountPost.mk E.out ((HC.out).lock 0) ((HF.out).set (.inl (by simp)) _)
    · have hA1 : decide (72057594037927936 - xu < up) = false := by simpa using hA
      by_cases hB : 72057594037927936 - xd < down
      · have e : countF l nm up down = (l, 51) := by
          unfold countF
          rw [← HXU.out, ← HXD.out]
          rw [if_pos (.inr hB)]
        have E := Lib.hid e
        clear e
        have hB1 : decide (72057594037927936 - xd < down) = true := by simpa using hB
        go_wp2
        refine leaves_cons (f := 35) (args := #[.pointer (some ⟨bc, 0, none⟩)]) (by simp) (by simp [go_sem]) ?_
        refine (Go.MuLone.unlock_deferred muLib ⟨bc, 0, none⟩ .returning _ (HC.out).word.c (HC.out).word.f).mono ?_
        rintro e u' w'' ⟨rfl, rfl, rfl⟩
        refine ⟨_, results_tmp rfl _ _ _, ?_⟩
        exact CountPost.mk E.out ((HC.out).lock 0) ((HF.out).set (.inl (by simp)) _)
      · have hB1 : decide (72057594037927936 - xd < down) = false := by simpa using hB
        have hAB : ¬ (72057594037927936 - xu < up ∨ 72057594037927936 - xd < down) := by omega
        have HAB := Lib.hid hAB
        clear hAB
        by_cases h0 : up = 0 ∧ down = 0
        · obtain ⟨rfl, rfl⟩ := h0
          have e : countF l nm 0 0 = (l, 0) := by
            unfold countF
            rw [← HXU.out, ← HXD.out]
            rw [if_neg HAB.out, if_pos ⟨rfl, rfl⟩]
          have E := Lib.hid e
          clear e
          go_wp2
          refine leaves_cons (f := 35) (args := #[.pointer (some ⟨bc, 0, none⟩)]) (by simp) (by simp [go_sem]) ?_
          refine (Go.MuLone.unlock_deferred muLib ⟨bc, 0, none⟩ .returning _ (HC.out).word.c (HC.out).word.f).mono ?_
          rintro e u' w'' ⟨rfl, rfl, rfl⟩
          refine ⟨_, results_tmp rfl _ _ _, ?_⟩
          exact CountPost.mk E.out ((HC.out).lock 0) ((HF.out).set (.inl (by simp)) _)
        · by_cases hu : up = 0
          · have hdn : ¬ down = 0 := fun e => h0 ⟨hu, e⟩
            subst hu
            have hd2 : (down == 0) = false := by simpa using hdn
            clear hdn
            have H0 := Lib.hid h0
            clear h0
            cases hlk : lk l nm with
            | some v =>
              have hi : is_ = true := by rw [HIS.out, hlk]; rfl
              have H64 : Hid (¬ (lk l nm = none ∧ l.length = 64)) := Lib.hid (by simp [hlk])
              subst hi
              clear hlk
              have e : countF l nm 0 down = (putL l (nm, xu + 0, xd + down), 0) := by
                unfold countF
                rw [← HXU.out, ← HXD.out]
                rw [if_neg HAB.out, if_neg H0.out, if_neg H64.out]
              have E := Lib.hid e
              clear e
              obtain ⟨w5, hup, hM5, hF5⟩ := (HC.out.nm_.fr0 (Fr.refl [] wc).drew).store nm hsz (xu + 0) (xd + down) (by unfold maxLen; omega)
              try simp only [Int.add_zero] at hup
              have hbcd := hbx.drew.cell
              have hccd := HC.out.blk.drew.cell
              have HM5 := Lib.hid hM5
              clear hM5
              go_wp2_with fail
              go_still_tail 21, (by kernel_rfl)
              change wpList _ _ _ _ _ wc.drew
              go_wp2
              rw [hup]
              go_wp2
              have hg5 : Good (putL l (nm, xu + 0, xd + down)) := ⟨HC.out.good.st.put _, fun y hy => by
                rcases mem_putL hy with rfl | hy
                · exact nameF_sz HC.out.nsz
                · exact HC.out.good.sz y hy⟩
              have hb5 : Bnd (putL l (nm, xu + 0, xd + down)) := fun y hy => by
                rcases mem_putL hy with rfl | hy
                · simp only; omega
                · exact HC.out.bnd y hy
              have hl5 : (putL l (nm, xu + 0, xd + down)).length ≤ 64 := by
                rw [len_putL HC.out.good.st]
                have hh := H64.out
                cases hlk : lk l nm with
                | none => simp [hlk] at hh ⊢; omega
                | some v => simp; omega
              have hC5 : CT w5 bc b 1 nm (putL l (nm, xu + 0, xd + down)) := ⟨hF5.blk HC.out.blk.drew (by simpa using hbn), HM5.out.tight hg5, hg5, hb5, hl5, HC.out.nsz⟩
              have hF6 : Fr [bc, b] w w5 := HF.out.drew.trans (hF5.mono (by simp))
              refine leaves_cons (f := 35) (args := #[.pointer (some ⟨bc, 0, none⟩)]) (by simp) (by simp [go_sem]) ?_
              refine (Go.MuLone.unlock_deferred muLib ⟨bc, 0, none⟩ .returning _ (hC5).word.c (hC5).word.f).mono ?_
              rintro e u' w'' ⟨rfl, rfl, rfl⟩
              refine ⟨_, results_tmp rfl _ _ _, ?_⟩
              exact CountPost.mk E.out ((hC5).lock 0) ((hF6).set (.inl (by simp)) _)
            | none =>
              have hi : is_ = false := by rw [HIS.out, hlk]; rfl
              subst hi
              by_cases h64 : l.length = 64
              · have e64 : ((l.length : Int) == 64) = true := by simp; omega
                have e : countF l nm 0 down = (l, 3) := by
                  unfold countF
                  rw [← HXU.out, ← HXD.out]
                  rw [if_neg HAB.out, if_neg H0.out, if_pos ⟨hlk, h64⟩]
                have E := Lib.hid e
                clear e
                clear hlk h64
                go_wp2
                refine leaves_cons (f := 35) (args := #[.pointer (some ⟨bc, 0, none⟩)]) (by simp) (by simp [go_sem]) ?_
                refine (Go.MuLone.unlock_deferred muLib ⟨bc, 0, none⟩ .returning _ (HC.out).word.c (HC.out).word.f).mono ?_
                rintro e u' w'' ⟨rfl, rfl, rfl⟩
                refine ⟨_, results_tmp rfl _ _ _, ?_⟩
                exact CountPost.mk E.out ((HC.out).lock 0) ((HF.out).set (.inl (by simp)) _)
              · have e64 : ((l.length : Int) == 64) = false := by simp; omega
                have H64 : Hid (¬ (lk l nm = none ∧ l.length = 64)) := Lib.hid (by simp [h64])
                clear hlk h64
                have e : countF l nm 0 down = (putL l (nm, xu + 0, xd + down), 0) := by
                  unfold countF
                  rw [← HXU.out, ← HXD.out]
                  rw [if_neg HAB.out, if_neg H0.out, if_neg H64.out]
                have E := Lib.hid e
                clear e
                obtain ⟨w5, hup, hM5, hF5⟩ := (HC.out.nm_.fr0 (Fr.refl [] wc).drew).store nm hsz (xu + 0) (xd + down) (by unfold maxLen; omega)
                try simp only [Int.add_zero] at hup
                have hbcd := hbx.drew.cell
                have hccd := HC.out.blk.drew.cell
                have HM5 := Lib.hid hM5
                clear hM5
                go_wp2_with fail
                go_still_tail 21, (by kernel_rfl)
                change wpList _ _ _ _ _ wc.drew
                go_wp2
                rw [hup]
                go_wp2
                have hg5 : Good (putL l (nm, xu + 0, xd + down)) := ⟨HC.out.good.st.put _, fun y hy => by
                  rcases mem_putL hy with rfl | hy
                  · exact nameF_sz HC.out.nsz
                  · exact HC.out.good.sz y hy⟩
                have hb5 : Bnd (putL l (nm, xu + 0, xd + down)) := fun y hy => by
                  rcases mem_putL hy with rfl | hy
                  · simp only; omega
                  · exact HC.out.bnd y hy
                have hl5 : (putL l (nm, xu + 0, xd + down)).length ≤ 64 := by
                  rw [len_putL HC.out.good.st]
                  have hh := H64.out
                  cases hlk : lk l nm with
                  | none => simp [hlk] at hh ⊢; omega
                  | some v => simp; omega
                have hC5 : CT w5 bc b 1 nm (putL l (nm, xu + 0, xd + down)) := ⟨hF5.blk HC.out.blk.drew (by simpa using hbn), HM5.out.tight hg5, hg5, hb5, hl5, HC.out.nsz⟩
                have hF6 : Fr [bc, b] w w5 := HF.out.drew.trans (hF5.mono (by simp))
                refine leaves_cons (f := 35) (args := #[.pointer (some ⟨bc, 0, none⟩)]) (by simp) (by simp [go_sem]) ?_
                refine (Go.MuLone.unlock_deferred muLib ⟨bc, 0, none⟩ .returning _ (hC5).word.c (hC5).word.f).mono ?_
                rintro e u' w'' ⟨rfl, rfl, rfl⟩
                refine ⟨_, results_tmp rfl _ _ _, ?_⟩
                exact CountPost.mk E.out ((hC5).lock 0) ((hF6).set (.inl (by simp)) _)
          · have hu2 : (up == 0) = false := by simpa using hu
            clear hu
            have H0 := Lib.hid h0
            clear h0
            cases hlk : lk l nm with
            | some v =>
              have hi : is_ = true := by rw [HIS.out, hlk]; rfl
              have H64 : Hid (¬ (lk l nm = none ∧ l.length = 64)) := Lib.hid (by simp [hlk])
              subst hi
              clear hlk
              have e : countF l nm up down = (putL l (nm, xu + up, xd + down), 0) := by
                unfold countF
                rw [← HXU.out, ← HXD.out]
                rw [if_neg HAB.out, if_neg H0.out, if_neg H64.out]
              have E := Lib.hid e
              clear e
              obtain ⟨w5, hup, hM5, hF5⟩ := (HC.out.nm_.fr0 (Fr.refl [] wc).drew).store nm hsz (xu + up) (xd + down) (by unfold maxLen; omega)
              try simp only [Int.add_zero] at hup
              have hbcd := hbx.drew.cell
              have hccd := HC.out.blk.drew.cell
              have HM5 := Lib.hid hM5
              clear hM5
              go_wp2_with fail
              go_still_tail 21, (by kernel_rfl)
              change wpList _ _ _ _ _ wc.drew
              go_wp2
              rw [hup]
              go_wp2
              have hg5 : Good (putL l (nm, xu + up, xd + down)) := ⟨HC.out.good.st.put _, fun y hy => by
                rcases mem_putL hy with rfl | hy
                · exact nameF_sz HC.out.nsz
                · exact HC.out.good.sz y hy⟩
              have hb5 : Bnd (putL l (nm, xu + up, xd + down)) := fun y hy => by
                rcases mem_putL hy with rfl | hy
                · simp only; omega
                · exact HC.out.bnd y hy
              have hl5 : (putL l (nm, xu + up, xd + down)).length ≤ 64 := by
                rw [len_putL HC.out.good.st]
                have hh := H64.out
                cases hlk : lk l nm with
                | none => simp [hlk] at hh ⊢; omega
                | some v => simp; omega
              have hC5 : CT w5 bc b 1 nm (putL l (nm, xu + up, xd + down)) := ⟨hF5.blk HC.out.blk.drew (by simpa using hbn), HM5.out.tight hg5, hg5, hb5, hl5, HC.out.nsz⟩
              have hF6 : Fr [bc, b] w w5 := HF.out.drew.trans (hF5.mono (by simp))
              refine leaves_cons (f := 35) (args := #[.pointer (some ⟨bc, 0, none⟩)]) (by simp) (by simp [go_sem]) ?_
              refine (Go.MuLone.unlock_deferred muLib ⟨bc, 0, none⟩ .returning _ (hC5).word.c (hC5).word.f).mono ?_
              rintro e u' w'' ⟨rfl, rfl, rfl⟩
              refine ⟨_, results_tmp rfl _ _ _, ?_⟩
              exact CountPost.mk E.out ((hC5).lock 0) ((hF6).set (.inl (by simp)) _)
            | none =>
              have hi : is_ = false := by rw [HIS.out, hlk]; rfl
              subst hi
              by_cases h64 : l.length = 64
              · have e64 : ((l.length : Int) == 64) = true := by simp; omega
                have e : countF l nm up down = (l, 3) := by
                  unfold countF
                  rw [← HXU.out, ← HXD.out]
                  rw [if_neg HAB.out, if_neg H0.out, if_pos ⟨hlk, h64⟩]
                have E := Lib.hid e
                clear e
                clear hlk h64
                go_wp2
                refine leaves_cons (f := 35) (args := #[.pointer (some ⟨bc, 0, none⟩)]) (by simp) (by simp [go_sem]) ?_
                refine (Go.MuLone.unlock_deferred muLib ⟨bc, 0, none⟩ .returning _ (HC.out).word.c (HC.out).word.f).mono ?_
                rintro e u' w'' ⟨rfl, rfl, rfl⟩
                refine ⟨_, results_tmp rfl _ _ _, ?_⟩
                exact CountPost.mk E.out ((HC.out).lock 0) ((HF.out).set (.inl (by simp)) _)
              · have e64 : ((l.length : Int) == 64) = false := by simp; omega
                have H64 : Hid (¬ (lk l nm = none ∧ l.length = 64)) := Lib.hid (by simp [h64])
                clear hlk h64
                have e : countF l nm up down = (putL l (nm, xu + up, xd + down), 0) := by
                  unfold countF
                  rw [← HXU.out, ← HXD.out]
                  rw [if_neg HAB.out, if_neg H0.out, if_neg H64.out]
                have E := Lib.hid e
                clear e
                obtain ⟨w5, hup, hM5, hF5⟩ := (HC.out.nm_.fr0 (Fr.refl [] wc).drew).store nm hsz (xu + up) (xd + down) (by unfold maxLen; omega)
                try simp only [Int.add_zero] at hup
                have hbcd := hbx.drew.cell
                have hccd := HC.out.blk.drew.cell
                have HM5 := Lib.hid hM5
                clear hM5
                go_wp2_with fail
                go_still_tail 21, (by kernel_rfl)
                change wpList _ _ _ _ _ wc.drew
                go_wp2
                rw [hup]
                go_wp2
                have hg5 : Good (putL l (nm, xu + up, xd + down)) := ⟨HC.out.good.st.put _, fun y hy => by
                  rcases mem_putL hy with rfl | hy
                  · exact nameF_sz HC.out.nsz
                  · exact HC.out.good.sz y hy⟩
                have hb5 : Bnd (putL l (nm, xu + up, xd + down)) := fun y hy => by
                  rcases mem_putL hy with rfl | hy
                  · simp only; omega
                  · exact HC.out.bnd y hy
                have hl5 : (putL l (nm, xu + up, xd + down)).length ≤ 64 := by
                  rw [len_putL HC.out.good.st]
                  have hh := H64.out
                  cases hlk : lk l nm with
                  | none => simp [hlk] at hh ⊢; omega
                  | some v => simp; omega
                have hC5 : CT w5 bc b 1 nm (putL l (nm, xu + up, xd + down)) := ⟨hF5.blk HC.out.blk.drew (by simpa using hbn), HM5.out.tight hg5, hg5, hb5, hl5, HC.out.nsz⟩
                have hF6 : Fr [bc, b] w w5 := HF.out.drew.trans (hF5.mono (by simp))
                refine leaves_cons (f := 35) (args := #[.pointer (some ⟨bc, 0, none⟩)]) (by simp) (by simp [go_sem]) ?_
                refine (Go.MuLone.unlock_deferred muLib ⟨bc, 0, none⟩ .returning _ (hC5).word.c (hC5).word.f).mono ?_
                rintro e u' w'' ⟨rfl, rfl, rfl⟩
                refine ⟨_, results_tmp rfl _ _ _, ?_⟩
                exact CountPost.mk E.out ((hC5).lock 0) ((hF6).set (.inl (by simp)) _)
end Go.Proofs.Ytanbfejhhnhabaa

/- The package crdt: Add and Sub. -/
namespace Go.Proofs.Ytanbfejhhnhabaa
open Go.RowKit Go.Maps Go.Sort
set_option maxRecDepth 100000
set_option linter.unusedVariables false
set_option linter.unusedSimpArgs false
set_option maxHeartbeats 8000000
theorem add_any (bc b : Nat) (nm : ByteArray) (l : List Nd) (n : Int) (w : World) (h : CT w bc b 0 nm l) (h0 : 0 ≤ n) (h1 : n < 18446744073709551616) :
    Calls Try.prog 12 #[.pointer (some ⟨bc, 0, none⟩), .int .u64 n] w (CountPost bc b l nm n 0 w) := by
  have H := Lib.hid h
  clear h
  go_enter Try.func12, Try.ntmps12
  go_wp2_with ((go_at_call 37); (with_reducible refine (count_any bc b nm l n 0 _ H.out h0 h1 (by omega) (by omega)).mono ?_); rintro e w1 ⟨rfl, hC, hF⟩)
  go_ret
  exact ⟨rfl, hC, hF⟩
theorem sub_any (bc b : Nat) (nm : ByteArray) (l : List Nd) (n : Int) (w : World) (h : CT w bc b 0 nm l) (h0 : 0 ≤ n) (h1 : n < 18446744073709551616) :
    Calls Try.prog 13 #[.pointer (some ⟨bc, 0, none⟩), .int .u64 n] w (CountPost bc b l nm 0 n w) := by
  have H := Lib.hid h
  clear h
  go_enter Try.func13, Try.ntmps13
  go_wp2_with ((go_at_call 37); (with_reducible refine (count_any bc b nm l 0 n _ H.out (by omega) (by omega) h0 h1).mono ?_); rintro e w1 ⟨rfl, hC, hF⟩)
  go_ret
  exact ⟨rfl, hC, hF⟩
end Go.Proofs.Ytanbfejhhnhabaa

namespace Go.Proofs.Ytanbfejhhnhabaa
open Go.RowKit Go.Maps Go.Sort
set_option maxRecDepth 100000
set_option linter.unusedVariables false
set_option linter.unusedSimpArgs false
set_option maxHeartbeats 400000
theorem RN.blk {w : World} {b : Nat} {l : List Nd} {t : TypeId} (h : Blk w b (flat3 l).toArray t) (hl : l.length ≤ maxLen) : RN w (.slice (some ⟨b, 0, none⟩) l.length l.length) l :=
  ⟨flat3_len l, .inr ⟨b, 0, l.length, rfl, h.lt, Nat.le_refl _, hl, fun j u hj => by rw [Nat.zero_add, h.cell j]; simpa using hj⟩⟩
abbrev nA : ByteArray := ⟨#[97]⟩
abbrev nB : ByteArray := ⟨#[98]⟩
abbrev nC : ByteArray := ⟨#[99]⟩
abbrev nX : ByteArray := ⟨#[120]⟩
abbrev l1_ : List Nd := [(nA, 3, 0), (nB, 1, 1)]
abbrev l2_ : List Nd := [(nA, 2, 5), (nC, 1, 0)]
abbrev l3_ : List Nd := [(nA, 3, 5), (nB, 1, 1), (nC, 1, 0)]
theorem lv_merge : mergeF l1_ l2_ = (l3_, 0) := by kernel_rfl
theorem lv_value : valueF l3_ = (-1, 0) := by kernel_rfl
theorem lv_name : nameF nX = true := by kernel_rfl
theorem lv_c1 : countF [] nX 5 0 = ([(nX, 5, 0)], 0) := by kernel_rfl
theorem lv_c2 : countF [(nX, 5, 0)] nX 0 7 = ([(nX, 5, 7)], 0) := by kernel_rfl
theorem lv_v : valL [(nX, 5, 7)] = -2 := by kernel_rfl
theorem lv_a1 : Arg l1_ := Good.arg (right_good (by kernel_rfl)) (by simp [Pos]) (by simp)
theorem lv_a2 : Arg l2_ := Good.arg (right_good (by kernel_rfl)) (by simp [Pos]) (by simp)
theorem lv_a3 : Arg l3_ := Good.arg (right_good (by kernel_rfl)) (by simp [Pos]) (by simp)
theorem lv_r1 (w : World) (o : Obj) : RN ((w.alloc (.cells #[.string nA, .int .u64 3, .int .u64 0, .string nB, .int .u64 1, .int .u64 1] 33)).alloc o) (.slice (some ⟨w.heap.size, 0, none⟩) 2 2) l1_ :=
  RN.blk (l := l1_) (t := 33) ((Blk.new w #[.string nA, .int .u64 3, .int .u64 0, .string nB, .int .u64 1, .int .u64 1] 33).alloc o) (by show 2 ≤ maxLen; unfold maxLen; omega)
theorem lv_r2 (w : World) : RN (w.alloc (.cells #[.string nA, .int .u64 2, .int .u64 5, .string nC, .int .u64 1, .int .u64 0] 33)) (.slice (some ⟨w.heap.size, 0, none⟩) 2 2) l2_ :=
  RN.blk (l := l2_) (t := 33) (Blk.new w #[.string nA, .int .u64 2, .int .u64 5, .string nC, .int .u64 1, .int .u64 0] 33) (by show 2 ≤ maxLen; unfold maxLen; omega)
theorem lv_merge_any (w : World) : Calls Try.prog 20 #[.slice (some ⟨w.heap.size, 0, none⟩) 2 2, .slice (some ⟨w.heap.size + 1, 0, none⟩) 2 2] ((w.alloc (.cells #[.string nA, .int .u64 3, .int .u64 0, .string nB, .int .u64 1, .int .u64 1] 33)).alloc (.cells #[.string nA, .int .u64 2, .int .u64 5, .string nC, .int .u64 1, .int .u64 0] 33))
    fun e w' => ∃ g o c, e = .returned (.tuple #[.slice (some ⟨g, o, none⟩) 3 c, .int .i64 0]) ∧ RN w' (.slice (some ⟨g, o, none⟩) 3 c) l3_ ∧ 3 ≤ c ∧ g < w'.heap.size ∧
      w'.cell? ⟨g, o, none⟩ = some (.string nA) ∧ w'.cell? ⟨g, o + 1, none⟩ = some (.int .u64 3) ∧ w'.cell? ⟨g, o + 2, none⟩ = some (.int .u64 5) ∧ Fr [] w w' := by
  have h2 := lv_r2 (w.alloc (.cells #[.string nA, .int .u64 3, .int .u64 0, .string nB, .int .u64 1, .int .u64 1] 33))
  have e : (w.alloc (.cells #[.string nA, .int .u64 3, .int .u64 0, .string nB, .int .u64 1, .int .u64 1] 33)).heap.size = w.heap.size + 1 := Array.size_push _
  rw [e] at h2
  refine (merge_any _ _ l1_ l2_ _ (lv_r1 w _) h2 lv_a1 lv_a2).mono ?_
  rintro e w1 ⟨v1, rfl, hS1, hF1⟩
  rw [lv_merge] at hS1 ⊢
  obtain ⟨g, o, c, rfl, g1, g2, g3, g4, g5⟩ := hS1.cells (by simp)
  exact ⟨g, o, c, rfl, hS1.rd, g3, g2, g5 0 _ rfl, g5 1 _ rfl, g5 2 _ rfl, (((Fr.refl [] w).alloc _).alloc _).trans hF1⟩
theorem lv_cells {w : World} {g o c : Nat} (h : RN w (.slice (some ⟨g, o, none⟩) 3 c) l3_) : 3 ≤ c ∧ g < w.heap.size ∧ w.cell? ⟨g, o, none⟩ = some (.string nA) ∧ w.cell? ⟨g, o + 1, none⟩ = some (.int .u64 3) ∧ w.cell? ⟨g, o + 2, none⟩ = some (.int .u64 5) := by
  obtain ⟨g', o', c', he, g2, g3, g4, g5⟩ := RD.cells h (by simp)
  simp only [Value.slice.injEq, Option.some.injEq, Addr.mk.injEq] at he
  obtain ⟨⟨rfl, rfl, -⟩, -, rfl⟩ := he
  exact ⟨g3, g2, g5 0 _ rfl, g5 1 _ rfl, g5 2 _ rfl⟩
theorem lives_any (w : World) :
    Calls Try.prog 8 #[] w fun e w' => e = .returned (.bool true) ∧ Fr [] w w' := by
  have heq : ∀ (W : World) (s s' : ByteArray) (u d u' d' : Int), (binOp .eql 33 (.agg #[.string s, .int .u64 u, .int .u64 d]) (.agg #[.string s', .int .u64 u', .int .u64 d'])).run Try.prog W = .ok (.bool (s.toList == s'.toList && (u == u' && (d == d')))) W := fun W s s' u d u' d' => by
    simp only [binOp]
    simp [Op.equal, Op.maxDepth, Ytanbfejhhnhabaa.PCrdtLattice.eqA33 9998 W s s' u u' d d', Sem.run]
  go_enter Try.func8, Try.ntmps8
  go_wp2_with fail
  go_at_call 20
  refine (lv_merge_any w).mono ?_
  rintro e w1 ⟨g, o, c, rfl, hR1, -, -, -, -, -, hF1⟩
  have HR1 := Lib.hid hR1
  have HF1 := Lib.hid hF1
  clear hR1 hF1
  go_wp2_with fail
  go_at_call 24
  refine (cvalue_any _ l3_ _ HR1.out lv_a3).mono ?_
  rintro e w2 ⟨rfl, hF2⟩
  rw [lv_value]
  have HR2 := Lib.hid (HR1.out.fr0 hF2)
  have HF2 := Lib.hid (HF1.out.trans hF2)
  clear hF2
  go_wp2_with fail
  go_at_call 7
  refine (new_ok nX _ lv_name).mono ?_
  rintro e w3 ⟨bc, b, rfl, hC3, hb1, hb2, hF3⟩
  obtain ⟨q1, q2, q3, q4, q5⟩ := lv_cells (HR2.out.fr0 hF3)
  have HF3 := Lib.hid (HF2.out.trans hF3)
  have HC3 := Lib.hid hC3
  have hz2 := HF2.out.size
  clear hF3 hC3
  go_wp2_with fail
  go_at_call 12
  refine (add_any bc b nX [] 5 _ HC3.out (by omega) (by omega)).mono ?_
  rintro e w4 ⟨rfl, hC4, hF4⟩
  rw [lv_c1] at hC4 ⊢
  have HC4 := Lib.hid hC4
  have HF4 := Lib.hid hF4
  clear hC4 hF4
  go_wp2_with fail
  go_at_call 13
  refine (sub_any bc b nX [(nX, 5, 0)] 7 _ HC4.out (by omega) (by omega)).mono ?_
  rintro e w5 ⟨rfl, hC5, hF5⟩
  rw [lv_c2] at hC5 ⊢
  have HC5 := Lib.hid hC5
  have HF5 := Lib.hid (HF4.out.trans hF5)
  clear hC5 hF5
  go_wp2_with fail
  go_at_call 19
  refine (cval_any bc b nX [(nX, 5, 7)] _ HC5.out).mono ?_
  rintro e w6 ⟨rfl, -, hF6⟩
  rw [lv_v]
  have HF6 := Lib.hid (HF5.out.trans (hF6.mono (by simp)))
  clear hF6
  go_wp2_with fail
  go_ret
  refine ⟨rfl, ((HF3.out.mono (by simp)).trans HF6.out).weaken ?_⟩
  intro z hz
  simp at hz
  right
  omega
end Go.Proofs.Ytanbfejhhnhabaa
