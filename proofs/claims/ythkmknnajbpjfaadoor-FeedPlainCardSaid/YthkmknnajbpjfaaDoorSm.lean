/- The package feed: Step, said of the plain mathematics. -/
import Derived.Test.YthkmknnajbpjfaaDoorStep
import Derived.Test.YthkmknnajbpjfaaDoorMv0
import Derived.Test.YthkmknnajbpjfaaDoorMv1
import Derived.Test.YthkmknnajbpjfaaDoorMv2
import Derived.Test.YthkmknnajbpjfaaDoorMv3
import Derived.Test.YthkmknnajbpjfaaDoorCnt
import Derived.Test.YthkmknnajbpjfaaDoorCnt1
import Derived.Test.YthkmknnajbpjfaaDoorPut
import Derived.Test.YthkmknnajbpjfaaDoorTak
import Derived.Test.YthkmknnajbpjfaaDoorLst1
namespace Go.Proofs.YthkmknnajbpjfaaDoor
open Go.RowKit
set_option maxRecDepth 100000
set_option linter.unusedVariables false
set_option linter.unusedSimpArgs false
set_option maxHeartbeats 1000000

/-- The function that an operation's next action is. -/
def nxv (p : M.Pn) (b1 b2 : Nat) : Value :=
  if p.k = 3 then (if p.ph = 0 then .func (.func 24) #[] #[] else .func (.func 34) #[] #[])
  else match p.ph with
  | 0 => .func (.func 23) #[] #[]
  | 1 => .func (.func 33) #[] #[]
  | 2 => .func (.func 42) #[] #[]
  | 3 => if p.k = 1 then .func (.func 44) #[] #[] else .func (.func 45) #[] #[]
  | _ => .func (.func 55) #[] #[.pointer (some ⟨b1, 0, none⟩), .pointer (some ⟨b2, 0, none⟩)]
/-- Memory holds an operation under way. -/
structure PM (w : World) (bp bf size : Nat) (p : M.Pn) : Prop where
  ex : ∃ b1 b2, Pd w bp bf p.k p.x (nxv p b1 b2) p.pl p.dn p.aAt p.aX p.why ∧ (p.k ≠ 3 → p.ph = 4 → Blk w b1 #[.int .u64 (M.lastv size p)] 29 ∧ Blk w b2 #[.int .u64 p.pl, .int .u64 (M.lastx p)] 45)
  ok : M.Ok p
theorem PM.lt {w : World} {bp bf size : Nat} {p : M.Pn} (h : PM w bp bf size p) : bp < w.heap.size := by
  obtain ⟨b1, b2, hp, _⟩ := h.ex
  exact hp.b.lt
/-- What a call leaves that writes blocks of other kinds alone. -/
theorem PM.fr {S : List Nat} {w w' : World} {bp bf size : Nat} {p : M.Pn} (h : PM w bp bf size p) (f : Fr S w w') (hb : bp ∉ S) (hs : ∀ b ∈ S, ∀ cs, ¬ Blk w b cs 29 ∧ ¬ Blk w b cs 45) : PM w' bp bf size p := by
  obtain ⟨⟨b1, b2, hp, hc⟩, ok⟩ := h
  refine ⟨⟨b1, b2, hp.fr f hb, fun h1 h2 => ⟨f.blk (hc h1 h2).1 (fun hm => (hs b1 hm _).1 (hc h1 h2).1), f.blk (hc h1 h2).2 (fun hm => (hs b2 hm _).2 (hc h1 h2).2)⟩⟩, ok⟩
theorem Blk.typ {w : World} {b : Nat} {cs cs' : Array Value} {t t' : TypeId} (h : Blk w b cs t) (ht : t ≠ t') : ¬ Blk w b cs' t' := fun h' => h.ne h' ht rfl
def GG (bf bc bw bp size : Nat) (l : List Int) (p : M.Pn) (w : World) : Prop := Fd w bf bc bw size l ∧ PM w bp bf size p
theorem GG.cl {bf bc bw bp size N : Nat} {l : List Int} {p : M.Pn} (h1 : bf < N) (h2 : bc < N) (h3 : bw < N) (h4 : bp < N) (h5 : 0 < N) :
    ∀ a b z cs, GG bf bc bw bp size l p a → N ≤ z → Blk a z cs 50 → Fr [z] a b → GG bf bc bw bp size l p b := by
  rintro a b z cs ⟨g1, g2⟩ hz hb f
  exact ⟨g1.fr f (by simp; omega) (by simp; omega) (by simp; omega) (by simp; omega), g2.fr f (by simp; omega) (by intro c hc cs'; simp at hc; subst hc; exact ⟨hb.typ (by decide), hb.typ (by decide)⟩)⟩
theorem GG.b {bf bc bw bp size : Nat} {l : List Int} {p : M.Pn} {w : World} (h : GG bf bc bw bp size l p w) : ∃ b, w.cell? ⟨bp, 5, none⟩ = some (.bool b) := by
  obtain ⟨b1, b2, hp, _⟩ := h.2.ex
  exact ⟨_, (hp.b.cel 5 (v := .bool p.dn) rfl).c⟩
theorem getD_some {l : List Int} {i : Nat} (h : i < l.length) : l[i]? = some (l.getD i 0) := by
  rw [List.getD_eq_getElem?_getD, List.getElem?_eq_getElem h]; rfl
theorem tcell_lt {size : Nat} {pl : Int} (h : 2 ≤ size) (h0 : 0 ≤ pl) : M.tcell size pl + 1 < 2 + 2 * size := by
  unfold M.tcell
  have hm0 : 0 ≤ pl % (size : Int) := Int.emod_nonneg _ (by omega)
  have hm1 : pl % (size : Int) < size := Int.emod_lt_of_pos _ (by omega)
  omega
theorem sm_look_put (bf bc bw bp size : Nat) (l : List Int) (x pl sv aAt aX why : Int) (w : World) (h : Fd w bf bc bw size l) (q : PM w bp bf size ⟨1, x, 0, pl, sv, false, aAt, aX, why⟩) (hw : M.Words l) :
    Calls Tryd.prog 12 #[.pointer (some ⟨bp, 0, none⟩)] w fun e w' => (∃ v, e = .returned v) ∧ GG bf bc bw bp size (l) (⟨1, x, 1, l.getD 0 0, sv, false, aAt, aX, why⟩) w' ∧ Fr [bp, bw] w w' := by
  have ok := q.ok
  have okpl : 0 ≤ pl ∧ pl < 18446744073709551616 := ok.pl
  obtain ⟨b1, b2, pd, hcap⟩ := q.ex
  have p := pd
  have hpl := p.b.lt
  have hpz := p.z
  have hfl := h.f.lt
  have hcl := h.h.c.lt
  have hwl := h.h.d.lt
  have hfz := h.z
  have hn1 : bf ≠ bp := h.f.ne p.b (by decide)
  have hn2 : bc ≠ bp := h.h.c.ne p.b (by decide)
  have hn3 : bw ≠ bp := h.h.d.ne p.b (by decide)
  have hul := h.h.u.lt
  refine step_any 23 #[] [bp, bw] (GG bf bc bw bp size (l) (⟨1, x, 1, l.getD 0 0, sv, false, aAt, aX, why⟩)) bp bf 1 x pl aAt aX why w pd (by intro z hz; simp at hz; omega) (fun _ _ => by kernel_rfl) (GG.cl hfl hcl hwl hpl hul) ?_
  intro W hF
  refine (look_put bp bf bc bw size l x _ pl false aAt aX why (l.getD 0 0) W (h.fr0 hF) (pd.fr hF (by simp)) (getD_some (by have := h.n; have := h.lo; omega))).mono ?_
  rintro e w' ⟨rfl, hP, hR⟩
  have hG : GG bf bc bw bp size (l) (⟨1, x, 1, l.getD 0 0, sv, false, aAt, aX, why⟩) w' := ⟨(h.fr0 hF).fr hR (by simp; omega) (by simp; omega) (by simp; omega) (by simp; omega), ⟨⟨0, 0, hP, fun _ h4 => by cases h4⟩, ⟨ok.k, ok.x, hw 0, by simp, fun h3 => by cases h3⟩⟩⟩
  exact ⟨⟨_, _, _, _, _, rfl⟩, hG, hG.b, hR.mono (by simp)⟩
theorem sm_wait_put_lt (bf bc bw bp size : Nat) (l : List Int) (x pl sv aAt aX why : Int) (w : World) (h : Fd w bf bc bw size l) (q : PM w bp bf size ⟨1, x, 1, pl, sv, false, aAt, aX, why⟩) (hw : M.Words l) (hs : (l.getD (M.tcell size pl) 0) < pl) :
    Calls Tryd.prog 12 #[.pointer (some ⟨bp, 0, none⟩)] w fun e w' => (∃ v, e = .returned v) ∧ GG bf bc bw bp size (l) (⟨1, x, 1, pl, sv, true, aAt, aX, 51⟩) w' ∧ Fr [bp, bw] w w' := by
  have ok := q.ok
  have okpl : 0 ≤ pl ∧ pl < 18446744073709551616 := ok.pl
  obtain ⟨b1, b2, pd, hcap⟩ := q.ex
  have p := pd
  have hpl := p.b.lt
  have hpz := p.z
  have hfl := h.f.lt
  have hcl := h.h.c.lt
  have hwl := h.h.d.lt
  have hfz := h.z
  have hn1 : bf ≠ bp := h.f.ne p.b (by decide)
  have hn2 : bc ≠ bp := h.h.c.ne p.b (by decide)
  have hn3 : bw ≠ bp := h.h.d.ne p.b (by decide)
  have hul := h.h.u.lt
  refine step_any 33 #[] [bp, bw] (GG bf bc bw bp size (l) (⟨1, x, 1, pl, sv, true, aAt, aX, 51⟩)) bp bf 1 x pl aAt aX why w pd (by intro z hz; simp at hz; omega) (fun _ _ => by kernel_rfl) (GG.cl hfl hcl hwl hpl hul) ?_
  intro W hF
  refine (wait_put_lt bp bf bc bw size l x _ pl false aAt aX why (l.getD (M.tcell size pl) 0) W (h.fr0 hF) (pd.fr hF (by simp)) okpl.1 okpl.2 _ rfl (getD_some (by have := h.n; have := tcell_lt h.lo okpl.1; omega)) hs).mono ?_
  rintro e w' ⟨rfl, hP, hR⟩
  have hG : GG bf bc bw bp size (l) (⟨1, x, 1, pl, sv, true, aAt, aX, 51⟩) w' := ⟨(h.fr0 hF).fr hR (by simp; omega) (by simp; omega) (by simp; omega) (by simp; omega), ⟨⟨0, 0, hP, fun _ h4 => by cases h4⟩, ⟨ok.k, ok.x, ok.pl, by simp, fun h3 => by cases h3⟩⟩⟩
  exact ⟨⟨_, _, _, _, _, rfl⟩, hG, hG.b, hR.mono (by simp)⟩
theorem sm_wait_put_gt (bf bc bw bp size : Nat) (l : List Int) (x pl sv aAt aX why : Int) (w : World) (h : Fd w bf bc bw size l) (q : PM w bp bf size ⟨1, x, 1, pl, sv, false, aAt, aX, why⟩) (hw : M.Words l) (hs : pl < (l.getD (M.tcell size pl) 0)) :
    Calls Tryd.prog 12 #[.pointer (some ⟨bp, 0, none⟩)] w fun e w' => (∃ v, e = .returned v) ∧ GG bf bc bw bp size (l) (⟨1, x, 0, pl, sv, false, aAt, aX, why⟩) w' ∧ Fr [bp, bw] w w' := by
  have ok := q.ok
  have okpl : 0 ≤ pl ∧ pl < 18446744073709551616 := ok.pl
  obtain ⟨b1, b2, pd, hcap⟩ := q.ex
  have p := pd
  have hpl := p.b.lt
  have hpz := p.z
  have hfl := h.f.lt
  have hcl := h.h.c.lt
  have hwl := h.h.d.lt
  have hfz := h.z
  have hn1 : bf ≠ bp := h.f.ne p.b (by decide)
  have hn2 : bc ≠ bp := h.h.c.ne p.b (by decide)
  have hn3 : bw ≠ bp := h.h.d.ne p.b (by decide)
  have hul := h.h.u.lt
  refine step_any 33 #[] [bp, bw] (GG bf bc bw bp size (l) (⟨1, x, 0, pl, sv, false, aAt, aX, why⟩)) bp bf 1 x pl aAt aX why w pd (by intro z hz; simp at hz; omega) (fun _ _ => by kernel_rfl) (GG.cl hfl hcl hwl hpl hul) ?_
  intro W hF
  refine (wait_put_gt bp bf bc bw size l x _ pl false aAt aX why (l.getD (M.tcell size pl) 0) W (h.fr0 hF) (pd.fr hF (by simp)) okpl.1 okpl.2 _ rfl (getD_some (by have := h.n; have := tcell_lt h.lo okpl.1; omega)) hs).mono ?_
  rintro e w' ⟨rfl, hP, hR⟩
  have hG : GG bf bc bw bp size (l) (⟨1, x, 0, pl, sv, false, aAt, aX, why⟩) w' := ⟨(h.fr0 hF).fr hR (by simp; omega) (by simp; omega) (by simp; omega) (by simp; omega), ⟨⟨0, 0, hP, fun _ h4 => by cases h4⟩, ⟨ok.k, ok.x, ok.pl, by simp, fun h3 => by cases h3⟩⟩⟩
  exact ⟨⟨_, _, _, _, _, rfl⟩, hG, hG.b, hR.mono (by simp)⟩
theorem sm_wait_put_eq (bf bc bw bp size : Nat) (l : List Int) (x pl sv aAt aX why : Int) (w : World) (h : Fd w bf bc bw size l) (q : PM w bp bf size ⟨1, x, 1, pl, sv, false, aAt, aX, why⟩) (hw : M.Words l) (hs : (l.getD (M.tcell size pl) 0) = pl) :
    Calls Tryd.prog 12 #[.pointer (some ⟨bp, 0, none⟩)] w fun e w' => (∃ v, e = .returned v) ∧ GG bf bc bw bp size (l) (⟨1, x, 2, pl, sv, false, aAt, aX, why⟩) w' ∧ Fr [bp, bw] w w' := by
  have ok := q.ok
  have okpl : 0 ≤ pl ∧ pl < 18446744073709551616 := ok.pl
  obtain ⟨b1, b2, pd, hcap⟩ := q.ex
  have p := pd
  have hpl := p.b.lt
  have hpz := p.z
  have hfl := h.f.lt
  have hcl := h.h.c.lt
  have hwl := h.h.d.lt
  have hfz := h.z
  have hn1 : bf ≠ bp := h.f.ne p.b (by decide)
  have hn2 : bc ≠ bp := h.h.c.ne p.b (by decide)
  have hn3 : bw ≠ bp := h.h.d.ne p.b (by decide)
  have hul := h.h.u.lt
  refine step_any 33 #[] [bp, bw] (GG bf bc bw bp size (l) (⟨1, x, 2, pl, sv, false, aAt, aX, why⟩)) bp bf 1 x pl aAt aX why w pd (by intro z hz; simp at hz; omega) (fun _ _ => by kernel_rfl) (GG.cl hfl hcl hwl hpl hul) ?_
  intro W hF
  refine (wait_put_eq bp bf bc bw size l x _ pl false aAt aX why (l.getD (M.tcell size pl) 0) W (h.fr0 hF) (pd.fr hF (by simp)) okpl.1 okpl.2 _ rfl (getD_some (by have := h.n; have := tcell_lt h.lo okpl.1; omega)) hs).mono ?_
  rintro e w' ⟨rfl, hP, hR⟩
  have hG : GG bf bc bw bp size (l) (⟨1, x, 2, pl, sv, false, aAt, aX, why⟩) w' := ⟨(h.fr0 hF).fr hR (by simp; omega) (by simp; omega) (by simp; omega) (by simp; omega), ⟨⟨0, 0, hP, fun _ h4 => by cases h4⟩, ⟨ok.k, ok.x, ok.pl, by simp, fun h3 => by cases h3⟩⟩⟩
  exact ⟨⟨_, _, _, _, _, rfl⟩, hG, hG.b, hR.mono (by simp)⟩
theorem sm_move_put_hit (bf bc bw bp size : Nat) (l : List Int) (x pl sv aAt aX why : Int) (w : World) (h : Fd w bf bc bw size l) (q : PM w bp bf size ⟨1, x, 2, pl, sv, false, aAt, aX, why⟩) (hw : M.Words l) (hs : (l.getD 0 0) = pl) :
    Calls Tryd.prog 12 #[.pointer (some ⟨bp, 0, none⟩)] w fun e w' => (∃ v, e = .returned v) ∧ GG bf bc bw bp size (l.set 0 (M.w64 (pl + 1))) (⟨1, x, 3, pl, sv, false, aAt, aX, why⟩) w' ∧ Fr [bp, bw] w w' := by
  have ok := q.ok
  have okpl : 0 ≤ pl ∧ pl < 18446744073709551616 := ok.pl
  obtain ⟨b1, b2, pd, hcap⟩ := q.ex
  have p := pd
  have hpl := p.b.lt
  have hpz := p.z
  have hfl := h.f.lt
  have hcl := h.h.c.lt
  have hwl := h.h.d.lt
  have hfz := h.z
  have hn1 : bf ≠ bp := h.f.ne p.b (by decide)
  have hn2 : bc ≠ bp := h.h.c.ne p.b (by decide)
  have hn3 : bw ≠ bp := h.h.d.ne p.b (by decide)
  have hul := h.h.u.lt
  refine step_any 42 #[] [bp, bw] (GG bf bc bw bp size (l.set 0 (M.w64 (pl + 1))) (⟨1, x, 3, pl, sv, false, aAt, aX, why⟩)) bp bf 1 x pl aAt aX why w pd (by intro z hz; simp at hz; omega) (fun _ _ => by kernel_rfl) (GG.cl hfl hcl hwl hpl hul) ?_
  intro W hF
  refine (move_put_hit bp bf bc bw size l (M.w64 (pl + 1)) x _ pl false aAt aX why W (h.fr0 hF) (pd.fr hF (by simp)) rfl (hs ▸ (getD_some (by have := h.n; have := h.lo; omega)))).mono ?_
  rintro e w' ⟨rfl, hFd, hP, hR⟩
  have hG : GG bf bc bw bp size (l.set 0 (M.w64 (pl + 1))) (⟨1, x, 3, pl, sv, false, aAt, aX, why⟩) w' := ⟨hFd, ⟨⟨0, 0, hP, fun _ h4 => by cases h4⟩, ⟨ok.k, ok.x, ok.pl, by simp, fun h3 => by cases h3⟩⟩⟩
  exact ⟨⟨_, _, _, _, _, rfl⟩, hG, hG.b, hR.mono (by simp)⟩
theorem sm_move_put_miss (bf bc bw bp size : Nat) (l : List Int) (x pl sv aAt aX why : Int) (w : World) (h : Fd w bf bc bw size l) (q : PM w bp bf size ⟨1, x, 2, pl, sv, false, aAt, aX, why⟩) (hw : M.Words l) (hs : ¬ (l.getD 0 0) = pl) :
    Calls Tryd.prog 12 #[.pointer (some ⟨bp, 0, none⟩)] w fun e w' => (∃ v, e = .returned v) ∧ GG bf bc bw bp size (l) (⟨1, x, 0, pl, sv, false, aAt, aX, why⟩) w' ∧ Fr [bp, bw] w w' := by
  have ok := q.ok
  have okpl : 0 ≤ pl ∧ pl < 18446744073709551616 := ok.pl
  obtain ⟨b1, b2, pd, hcap⟩ := q.ex
  have p := pd
  have hpl := p.b.lt
  have hpz := p.z
  have hfl := h.f.lt
  have hcl := h.h.c.lt
  have hwl := h.h.d.lt
  have hfz := h.z
  have hn1 : bf ≠ bp := h.f.ne p.b (by decide)
  have hn2 : bc ≠ bp := h.h.c.ne p.b (by decide)
  have hn3 : bw ≠ bp := h.h.d.ne p.b (by decide)
  have hul := h.h.u.lt
  refine step_any 42 #[] [bp, bw] (GG bf bc bw bp size (l) (⟨1, x, 0, pl, sv, false, aAt, aX, why⟩)) bp bf 1 x pl aAt aX why w pd (by intro z hz; simp at hz; omega) (fun _ _ => by kernel_rfl) (GG.cl hfl hcl hwl hpl hul) ?_
  intro W hF
  refine (move_put_miss bp bf bc bw size l (M.w64 (pl + 1)) x _ pl false aAt aX why (l.getD 0 0) W (h.fr0 hF) (pd.fr hF (by simp)) rfl (getD_some (by have := h.n; have := h.lo; omega)) hs).mono ?_
  rintro e w' ⟨rfl, hP, hR⟩
  have hG : GG bf bc bw bp size (l) (⟨1, x, 0, pl, sv, false, aAt, aX, why⟩) w' := ⟨(h.fr0 hF).fr hR (by simp; omega) (by simp; omega) (by simp; omega) (by simp; omega), ⟨⟨0, 0, hP, fun _ h4 => by cases h4⟩, ⟨ok.k, ok.x, ok.pl, by simp, fun h3 => by cases h3⟩⟩⟩
  exact ⟨⟨_, _, _, _, _, rfl⟩, hG, hG.b, hR.mono (by simp)⟩
theorem sm_put (bf bc bw bp size : Nat) (l : List Int) (x pl sv aAt aX why : Int) (w : World) (h : Fd w bf bc bw size l) (q : PM w bp bf size ⟨1, x, 3, pl, sv, false, aAt, aX, why⟩) (hw : M.Words l) :
    Calls Tryd.prog 12 #[.pointer (some ⟨bp, 0, none⟩)] w fun e w' => (∃ v, e = .returned v) ∧ GG bf bc bw bp size (l.set ((M.tcell size pl) + 1) x) (⟨1, x, 4, pl, sv, false, aAt, aX, why⟩) w' ∧ Fr [bp, bw] w w' := by
  have ok := q.ok
  have okpl : 0 ≤ pl ∧ pl < 18446744073709551616 := ok.pl
  obtain ⟨b1, b2, pd, hcap⟩ := q.ex
  have p := pd
  have hpl := p.b.lt
  have hpz := p.z
  have hfl := h.f.lt
  have hcl := h.h.c.lt
  have hwl := h.h.d.lt
  have hfz := h.z
  have hn1 : bf ≠ bp := h.f.ne p.b (by decide)
  have hn2 : bc ≠ bp := h.h.c.ne p.b (by decide)
  have hn3 : bw ≠ bp := h.h.d.ne p.b (by decide)
  have hul := h.h.u.lt
  refine step_any 44 #[] [bp, bw] (GG bf bc bw bp size (l.set ((M.tcell size pl) + 1) x) (⟨1, x, 4, pl, sv, false, aAt, aX, why⟩)) bp bf 1 x pl aAt aX why w pd (by intro z hz; simp at hz; omega) (fun _ _ => by kernel_rfl) (GG.cl hfl hcl hwl hpl hul) ?_
  intro W hF
  refine (put_any bp bf bc bw size l 1 x _ pl false aAt aX why (l.getD ((M.tcell size pl) + 1) 0) W (h.fr0 hF) (pd.fr hF (by simp)) okpl.1 (M.w64 (pl + 1)) rfl (M.tcell size pl) ((M.tcell size pl) + 1) rfl (by simp) (getD_some (by have := h.n; have := tcell_lt h.lo okpl.1; omega))).mono ?_
  rintro e w' ⟨rfl, hFd, hR, c1, c2, hP, hc1, hc2⟩
  have hG : GG bf bc bw bp size (l.set ((M.tcell size pl) + 1) x) (⟨1, x, 4, pl, sv, false, aAt, aX, why⟩) w' := ⟨hFd, ⟨⟨c1, c2, hP, fun _ _ => ⟨hc1, hc2⟩⟩, ⟨ok.k, ok.x, ok.pl, by simp, fun h3 => by cases h3⟩⟩⟩
  exact ⟨⟨_, _, _, _, _, rfl⟩, hG, hG.b, hR.mono (by simp)⟩
theorem sm_last_put (bf bc bw bp size : Nat) (l : List Int) (x pl sv aAt aX why : Int) (w : World) (h : Fd w bf bc bw size l) (q : PM w bp bf size ⟨1, x, 4, pl, sv, false, aAt, aX, why⟩) (hw : M.Words l) :
    Calls Tryd.prog 12 #[.pointer (some ⟨bp, 0, none⟩)] w fun e w' => (∃ v, e = .returned v) ∧ GG bf bc bw bp size (l.set (M.tcell size pl) (M.lastv size ⟨1, x, 4, pl, sv, false, aAt, aX, why⟩)) (⟨1, x, 4, pl, sv, true, pl, (M.lastx ⟨1, x, 4, pl, sv, false, aAt, aX, why⟩), why⟩) w' ∧ Fr [bp, bw] w w' := by
  have ok := q.ok
  have okpl : 0 ≤ pl ∧ pl < 18446744073709551616 := ok.pl
  obtain ⟨b1, b2, pd, hcap⟩ := q.ex
  have p := pd
  have hpl := p.b.lt
  have hpz := p.z
  have hfl := h.f.lt
  have hcl := h.h.c.lt
  have hwl := h.h.d.lt
  have hfz := h.z
  have hn1 : bf ≠ bp := h.f.ne p.b (by decide)
  have hn2 : bc ≠ bp := h.h.c.ne p.b (by decide)
  have hn3 : bw ≠ bp := h.h.d.ne p.b (by decide)
  have hul := h.h.u.lt
  have hb1 := (hcap (by simp) rfl).1
  have hb2 := (hcap (by simp) rfl).2
  have n1 : b1 ≠ bp := hb1.ne pd.b (by decide)
  have n2 : b2 ≠ bp := hb2.ne pd.b (by decide)
  have n3 : b1 ≠ bw := hb1.ne h.h.d (by decide)
  have n4 : b2 ≠ bw := hb2.ne h.h.d (by decide)
  refine step_any 55 #[.pointer (some ⟨b1, 0, none⟩), .pointer (some ⟨b2, 0, none⟩)] [bp, bw] (GG bf bc bw bp size (l.set (M.tcell size pl) (M.lastv size ⟨1, x, 4, pl, sv, false, aAt, aX, why⟩)) (⟨1, x, 4, pl, sv, true, pl, (M.lastx ⟨1, x, 4, pl, sv, false, aAt, aX, why⟩), why⟩)) bp bf 1 x pl aAt aX why w pd (by intro z hz; simp at hz; omega) (fun _ _ => by kernel_rfl) (GG.cl hfl hcl hwl hpl hul) ?_
  intro W hF
  refine (last1_any bp bf bc bw size l 1 x _ pl false aAt aX why (l.getD (M.tcell size pl) 0) W (h.fr0 hF) (pd.fr hF (by simp)) b1 b2 (M.lastv size ⟨1, x, 4, pl, sv, false, aAt, aX, why⟩) pl (M.lastx ⟨1, x, 4, pl, sv, false, aAt, aX, why⟩) (hF.blk hb1 (by simp)) (hF.blk hb2 (by simp)) okpl.1 (M.tcell size pl) rfl (getD_some (by have := h.n; have := tcell_lt h.lo okpl.1; omega))).mono ?_
  rintro e w' ⟨rfl, hFd, hP, hR⟩
  have hG : GG bf bc bw bp size (l.set (M.tcell size pl) (M.lastv size ⟨1, x, 4, pl, sv, false, aAt, aX, why⟩)) (⟨1, x, 4, pl, sv, true, pl, (M.lastx ⟨1, x, 4, pl, sv, false, aAt, aX, why⟩), why⟩) w' := ⟨hFd, ⟨⟨b1, b2, hP, fun _ _ => ⟨(hR.blk (hF.blk hb1 (by simp)) (by simp; omega)), (hR.blk (hF.blk hb2 (by simp)) (by simp; omega))⟩⟩, ⟨ok.k, ok.x, ok.pl, by simp, fun h3 => by cases h3⟩⟩⟩
  exact ⟨⟨_, _, _, _, _, rfl⟩, hG, hG.b, hR.mono (by simp)⟩
theorem sm_look_take (bf bc bw bp size : Nat) (l : List Int) (x pl sv aAt aX why : Int) (w : World) (h : Fd w bf bc bw size l) (q : PM w bp bf size ⟨2, x, 0, pl, sv, false, aAt, aX, why⟩) (hw : M.Words l) :
    Calls Tryd.prog 12 #[.pointer (some ⟨bp, 0, none⟩)] w fun e w' => (∃ v, e = .returned v) ∧ GG bf bc bw bp size (l) (⟨2, x, 1, l.getD 1 0, sv, false, aAt, aX, why⟩) w' ∧ Fr [bp, bw] w w' := by
  have ok := q.ok
  have okpl : 0 ≤ pl ∧ pl < 18446744073709551616 := ok.pl
  obtain ⟨b1, b2, pd, hcap⟩ := q.ex
  have p := pd
  have hpl := p.b.lt
  have hpz := p.z
  have hfl := h.f.lt
  have hcl := h.h.c.lt
  have hwl := h.h.d.lt
  have hfz := h.z
  have hn1 : bf ≠ bp := h.f.ne p.b (by decide)
  have hn2 : bc ≠ bp := h.h.c.ne p.b (by decide)
  have hn3 : bw ≠ bp := h.h.d.ne p.b (by decide)
  have hul := h.h.u.lt
  refine step_any 23 #[] [bp, bw] (GG bf bc bw bp size (l) (⟨2, x, 1, l.getD 1 0, sv, false, aAt, aX, why⟩)) bp bf 2 x pl aAt aX why w pd (by intro z hz; simp at hz; omega) (fun _ _ => by kernel_rfl) (GG.cl hfl hcl hwl hpl hul) ?_
  intro W hF
  refine (look_take bp bf bc bw size l 2 x _ pl false aAt aX why (l.getD 1 0) W (h.fr0 hF) (pd.fr hF (by simp)) (by decide) (getD_some (by have := h.n; have := h.lo; omega))).mono ?_
  rintro e w' ⟨rfl, hP, hR⟩
  have hG : GG bf bc bw bp size (l) (⟨2, x, 1, l.getD 1 0, sv, false, aAt, aX, why⟩) w' := ⟨(h.fr0 hF).fr hR (by simp; omega) (by simp; omega) (by simp; omega) (by simp; omega), ⟨⟨0, 0, hP, fun _ h4 => by cases h4⟩, ⟨ok.k, ok.x, hw 1, by simp, fun h3 => by cases h3⟩⟩⟩
  exact ⟨⟨_, _, _, _, _, rfl⟩, hG, hG.b, hR.mono (by simp)⟩
theorem sm_wait_take_lt (bf bc bw bp size : Nat) (l : List Int) (x pl sv aAt aX why : Int) (w : World) (h : Fd w bf bc bw size l) (q : PM w bp bf size ⟨2, x, 1, pl, sv, false, aAt, aX, why⟩) (hw : M.Words l) (hs : (l.getD (M.tcell size pl) 0) < (M.w64 (pl + 1))) :
    Calls Tryd.prog 12 #[.pointer (some ⟨bp, 0, none⟩)] w fun e w' => (∃ v, e = .returned v) ∧ GG bf bc bw bp size (l) (⟨2, x, 1, pl, sv, true, aAt, aX, 110⟩) w' ∧ Fr [bp, bw] w w' := by
  have ok := q.ok
  have okpl : 0 ≤ pl ∧ pl < 18446744073709551616 := ok.pl
  obtain ⟨b1, b2, pd, hcap⟩ := q.ex
  have p := pd
  have hpl := p.b.lt
  have hpz := p.z
  have hfl := h.f.lt
  have hcl := h.h.c.lt
  have hwl := h.h.d.lt
  have hfz := h.z
  have hn1 : bf ≠ bp := h.f.ne p.b (by decide)
  have hn2 : bc ≠ bp := h.h.c.ne p.b (by decide)
  have hn3 : bw ≠ bp := h.h.d.ne p.b (by decide)
  have hul := h.h.u.lt
  refine step_any 33 #[] [bp, bw] (GG bf bc bw bp size (l) (⟨2, x, 1, pl, sv, true, aAt, aX, 110⟩)) bp bf 2 x pl aAt aX why w pd (by intro z hz; simp at hz; omega) (fun _ _ => by kernel_rfl) (GG.cl hfl hcl hwl hpl hul) ?_
  intro W hF
  refine (wait_take_lt bp bf bc bw size l 2 (M.w64 (pl + 1)) x _ pl false aAt aX why (l.getD (M.tcell size pl) 0) W (h.fr0 hF) (pd.fr hF (by simp)) (by decide) rfl okpl.1 okpl.2 _ rfl (getD_some (by have := h.n; have := tcell_lt h.lo okpl.1; omega)) hs).mono ?_
  rintro e w' ⟨rfl, hP, hR⟩
  have hG : GG bf bc bw bp size (l) (⟨2, x, 1, pl, sv, true, aAt, aX, 110⟩) w' := ⟨(h.fr0 hF).fr hR (by simp; omega) (by simp; omega) (by simp; omega) (by simp; omega), ⟨⟨0, 0, hP, fun _ h4 => by cases h4⟩, ⟨ok.k, ok.x, ok.pl, by simp, fun h3 => by cases h3⟩⟩⟩
  exact ⟨⟨_, _, _, _, _, rfl⟩, hG, hG.b, hR.mono (by simp)⟩
theorem sm_wait_take_gt (bf bc bw bp size : Nat) (l : List Int) (x pl sv aAt aX why : Int) (w : World) (h : Fd w bf bc bw size l) (q : PM w bp bf size ⟨2, x, 1, pl, sv, false, aAt, aX, why⟩) (hw : M.Words l) (hs : (M.w64 (pl + 1)) < (l.getD (M.tcell size pl) 0)) :
    Calls Tryd.prog 12 #[.pointer (some ⟨bp, 0, none⟩)] w fun e w' => (∃ v, e = .returned v) ∧ GG bf bc bw bp size (l) (⟨2, x, 0, pl, sv, false, aAt, aX, why⟩) w' ∧ Fr [bp, bw] w w' := by
  have ok := q.ok
  have okpl : 0 ≤ pl ∧ pl < 18446744073709551616 := ok.pl
  obtain ⟨b1, b2, pd, hcap⟩ := q.ex
  have p := pd
  have hpl := p.b.lt
  have hpz := p.z
  have hfl := h.f.lt
  have hcl := h.h.c.lt
  have hwl := h.h.d.lt
  have hfz := h.z
  have hn1 : bf ≠ bp := h.f.ne p.b (by decide)
  have hn2 : bc ≠ bp := h.h.c.ne p.b (by decide)
  have hn3 : bw ≠ bp := h.h.d.ne p.b (by decide)
  have hul := h.h.u.lt
  refine step_any 33 #[] [bp, bw] (GG bf bc bw bp size (l) (⟨2, x, 0, pl, sv, false, aAt, aX, why⟩)) bp bf 2 x pl aAt aX why w pd (by intro z hz; simp at hz; omega) (fun _ _ => by kernel_rfl) (GG.cl hfl hcl hwl hpl hul) ?_
  intro W hF
  refine (wait_take_gt bp bf bc bw size l 2 (M.w64 (pl + 1)) x _ pl false aAt aX why (l.getD (M.tcell size pl) 0) W (h.fr0 hF) (pd.fr hF (by simp)) (by decide) rfl okpl.1 okpl.2 _ rfl (getD_some (by have := h.n; have := tcell_lt h.lo okpl.1; omega)) hs).mono ?_
  rintro e w' ⟨rfl, hP, hR⟩
  have hG : GG bf bc bw bp size (l) (⟨2, x, 0, pl, sv, false, aAt, aX, why⟩) w' := ⟨(h.fr0 hF).fr hR (by simp; omega) (by simp; omega) (by simp; omega) (by simp; omega), ⟨⟨0, 0, hP, fun _ h4 => by cases h4⟩, ⟨ok.k, ok.x, ok.pl, by simp, fun h3 => by cases h3⟩⟩⟩
  exact ⟨⟨_, _, _, _, _, rfl⟩, hG, hG.b, hR.mono (by simp)⟩
theorem sm_wait_take_eq (bf bc bw bp size : Nat) (l : List Int) (x pl sv aAt aX why : Int) (w : World) (h : Fd w bf bc bw size l) (q : PM w bp bf size ⟨2, x, 1, pl, sv, false, aAt, aX, why⟩) (hw : M.Words l) (hs : (l.getD (M.tcell size pl) 0) = (M.w64 (pl + 1))) :
    Calls Tryd.prog 12 #[.pointer (some ⟨bp, 0, none⟩)] w fun e w' => (∃ v, e = .returned v) ∧ GG bf bc bw bp size (l) (⟨2, x, 2, pl, sv, false, aAt, aX, why⟩) w' ∧ Fr [bp, bw] w w' := by
  have ok := q.ok
  have okpl : 0 ≤ pl ∧ pl < 18446744073709551616 := ok.pl
  obtain ⟨b1, b2, pd, hcap⟩ := q.ex
  have p := pd
  have hpl := p.b.lt
  have hpz := p.z
  have hfl := h.f.lt
  have hcl := h.h.c.lt
  have hwl := h.h.d.lt
  have hfz := h.z
  have hn1 : bf ≠ bp := h.f.ne p.b (by decide)
  have hn2 : bc ≠ bp := h.h.c.ne p.b (by decide)
  have hn3 : bw ≠ bp := h.h.d.ne p.b (by decide)
  have hul := h.h.u.lt
  refine step_any 33 #[] [bp, bw] (GG bf bc bw bp size (l) (⟨2, x, 2, pl, sv, false, aAt, aX, why⟩)) bp bf 2 x pl aAt aX why w pd (by intro z hz; simp at hz; omega) (fun _ _ => by kernel_rfl) (GG.cl hfl hcl hwl hpl hul) ?_
  intro W hF
  refine (wait_take_eq bp bf bc bw size l 2 (M.w64 (pl + 1)) x _ pl false aAt aX why (l.getD (M.tcell size pl) 0) W (h.fr0 hF) (pd.fr hF (by simp)) (by decide) rfl okpl.1 okpl.2 _ rfl (getD_some (by have := h.n; have := tcell_lt h.lo okpl.1; omega)) hs).mono ?_
  rintro e w' ⟨rfl, hP, hR⟩
  have hG : GG bf bc bw bp size (l) (⟨2, x, 2, pl, sv, false, aAt, aX, why⟩) w' := ⟨(h.fr0 hF).fr hR (by simp; omega) (by simp; omega) (by simp; omega) (by simp; omega), ⟨⟨0, 0, hP, fun _ h4 => by cases h4⟩, ⟨ok.k, ok.x, ok.pl, by simp, fun h3 => by cases h3⟩⟩⟩
  exact ⟨⟨_, _, _, _, _, rfl⟩, hG, hG.b, hR.mono (by simp)⟩
theorem sm_move_take_hit (bf bc bw bp size : Nat) (l : List Int) (x pl sv aAt aX why : Int) (w : World) (h : Fd w bf bc bw size l) (q : PM w bp bf size ⟨2, x, 2, pl, sv, false, aAt, aX, why⟩) (hw : M.Words l) (hs : (l.getD 1 0) = pl) :
    Calls Tryd.prog 12 #[.pointer (some ⟨bp, 0, none⟩)] w fun e w' => (∃ v, e = .returned v) ∧ GG bf bc bw bp size (l.set 1 (M.w64 (pl + 1))) (⟨2, x, 3, pl, sv, false, aAt, aX, why⟩) w' ∧ Fr [bp, bw] w w' := by
  have ok := q.ok
  have okpl : 0 ≤ pl ∧ pl < 18446744073709551616 := ok.pl
  obtain ⟨b1, b2, pd, hcap⟩ := q.ex
  have p := pd
  have hpl := p.b.lt
  have hpz := p.z
  have hfl := h.f.lt
  have hcl := h.h.c.lt
  have hwl := h.h.d.lt
  have hfz := h.z
  have hn1 : bf ≠ bp := h.f.ne p.b (by decide)
  have hn2 : bc ≠ bp := h.h.c.ne p.b (by decide)
  have hn3 : bw ≠ bp := h.h.d.ne p.b (by decide)
  have hul := h.h.u.lt
  refine step_any 42 #[] [bp, bw] (GG bf bc bw bp size (l.set 1 (M.w64 (pl + 1))) (⟨2, x, 3, pl, sv, false, aAt, aX, why⟩)) bp bf 2 x pl aAt aX why w pd (by intro z hz; simp at hz; omega) (fun _ _ => by kernel_rfl) (GG.cl hfl hcl hwl hpl hul) ?_
  intro W hF
  refine (move_take_hit bp bf bc bw size l 2 (M.w64 (pl + 1)) x _ pl false aAt aX why W (h.fr0 hF) (pd.fr hF (by simp)) (by decide) rfl (hs ▸ (getD_some (by have := h.n; have := h.lo; omega)))).mono ?_
  rintro e w' ⟨rfl, hFd, hP, hR⟩
  have hG : GG bf bc bw bp size (l.set 1 (M.w64 (pl + 1))) (⟨2, x, 3, pl, sv, false, aAt, aX, why⟩) w' := ⟨hFd, ⟨⟨0, 0, hP, fun _ h4 => by cases h4⟩, ⟨ok.k, ok.x, ok.pl, by simp, fun h3 => by cases h3⟩⟩⟩
  exact ⟨⟨_, _, _, _, _, rfl⟩, hG, hG.b, hR.mono (by simp)⟩
theorem sm_move_take_miss (bf bc bw bp size : Nat) (l : List Int) (x pl sv aAt aX why : Int) (w : World) (h : Fd w bf bc bw size l) (q : PM w bp bf size ⟨2, x, 2, pl, sv, false, aAt, aX, why⟩) (hw : M.Words l) (hs : ¬ (l.getD 1 0) = pl) :
    Calls Tryd.prog 12 #[.pointer (some ⟨bp, 0, none⟩)] w fun e w' => (∃ v, e = .returned v) ∧ GG bf bc bw bp size (l) (⟨2, x, 0, pl, sv, false, aAt, aX, why⟩) w' ∧ Fr [bp, bw] w w' := by
  have ok := q.ok
  have okpl : 0 ≤ pl ∧ pl < 18446744073709551616 := ok.pl
  obtain ⟨b1, b2, pd, hcap⟩ := q.ex
  have p := pd
  have hpl := p.b.lt
  have hpz := p.z
  have hfl := h.f.lt
  have hcl := h.h.c.lt
  have hwl := h.h.d.lt
  have hfz := h.z
  have hn1 : bf ≠ bp := h.f.ne p.b (by decide)
  have hn2 : bc ≠ bp := h.h.c.ne p.b (by decide)
  have hn3 : bw ≠ bp := h.h.d.ne p.b (by decide)
  have hul := h.h.u.lt
  refine step_any 42 #[] [bp, bw] (GG bf bc bw bp size (l) (⟨2, x, 0, pl, sv, false, aAt, aX, why⟩)) bp bf 2 x pl aAt aX why w pd (by intro z hz; simp at hz; omega) (fun _ _ => by kernel_rfl) (GG.cl hfl hcl hwl hpl hul) ?_
  intro W hF
  refine (move_take_miss bp bf bc bw size l 2 (M.w64 (pl + 1)) x _ pl false aAt aX why (l.getD 1 0) W (h.fr0 hF) (pd.fr hF (by simp)) (by decide) rfl (getD_some (by have := h.n; have := h.lo; omega)) hs).mono ?_
  rintro e w' ⟨rfl, hP, hR⟩
  have hG : GG bf bc bw bp size (l) (⟨2, x, 0, pl, sv, false, aAt, aX, why⟩) w' := ⟨(h.fr0 hF).fr hR (by simp; omega) (by simp; omega) (by simp; omega) (by simp; omega), ⟨⟨0, 0, hP, fun _ h4 => by cases h4⟩, ⟨ok.k, ok.x, ok.pl, by simp, fun h3 => by cases h3⟩⟩⟩
  exact ⟨⟨_, _, _, _, _, rfl⟩, hG, hG.b, hR.mono (by simp)⟩
theorem sm_take (bf bc bw bp size : Nat) (l : List Int) (x pl sv aAt aX why : Int) (w : World) (h : Fd w bf bc bw size l) (q : PM w bp bf size ⟨2, x, 3, pl, sv, false, aAt, aX, why⟩) (hw : M.Words l) :
    Calls Tryd.prog 12 #[.pointer (some ⟨bp, 0, none⟩)] w fun e w' => (∃ v, e = .returned v) ∧ GG bf bc bw bp size (l) (⟨2, x, 4, pl, (l.getD ((M.tcell size pl) + 1) 0), false, aAt, aX, why⟩) w' ∧ Fr [bp, bw] w w' := by
  have ok := q.ok
  have okpl : 0 ≤ pl ∧ pl < 18446744073709551616 := ok.pl
  obtain ⟨b1, b2, pd, hcap⟩ := q.ex
  have p := pd
  have hpl := p.b.lt
  have hpz := p.z
  have hfl := h.f.lt
  have hcl := h.h.c.lt
  have hwl := h.h.d.lt
  have hfz := h.z
  have hn1 : bf ≠ bp := h.f.ne p.b (by decide)
  have hn2 : bc ≠ bp := h.h.c.ne p.b (by decide)
  have hn3 : bw ≠ bp := h.h.d.ne p.b (by decide)
  have hul := h.h.u.lt
  refine step_any 45 #[] [bp, bw] (GG bf bc bw bp size (l) (⟨2, x, 4, pl, (l.getD ((M.tcell size pl) + 1) 0), false, aAt, aX, why⟩)) bp bf 2 x pl aAt aX why w pd (by intro z hz; simp at hz; omega) (fun _ _ => by kernel_rfl) (GG.cl hfl hcl hwl hpl hul) ?_
  intro W hF
  refine (take_any bp bf bc bw size l 2 x _ pl false aAt aX why (l.getD ((M.tcell size pl) + 1) 0) W (h.fr0 hF) (pd.fr hF (by simp)) okpl.1 (M.w64 (pl + size)) rfl (M.tcell size pl) ((M.tcell size pl) + 1) rfl (by simp) (getD_some (by have := h.n; have := tcell_lt h.lo okpl.1; omega))).mono ?_
  rintro e w' ⟨rfl, hR, c1, c2, hP, hc1, hc2⟩
  have hG : GG bf bc bw bp size (l) (⟨2, x, 4, pl, (l.getD ((M.tcell size pl) + 1) 0), false, aAt, aX, why⟩) w' := ⟨(h.fr0 hF).fr hR (by simp; omega) (by simp; omega) (by simp; omega) (by simp; omega), ⟨⟨c1, c2, hP, fun _ _ => ⟨hc1, hc2⟩⟩, ⟨ok.k, ok.x, ok.pl, by simp, fun h3 => by cases h3⟩⟩⟩
  exact ⟨⟨_, _, _, _, _, rfl⟩, hG, hG.b, hR.mono (by simp)⟩
theorem sm_last_take (bf bc bw bp size : Nat) (l : List Int) (x pl sv aAt aX why : Int) (w : World) (h : Fd w bf bc bw size l) (q : PM w bp bf size ⟨2, x, 4, pl, sv, false, aAt, aX, why⟩) (hw : M.Words l) :
    Calls Tryd.prog 12 #[.pointer (some ⟨bp, 0, none⟩)] w fun e w' => (∃ v, e = .returned v) ∧ GG bf bc bw bp size (l.set (M.tcell size pl) (M.lastv size ⟨2, x, 4, pl, sv, false, aAt, aX, why⟩)) (⟨2, x, 4, pl, sv, true, pl, (M.lastx ⟨2, x, 4, pl, sv, false, aAt, aX, why⟩), why⟩) w' ∧ Fr [bp, bw] w w' := by
  have ok := q.ok
  have okpl : 0 ≤ pl ∧ pl < 18446744073709551616 := ok.pl
  obtain ⟨b1, b2, pd, hcap⟩ := q.ex
  have p := pd
  have hpl := p.b.lt
  have hpz := p.z
  have hfl := h.f.lt
  have hcl := h.h.c.lt
  have hwl := h.h.d.lt
  have hfz := h.z
  have hn1 : bf ≠ bp := h.f.ne p.b (by decide)
  have hn2 : bc ≠ bp := h.h.c.ne p.b (by decide)
  have hn3 : bw ≠ bp := h.h.d.ne p.b (by decide)
  have hul := h.h.u.lt
  have hb1 := (hcap (by simp) rfl).1
  have hb2 := (hcap (by simp) rfl).2
  have n1 : b1 ≠ bp := hb1.ne pd.b (by decide)
  have n2 : b2 ≠ bp := hb2.ne pd.b (by decide)
  have n3 : b1 ≠ bw := hb1.ne h.h.d (by decide)
  have n4 : b2 ≠ bw := hb2.ne h.h.d (by decide)
  refine step_any 55 #[.pointer (some ⟨b1, 0, none⟩), .pointer (some ⟨b2, 0, none⟩)] [bp, bw] (GG bf bc bw bp size (l.set (M.tcell size pl) (M.lastv size ⟨2, x, 4, pl, sv, false, aAt, aX, why⟩)) (⟨2, x, 4, pl, sv, true, pl, (M.lastx ⟨2, x, 4, pl, sv, false, aAt, aX, why⟩), why⟩)) bp bf 2 x pl aAt aX why w pd (by intro z hz; simp at hz; omega) (fun _ _ => by kernel_rfl) (GG.cl hfl hcl hwl hpl hul) ?_
  intro W hF
  refine (last1_any bp bf bc bw size l 2 x _ pl false aAt aX why (l.getD (M.tcell size pl) 0) W (h.fr0 hF) (pd.fr hF (by simp)) b1 b2 (M.lastv size ⟨2, x, 4, pl, sv, false, aAt, aX, why⟩) pl (M.lastx ⟨2, x, 4, pl, sv, false, aAt, aX, why⟩) (hF.blk hb1 (by simp)) (hF.blk hb2 (by simp)) okpl.1 (M.tcell size pl) rfl (getD_some (by have := h.n; have := tcell_lt h.lo okpl.1; omega))).mono ?_
  rintro e w' ⟨rfl, hFd, hP, hR⟩
  have hG : GG bf bc bw bp size (l.set (M.tcell size pl) (M.lastv size ⟨2, x, 4, pl, sv, false, aAt, aX, why⟩)) (⟨2, x, 4, pl, sv, true, pl, (M.lastx ⟨2, x, 4, pl, sv, false, aAt, aX, why⟩), why⟩) w' := ⟨hFd, ⟨⟨b1, b2, hP, fun _ _ => ⟨(hR.blk (hF.blk hb1 (by simp)) (by simp; omega)), (hR.blk (hF.blk hb2 (by simp)) (by simp; omega))⟩⟩, ⟨ok.k, ok.x, ok.pl, by simp, fun h3 => by cases h3⟩⟩⟩
  exact ⟨⟨_, _, _, _, _, rfl⟩, hG, hG.b, hR.mono (by simp)⟩
theorem sm_count (bf bc bw bp size : Nat) (l : List Int) (x pl sv aAt aX why : Int) (w : World) (h : Fd w bf bc bw size l) (q : PM w bp bf size ⟨3, x, 0, pl, sv, false, aAt, aX, why⟩) (hw : M.Words l) :
    Calls Tryd.prog 12 #[.pointer (some ⟨bp, 0, none⟩)] w fun e w' => (∃ v, e = .returned v) ∧ GG bf bc bw bp size (l) (⟨3, x, 1, l.getD 1 0, sv, false, aAt, aX, why⟩) w' ∧ Fr [bp, bw] w w' := by
  have ok := q.ok
  have okpl : 0 ≤ pl ∧ pl < 18446744073709551616 := ok.pl
  obtain ⟨b1, b2, pd, hcap⟩ := q.ex
  have p := pd
  have hpl := p.b.lt
  have hpz := p.z
  have hfl := h.f.lt
  have hcl := h.h.c.lt
  have hwl := h.h.d.lt
  have hfz := h.z
  have hn1 : bf ≠ bp := h.f.ne p.b (by decide)
  have hn2 : bc ≠ bp := h.h.c.ne p.b (by decide)
  have hn3 : bw ≠ bp := h.h.d.ne p.b (by decide)
  have hul := h.h.u.lt
  refine step_any 24 #[] [bp, bw] (GG bf bc bw bp size (l) (⟨3, x, 1, l.getD 1 0, sv, false, aAt, aX, why⟩)) bp bf 3 x pl aAt aX why w pd (by intro z hz; simp at hz; omega) (fun _ _ => by kernel_rfl) (GG.cl hfl hcl hwl hpl hul) ?_
  intro W hF
  refine (count_any bp bf bc bw size l 3 x _ pl false aAt aX why (l.getD 1 0) W (h.fr0 hF) (pd.fr hF (by simp)) (getD_some (by have := h.n; have := h.lo; omega))).mono ?_
  rintro e w' ⟨rfl, hP, hR⟩
  have hG : GG bf bc bw bp size (l) (⟨3, x, 1, l.getD 1 0, sv, false, aAt, aX, why⟩) w' := ⟨(h.fr0 hF).fr hR (by simp; omega) (by simp; omega) (by simp; omega) (by simp; omega), ⟨⟨0, 0, hP, fun h3 => absurd rfl h3⟩, ⟨ok.k, ok.x, hw 1, by simp, fun _ => by simp⟩⟩⟩
  exact ⟨⟨_, _, _, _, _, rfl⟩, hG, hG.b, hR.mono (by simp)⟩
theorem sm_count1_lo (bf bc bw bp size : Nat) (l : List Int) (x pl sv aAt aX why : Int) (w : World) (h : Fd w bf bc bw size l) (q : PM w bp bf size ⟨3, x, 1, pl, sv, false, aAt, aX, why⟩) (hw : M.Words l) (hs : M.w64 (l.getD 0 0 - pl) ≤ size) :
    Calls Tryd.prog 12 #[.pointer (some ⟨bp, 0, none⟩)] w fun e w' => (∃ v, e = .returned v) ∧ GG bf bc bw bp size (l) (⟨3, x, 1, pl, sv, true, 0, (M.w64 (l.getD 0 0 - pl)), why⟩) w' ∧ Fr [bp, bw] w w' := by
  have ok := q.ok
  have okpl : 0 ≤ pl ∧ pl < 18446744073709551616 := ok.pl
  obtain ⟨b1, b2, pd, hcap⟩ := q.ex
  have p := pd
  have hpl := p.b.lt
  have hpz := p.z
  have hfl := h.f.lt
  have hcl := h.h.c.lt
  have hwl := h.h.d.lt
  have hfz := h.z
  have hn1 : bf ≠ bp := h.f.ne p.b (by decide)
  have hn2 : bc ≠ bp := h.h.c.ne p.b (by decide)
  have hn3 : bw ≠ bp := h.h.d.ne p.b (by decide)
  have hul := h.h.u.lt
  refine step_any 34 #[] [bp, bw] (GG bf bc bw bp size (l) (⟨3, x, 1, pl, sv, true, 0, (M.w64 (l.getD 0 0 - pl)), why⟩)) bp bf 3 x pl aAt aX why w pd (by intro z hz; simp at hz; omega) (fun _ _ => by kernel_rfl) (GG.cl hfl hcl hwl hpl hul) ?_
  intro W hF
  refine (count1_lo bp bf bc bw size l 3 x _ pl false aAt aX why (l.getD 0 0) W (h.fr0 hF) (pd.fr hF (by simp)) (M.w64 (l.getD 0 0 - pl)) rfl hs (getD_some (by have := h.n; have := h.lo; omega))).mono ?_
  rintro e w' ⟨rfl, hP, hR⟩
  have hG : GG bf bc bw bp size (l) (⟨3, x, 1, pl, sv, true, 0, (M.w64 (l.getD 0 0 - pl)), why⟩) w' := ⟨(h.fr0 hF).fr hR (by simp; omega) (by simp; omega) (by simp; omega) (by simp; omega), ⟨⟨0, 0, hP, fun h3 => absurd rfl h3⟩, ⟨ok.k, ok.x, ok.pl, by simp, fun _ => by simp⟩⟩⟩
  exact ⟨⟨_, _, _, _, _, rfl⟩, hG, hG.b, hR.mono (by simp)⟩
theorem sm_count1_hi (bf bc bw bp size : Nat) (l : List Int) (x pl sv aAt aX why : Int) (w : World) (h : Fd w bf bc bw size l) (q : PM w bp bf size ⟨3, x, 1, pl, sv, false, aAt, aX, why⟩) (hw : M.Words l) (hs : (size : Int) < M.w64 (l.getD 0 0 - pl)) :
    Calls Tryd.prog 12 #[.pointer (some ⟨bp, 0, none⟩)] w fun e w' => (∃ v, e = .returned v) ∧ GG bf bc bw bp size (l) (⟨3, x, 1, pl, sv, true, 0, (size : Int), why⟩) w' ∧ Fr [bp, bw] w w' := by
  have ok := q.ok
  have okpl : 0 ≤ pl ∧ pl < 18446744073709551616 := ok.pl
  obtain ⟨b1, b2, pd, hcap⟩ := q.ex
  have p := pd
  have hpl := p.b.lt
  have hpz := p.z
  have hfl := h.f.lt
  have hcl := h.h.c.lt
  have hwl := h.h.d.lt
  have hfz := h.z
  have hn1 : bf ≠ bp := h.f.ne p.b (by decide)
  have hn2 : bc ≠ bp := h.h.c.ne p.b (by decide)
  have hn3 : bw ≠ bp := h.h.d.ne p.b (by decide)
  have hul := h.h.u.lt
  refine step_any 34 #[] [bp, bw] (GG bf bc bw bp size (l) (⟨3, x, 1, pl, sv, true, 0, (size : Int), why⟩)) bp bf 3 x pl aAt aX why w pd (by intro z hz; simp at hz; omega) (fun _ _ => by kernel_rfl) (GG.cl hfl hcl hwl hpl hul) ?_
  intro W hF
  refine (count1_hi bp bf bc bw size l 3 x _ pl false aAt aX why (l.getD 0 0) W (h.fr0 hF) (pd.fr hF (by simp)) (M.w64 (l.getD 0 0 - pl)) rfl hs (getD_some (by have := h.n; have := h.lo; omega))).mono ?_
  rintro e w' ⟨rfl, hP, hR⟩
  have hG : GG bf bc bw bp size (l) (⟨3, x, 1, pl, sv, true, 0, (size : Int), why⟩) w' := ⟨(h.fr0 hF).fr hR (by simp; omega) (by simp; omega) (by simp; omega) (by simp; omega), ⟨⟨0, 0, hP, fun h3 => absurd rfl h3⟩, ⟨ok.k, ok.x, ok.pl, by simp, fun _ => by simp⟩⟩⟩
  exact ⟨⟨_, _, _, _, _, rfl⟩, hG, hG.b, hR.mono (by simp)⟩
end Go.Proofs.YthkmknnajbpjfaaDoor
