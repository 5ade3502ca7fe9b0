/- The package delta: (*Sender).Send. -/
import Derived.Test.YtmilnhicmeblhaaSd
import Derived.Test.YtmilnhicmeblhaaStepSv
import Derived.Deep.RegionLaw
namespace Go.Proofs.Ytmilnhicmeblhaa
open Go.RowKit Go.Sort
set_option maxRecDepth 100000
set_option linter.unusedVariables false
set_option linter.unusedSimpArgs false
set_option maxHeartbeats 8000000
abbrev pu0 : Value := .agg #[.string (⟨#[]⟩ : ByteArray), .int .u64 0, .slice none 0 0]
theorem send_nil (v : Value) (w : World) (a : Option Addr) (n c : Nat) (hv : v = .slice a n c) :
    Calls Try.prog 28 #[.pointer none, v] w fun e w' => e = .returned (.tuple #[pu0, .int .i64 1]) ∧ Fr [] w w' := by
  subst hv
  go_enter Try.func28, Try.ntmps28
  go_wp2
  refine bodyPost_named ?_
  intro wy hwy
  have HCy := Lib.hid (show Blk wy w.heap.size #[.string (⟨#[]⟩ : ByteArray), .int .u64 0, .slice none 0 0] 50 from by rw [← hwy]; exact Blk.new _ _ _)
  have HFy := Lib.hid (show Fr [] w wy from by rw [← hwy]; repeat' (first | (with_reducible exact Fr.refl _ _) | (with_reducible refine Fr.drew ?_) | (with_reducible refine Fr.drN ?_ _) | (with_reducible refine Fr.alloc ?_ _) | (with_reducible refine Fr.set ?_ ?_ _) | (left; simp; done) | (right; simp; done) | (right; simp; omega)))
  clear hwy
  have hc := HCy.out.cell
  have hl5 := HCy.out.lt
  exact bodyPost_ret (v := .tuple #[pu0, .int .i64 1]) (by simp [results, Try.results28, go_sem, hc, hl5]) rfl ⟨rfl, HFy.out⟩
theorem send_err (F : List Nat) (p : Nat) (s : ByteArray) (num : Int) (vl vw vn : Value) (last now : List Ct) (q : Wq) (w : World) (h : SD w F p s num vl vw last q) (hn : RC w vn now) (mn : now.length ≤ 9223372036854775806) (wn : WC now)
    (he : (diffE last now).2 ≠ 0 ∨ 1024 ≤ q.length) :
    Calls Try.prog 28 #[.pointer (some ⟨p, 0, none⟩), vn] w fun e w' => e = .returned (.tuple #[pu0, .int .i64 (if (diffE last now).2 ≠ 0 then (diffE last now).2 else 3)]) ∧ Fr [] w w' := by
  obtain ⟨na, nc, en⟩ := hn.at_
  obtain ⟨qa, qc, ew⟩ := h.wt.at_
  obtain ⟨la, lc, el⟩ := h.la.at_
  subst en ew el
  have hB := h.bk
  have hLA := h.la.rd
  have wl := h.wl
  have ml : last.length ≤ 9223372036854775806 := by have := (rightC_iff.1 h.rl).2.2; omega
  have hp0 := hB.alloc (.cells #[.string (⟨#[]⟩ : ByteArray), .int .u64 0, .slice none 0 0] 50)
  have G := Lib.hid ((Fr.refl [] w).alloc (.cells #[.string (⟨#[]⟩ : ByteArray), .int .u64 0, .slice none 0 0] 50))
  have GB := Lib.hid (Blk.new w #[.string (⟨#[]⟩ : ByteArray), .int .u64 0, .slice none 0 0] 50)
  have hpc := hp0.cell
  have hpl := hp0.lt
  have HB := Lib.hid hB
  have HL := Lib.hid hLA
  have HN := Lib.hid hn
  have hql : q.length ≤ maxLen := by have := h.wt.capLe; omega
  unfold maxLen at hql
  clear h hn hp0 hB hLA
  obtain ⟨y, hy⟩ : ∃ y, (diffE last now).2 = y := ⟨_, rfl⟩
  have HY := Lib.hid hy
  rw [hy] at he ⊢
  clear hy
  go_enter Try.func28, Try.ntmps28
  by_cases hy0 : y = 0
  · subst hy0
    have hq : 1024 ≤ q.length := by simpa using he
    have hqi : (1024 : Int) ≤ (q.length : Int) := by omega
    clear he
    go_wp2_with ((go_at_call 13); (with_reducible refine (diff_any _ _ last now _ (HL.out.fr0 G.out) (HN.out.fr0 G.out) ml mn wl wn).mono ?_); rw [HY.out]; rintro e w1 hh; obtain ⟨v, rfl, hS, hF⟩ := hh.case; have HS := Lib.hid hS; have HF := Lib.hid hF; obtain ⟨a1, c1, e1⟩ := hS.at_; subst e1; have b1 := hF.blk (HB.out.alloc (.cells #[.string (⟨#[]⟩ : ByteArray), .int .u64 0, .slice none 0 0] 50)) (by simp); have q1 := b1.cell; have q1l := b1.lt; have b2 := hF.blk GB.out (by simp); have HB2 := Lib.hid b2; have q2 := b2.cell; have q2f := b2.free; have q2l := b2.lt; clear hh hS hF b1 b2 hpc hpl)
    refine bodyPost_named ?_
    intro wy hwy
    have HFy := Lib.hid (show Fr [w.heap.size] w1 wy from by rw [← hwy]; repeat' (first | (with_reducible exact Fr.refl _ _) | (with_reducible refine Fr.drew ?_) | (with_reducible refine Fr.drN ?_ _) | (with_reducible refine Fr.alloc ?_ _) | (with_reducible refine Fr.set ?_ ?_ _) | (left; simp; done) | (right; simp; done) | (right; simp; omega)))
    have HCy := Lib.hid (show Blk wy w.heap.size #[.string (⟨#[]⟩ : ByteArray), .int .u64 0, .slice none 0 0] 50 from by rw [← hwy]; exact Blk.cast (cs := (((#[.string (⟨#[]⟩ : ByteArray), .int .u64 0, .slice none 0 0] : Array Value).setIfInBounds 0 (.string (⟨#[]⟩ : ByteArray))).setIfInBounds 1 (.int .u64 0)).setIfInBounds 2 (.slice none 0 0)) (by repeat' (first | (with_reducible exact HB2.out) | (with_reducible refine Blk.drew ?_) | (with_reducible refine Blk.drN ?_ _) | (with_reducible refine Blk.set ?_ _ _) | (with_reducible refine Blk.other ?_ ?_ _) | (with_reducible refine Blk.alloc ?_ _) | (simp; done) | (simp; omega))) (by simp))
    clear hwy
    have hc := HCy.out.cell
    have hl5 := HCy.out.lt
    refine bodyPost_ret (v := .tuple #[pu0, .int .i64 3]) (by simp [results, Try.results28, go_sem, hc, hl5]) rfl ⟨rfl, ?_⟩
    exact ((G.out.trans HF.out).mono (T := [w.heap.size]) (by simp)).trans HFy.out |>.weaken (by intro z hz; simp at hz; right; omega)
  · have hyb : (y == 0) = false := by simpa using hy0
    rw [if_pos hy0]
    clear he
    go_wp2_with ((go_at_call 13); (with_reducible refine (diff_any _ _ last now _ (HL.out.fr0 G.out) (HN.out.fr0 G.out) ml mn wl wn).mono ?_); rw [HY.out]; rintro e w1 hh; obtain ⟨v, rfl, hS, hF⟩ := hh.case; have HS := Lib.hid hS; have HF := Lib.hid hF; obtain ⟨a1, c1, e1⟩ := hS.at_; subst e1; have b2 := hF.blk GB.out (by simp); have HB2 := Lib.hid b2; have q2 := b2.cell; have q2f := b2.free; have q2l := b2.lt; clear hh hS hF b2 hpc hpl)
    refine bodyPost_named ?_
    intro wy hwy
    have HFy := Lib.hid (show Fr [w.heap.size] w1 wy from by rw [← hwy]; repeat' (first | (with_reducible exact Fr.refl _ _) | (with_reducible refine Fr.drew ?_) | (with_reducible refine Fr.drN ?_ _) | (with_reducible refine Fr.alloc ?_ _) | (with_reducible refine Fr.set ?_ ?_ _) | (left; simp; done) | (right; simp; done) | (right; simp; omega)))
    have HCy := Lib.hid (show Blk wy w.heap.size #[.string (⟨#[]⟩ : ByteArray), .int .u64 0, .slice none 0 0] 50 from by rw [← hwy]; exact Blk.cast (cs := (((#[.string (⟨#[]⟩ : ByteArray), .int .u64 0, .slice none 0 0] : Array Value).setIfInBounds 0 (.string (⟨#[]⟩ : ByteArray))).setIfInBounds 1 (.int .u64 0)).setIfInBounds 2 (.slice none 0 0)) (by repeat' (first | (with_reducible exact HB2.out) | (with_reducible refine Blk.drew ?_) | (with_reducible refine Blk.drN ?_ _) | (with_reducible refine Blk.set ?_ _ _) | (with_reducible refine Blk.other ?_ ?_ _) | (with_reducible refine Blk.alloc ?_ _) | (simp; done) | (simp; omega))) (by simp))
    clear hwy
    have hc := HCy.out.cell
    have hl5 := HCy.out.lt
    refine bodyPost_ret (v := .tuple #[pu0, .int .i64 y]) (by simp [results, Try.results28, go_sem, hc, hl5]) rfl ⟨rfl, ?_⟩
    exact ((G.out.trans HF.out).mono (T := [w.heap.size]) (by simp)).trans HFy.out |>.weaken (by intro z hz; simp at hz; right; omega)
/-- What a Send that goes through leaves. -/
def SendPost (F : List Nat) (p : Nat) (s : ByteArray) (num : Int) (vw : Value) (now : List Ct) (q : Wq) (r : List Ch) (w : World) (e : Ending) (w' : World) : Prop :=
  ∃ vl' vw' vc v' F', e = .returned (.tuple #[puV s (num + 1) v', .int .i64 0]) ∧ SD w' F' p s (num + 1) vl' vw' now (q ++ [(num + 1, vc, r)]) ∧ SV w' w.heap.size 4 v' r.length (flat4 r) ∧ (∀ g, v'.ownBlock = some g → g ∉ F') ∧ (∀ g ∈ F', g ∈ F ∨ w.heap.size ≤ g) ∧ Fr (p :: vw.ownBlock.toList) w w'
theorem SendPost.mk {F : List Nat} {p : Nat} {s : ByteArray} {num : Int} {vw : Value} {now : List Ct} {q : Wq} {r : List Ch} {w w' : World} {vl' vw' vc v' : Value} {F' : List Nat}
    (h1 : SD w' F' p s (num + 1) vl' vw' now (q ++ [(num + 1, vc, r)])) (h2 : SV w' w.heap.size 4 v' r.length (flat4 r)) (h3 : ∀ g, v'.ownBlock = some g → g ∉ F') (h4 : ∀ g ∈ F', g ∈ F ∨ w.heap.size ≤ g) (h5 : Fr (p :: vw.ownBlock.toList) w w') :
    SendPost F p s num vw now q r w (.returned (.tuple #[puV s (num + 1) v', .int .i64 0])) w' := ⟨vl', vw', vc, v', F', rfl, h1, h2, h3, h4, h5⟩
theorem send_ok (F : List Nat) (p : Nat) (s : ByteArray) (num : Int) (vl vw vn : Value) (last now : List Ct) (q : Wq) (w : World) (h : SD w F p s num vl vw last q) (hn : RC w vn now) (wn : WC now)
    (he : (diffE last now).2 = 0) (hq : q.length < 1024) (n0 : 0 ≤ num) (n1 : num ≤ 9223372036854775806) (hnp : ∀ g, vn.ownBlock = some g → 0 < now.length → g ≠ p) :
    Calls Try.prog 28 #[.pointer (some ⟨p, 0, none⟩), vn] w (SendPost F p s num vw now q (diffE last now).1 w) := by
  obtain ⟨d1, d2, d3, d4⟩ := diffE_ok he
  have mn := (rightC_iff.1 d2).2.2
  have ml := (rightC_iff.1 d1).2.2
  obtain ⟨r1, r2⟩ := diffE_right h.wl wn
  obtain ⟨c, hc0⟩ : ∃ c, (diffE last now).1 = c := ⟨_, rfl⟩
  have HC0 := Lib.hid hc0
  rw [hc0] at r1 r2 ⊢
  have hcl := (rightH_iff.1 r1).2.2.2
  obtain ⟨na, nc, en⟩ := hn.at_
  obtain ⟨qa, qc, ew⟩ := h.wt.at_
  obtain ⟨la, lc, el⟩ := h.la.at_
  subst en ew el
  have hB := h.bk
  have hLA := h.la.rd
  have wl := h.wl
  have hp0 := hB.alloc (.cells #[.string (⟨#[]⟩ : ByteArray), .int .u64 0, .slice none 0 0] 50)
  have G := Lib.hid ((Fr.refl [] w).alloc (.cells #[.string (⟨#[]⟩ : ByteArray), .int .u64 0, .slice none 0 0] 50))
  have GB := Lib.hid (Blk.new w #[.string (⟨#[]⟩ : ByteArray), .int .u64 0, .slice none 0 0] 50)
  have hpc := hp0.cell
  have hpl := hp0.lt
  have hplw := hB.lt
  have HB := Lib.hid hB
  have HL := Lib.hid hLA
  have HN := Lib.hid hn
  have HY := Lib.hid he
  have HSD := Lib.hid h
  have HR1 := Lib.hid r1
  have HR2 := Lib.hid r2
  have HD2 := Lib.hid d2
  have hqi : ¬ (1024 : Int) ≤ (q.length : Int) := by omega
  have honeC := flat2_one now
  obtain ⟨i0, hi0, hz0, hz1, hz2⟩ := info_parts infoP
  have HNP := Lib.hid hnp
  have HPF := Lib.hid (h.lt p h.pF)
  have hwtF := fun g hg => (h.wtF g hg).2.1
  have HWN := Lib.hid hwtF
  clear h hn hp0 hB hLA he hc0 d1 d2 d3 d4 r1 r2 hnp hwtF
  go_enter Try.func28, Try.ntmps28
  go_upto_region 9 with ((go_at_call 13); (with_reducible refine (diff_any _ _ last now _ (HL.out.fr0 G.out) (HN.out.fr0 G.out) (by omega) (by omega) wl wn).mono ?_); rw [HY.out, HC0.out]; rintro e w1 hh; obtain ⟨v, rfl, hS, hF⟩ := hh.case; have HS := Lib.hid hS; have HF := Lib.hid hF; obtain ⟨a1, c1, e1⟩ := hS.at_; subst e1; have b1 := hF.blk (HB.out.alloc (.cells #[.string (⟨#[]⟩ : ByteArray), .int .u64 0, .slice none 0 0] 50)) (by simp); have HB1 := Lib.hid b1; have q1 := b1.cell; have q1f := b1.free; have q1l := b1.lt; clear hh hS hF b1 hpc hpl)
  refine wp_named ?_
  intro w2 hw2
  have HF2 := Lib.hid (show Fr [p] w w2 from by rw [← hw2]; exact ((G.out.trans HF.out).mono (by simp)).set (p := ⟨p, 1, none⟩) (.inl (by simp)) _)
  have HB2 := Lib.hid (show Blk w2 p #[.string s, .int .u64 (num + 1), .slice la last.length lc, .slice qa q.length qc] 114 from by rw [← hw2]; exact Blk.cast (cs := (#[.string s, .int .u64 num, .slice la last.length lc, .slice qa q.length qc] : Array Value).setIfInBounds 1 (.int .u64 (num + 1))) (by repeat' (first | (with_reducible exact HB1.out) | (with_reducible refine Blk.drew ?_) | (with_reducible refine Blk.drN ?_ _) | (with_reducible refine Blk.set ?_ _ _) | (with_reducible refine Blk.other ?_ ?_ _) | (with_reducible refine Blk.alloc ?_ _) | (simp; done) | (simp; omega))) (by simp))
  have HG2 := Lib.hid (show Blk w2 w.heap.size #[.string (⟨#[]⟩ : ByteArray), .int .u64 0, .slice none 0 0] 50 from by rw [← hw2]; exact (HF.out.blk GB.out (by simp)).other (by simp <;> omega) _)
  have hs1 := HF.out.size
  rw [World.size_alloc] at hs1
  have HS2 := Lib.hid (show SV w2 (w.heap.size + 1) 4 (.slice a1 c.length c1) c.length (flat4 c) from by rw [← hw2]; have h1 := HS.out; rw [World.size_alloc] at h1; exact h1.fr ((Fr.refl [p] w1).set (p := ⟨p, 1, none⟩) (.inl (by simp)) _) (fun g hg hm => by simp at hm; have := (h1.own hg).1; omega))
  have hz2' : w.heap.size + 1 ≤ w2.heap.size := by have := HF2.out.size; rw [← hw2]; simp [World.setCell]; omega
  have HN2 := Lib.hid (HN.out.frp HF2.out (fun g hg h0 hm => by simp at hm; exact HNP.out g hg h0 hm))
  clear hw2 q1 q1f q1l
  have q2 := HB2.out.cell
  have q2f := HB2.out.free
  have q2l := HB2.out.lt
  go_upto_region 10 with ((go_at_call 49); (with_reducible refine (cloneC_any _ _ _ _ HN2.out honeC (by omega)).mono ?_); rintro e w3 ⟨v3, rfl, hS3, hF3⟩; have HS3 := Lib.hid hS3; have HF3 := Lib.hid hF3; obtain ⟨a3, c3, e3⟩ := hS3.at_; subst e3; have b3 := hF3.blk HB2.out (by simp); have HB3 := Lib.hid b3; have q3 := b3.cell; have q3f := b3.free; have q3l := b3.lt; clear hS3 hF3 b3 q2 q2f q2l)
  refine wp_named ?_
  intro w4 hw4
  have HF4 := Lib.hid (show Fr [p] w w4 from by rw [← hw4]; exact (HF2.out.trans (HF3.out.mono (by simp))).set (p := ⟨p, 2, none⟩) (.inl (by simp)) _)
  have HB4 := Lib.hid (show Blk w4 p #[.string s, .int .u64 (num + 1), .slice a3 now.length c3, .slice qa q.length qc] 114 from by rw [← hw4]; exact Blk.cast (cs := (#[.string s, .int .u64 (num + 1), .slice la last.length lc, .slice qa q.length qc] : Array Value).setIfInBounds 2 (.slice a3 now.length c3)) (by repeat' (first | (with_reducible exact HB3.out) | (with_reducible refine Blk.drew ?_) | (with_reducible refine Blk.drN ?_ _) | (with_reducible refine Blk.set ?_ _ _) | (with_reducible refine Blk.other ?_ ?_ _) | (with_reducible refine Blk.alloc ?_ _) | (simp; done) | (simp; omega))) (by simp))
  have F34 := (HF3.out.mono (T := [p]) (by simp)).trans ((Fr.refl [p] w3).set (p := ⟨p, 2, none⟩) (.inl (by simp)) (.slice a3 now.length c3))
  have HG4 := Lib.hid (show Blk w4 w.heap.size #[.string (⟨#[]⟩ : ByteArray), .int .u64 0, .slice none 0 0] 50 from by rw [← hw4]; exact F34.blk HG2.out (by simp <;> omega))
  have HS4 := Lib.hid (show SV w4 (w.heap.size + 1) 4 (.slice a1 c.length c1) c.length (flat4 c) from by rw [← hw4]; exact HS2.out.fr F34 (fun g hg hm => by simp at hm; have := (HS2.out.own hg).1; omega))
  have HL4 := Lib.hid (show SV w4 w2.heap.size 2 (.slice a3 now.length c3) now.length (flat2 now) from by rw [← hw4]; exact HS3.out.fr ((Fr.refl [p] w3).set (p := ⟨p, 2, none⟩) (.inl (by simp)) _) (fun g hg hm => by simp at hm; have := (HS3.out.own hg).1; have := HF2.out.size; omega))
  have hz4 : w2.heap.size ≤ w4.heap.size := by rw [← hw4]; exact F34.size
  clear hw4 q3 q3f q3l F34
  have q4 := HB4.out.cell
  have q4l := HB4.out.lt
  have hpn4 : p ≠ w4.heap.size := by omega
  go_cut [8] (fun v wx => v = .pointer (some ⟨w4.heap.size, 0, none⟩) ∧ Hid (Blk wx w4.heap.size #[.string s, .int .u64 (num + 1), .slice a1 c.length c1] 50) ∧ Hid (Fr [] w4 wx))
  case first =>
    go_region_held3 (fun w' => w'.cell? ⟨p, 0, none⟩ = some (.string s) ∧ w'.cell? ⟨p, 1, none⟩ = some (.int .u64 (num + 1))) (first | ((try dsimp only); refine ⟨?_, ?_⟩ <;> (first | (simp [go_sem, *]; done) | (simp [go_sem, *, World.cell?_alloc_some, World.cell?_setCell_far]; done))) | (simp [go_sem, *]; done) | (simp [go_sem, *, World.cell?_alloc_some, World.cell?_setCell_far]; done)) (fail)
    all_goals go_wp2
    all_goals go_meet
    all_goals (exact ⟨rfl, Lib.hid (by first | (exact Blk.cast (cs := #[.string s, .int .u64 (num + 1), .slice a1 c.length c1]) (by repeat' (first | ((with_reducible refine Blk.mk0 _ _ _ _ ?_); first | (simp; done) | (simp; omega)) | (with_reducible refine Blk.drew ?_) | (with_reducible refine Blk.drN ?_ _) | (with_reducible refine Blk.set ?_ _ _) | (with_reducible refine Blk.other ?_ ?_ _) | (with_reducible refine Blk.alloc ?_ _) | (simp; done) | (simp; omega))) rfl) | (exact Blk.cast (cs := (((#[.string (⟨#[]⟩ : ByteArray), .int .u64 0, .slice none 0 0] : Array Value).setIfInBounds 0 (.string s)).setIfInBounds 1 (.int .u64 (num + 1))).setIfInBounds 2 (.slice a1 c.length c1)) (by repeat' (first | ((with_reducible refine Blk.mk0 _ _ _ _ ?_); first | (simp; done) | (simp; omega)) | (with_reducible refine Blk.drew ?_) | (with_reducible refine Blk.drN ?_ _) | (with_reducible refine Blk.set ?_ _ _) | (with_reducible refine Blk.other ?_ ?_ _) | (with_reducible refine Blk.alloc ?_ _) | (simp; done) | (simp; omega))) (by simp))), Lib.hid (by repeat' (first | (with_reducible exact Fr.refl _ _) | (with_reducible refine Fr.drew ?_) | (with_reducible refine Fr.drN ?_ _) | (with_reducible refine Fr.alloc ?_ _) | (with_reducible refine Fr.set ?_ ?_ _) | (left; simp; done) | (right; simp; done) | (right; simp; omega)))⟩)
  case rest =>
  obtain ⟨rfl, HP5, F45⟩ := hcut
  clear q4 q4l
  go_upto_region 11 with fail
  refine wp_named ?_
  intro w5 hw5
  rw [hw5] at HP5 F45
  clear hw5
  have HB5 := Lib.hid (F45.out.blk HB4.out (by simp))
  have HF5 := Lib.hid (HF4.out.trans (F45.out.mono (T := [p]) (by simp)))
  have HQ5 := Lib.hid (HSD.out.wt.fr HF5.out (fun g hg hm => by simp at hm; exact HWN.out g hg hm))
  have HG5 := Lib.hid (F45.out.blk HG4.out (by simp))
  have HS5 := Lib.hid (HS4.out.fr0 F45.out)
  have HL5 := Lib.hid (HL4.out.fr0 F45.out)
  have hz5 := F45.out.size
  have q5 := HB5.out.cell
  have q5f := HB5.out.free
  have q5l := HB5.out.lt
  have p5 := HP5.out.cell
  have p5l := HP5.out.lt
  have hpn5 : p ≠ w5.heap.size := by omega
  go_cut [8] (fun v wx => v = .pointer (some ⟨w4.heap.size, 0, none⟩) ∧ ∃ vw', Hid (Blk wx p #[.string s, .int .u64 (num + 1), .slice a3 now.length c3, vw'] 114) ∧ Hid (SV wx 0 3 vw' (q.length + 1) (flatP s q ++ [.string s, .int .u64 (num + 1), .slice a1 c.length c1])) ∧ Hid (Fr (p :: (Value.slice qa q.length qc).ownBlock.toList) w5 wx) ∧ Hid (∀ g, vw'.ownBlock = some g → (Value.slice qa q.length qc).ownBlock = some g ∨ w5.heap.size ≤ g))
  case first =>
    go_region_law ((refine step_append_svo rfl (.tmp 58) (.tmp 60) 42 rfl 50 i0 (.agg #[.string ByteArray.empty, .int .u64 0, .slice none 0 0]) 3 48 Try.underlying42 hi0 hz0 hz1 hz2 rfl ?_ 0 (.slice qa q.length qc) q.length (flatP s q) rfl ?_ ?_ _ 1 1 [.string s, .int .u64 (num + 1), .slice a1 c.length c1] rfl rfl (cells_of_blk (t := 50) ?_) ?_ ?_ ?_ ?_ ?_); (focus (decide)); (focus (refine SV.fr0 HQ5.out ?_; repeat' (first | (with_reducible exact Fr.refl _ _) | (with_reducible refine Fr.drew ?_) | (with_reducible refine Fr.drN ?_ _) | (with_reducible refine Fr.alloc ?_ _) | (with_reducible refine Fr.set ?_ ?_ _) | (left; simp; done) | (right; simp; done) | (right; simp; omega)))); (focus (exact Nat.zero_le _)); (focus (repeat' (first | ((with_reducible refine Blk.mk0 _ _ _ _ ?_); first | (simp; done) | (simp; omega)) | (with_reducible refine Blk.drew ?_) | (with_reducible refine Blk.drN ?_ _) | (with_reducible refine Blk.set ?_ _ _) | (with_reducible refine Blk.other ?_ ?_ _) | (with_reducible refine Blk.alloc ?_ _) | (simp; done) | (simp; omega)))); (focus (simp [Value.oneCell'])); (focus (unfold maxLen; omega)); (focus omega); (focus decide); intro v6 w6 hS6 hF6 hO6; have hb6 : Blk w6 p #[.string s, .int .u64 (num + 1), .slice a3 now.length c3, .slice qa q.length qc] 114 := (by refine hF6.blk ?_ ?_; (focus (repeat' (first | (with_reducible exact HB5.out) | (with_reducible refine Blk.drew ?_) | (with_reducible refine Blk.drN ?_ _) | (with_reducible refine Blk.set ?_ _ _) | (with_reducible refine Blk.other ?_ ?_ _) | (with_reducible refine Blk.alloc ?_ _) | (simp; done) | (simp; omega)))); (focus (intro hm; rw [Option.mem_toList] at hm; exact HWN.out _ hm rfl))); have b6c := hb6.cell; have b6f := hb6.free; have b6l := hb6.lt; have HB6 := Lib.hid hb6; have HS6 := Lib.hid hS6; have HF6 := Lib.hid hF6; have HO6 := Lib.hid hO6; obtain ⟨a6, c6, e6⟩ := hS6.at_; subst e6; clear hb6 hS6 hF6 hO6)
    all_goals go_wp2
    all_goals go_meet
    all_goals (refine ⟨rfl, _, Lib.hid (Blk.cast (cs := (#[.string s, .int .u64 (num + 1), .slice a3 now.length c3, .slice qa q.length qc] : Array Value).setIfInBounds 3 (.slice a6 (q.length + 1) c6)) (by repeat' (first | (with_reducible exact HB6.out) | (with_reducible refine Blk.drew ?_) | (with_reducible refine Blk.drN ?_ _) | (with_reducible refine Blk.set ?_ _ _) | (with_reducible refine Blk.other ?_ ?_ _) | (with_reducible refine Blk.alloc ?_ _) | (simp; done) | (simp; omega))) (by simp)), Lib.hid (HS6.out.fr ((Fr.refl [p] w6).set (p := ⟨p, 3, none⟩) (.inl (by simp)) _) (fun g hg hm => ?_)), Lib.hid ?_, Lib.hid (fun g hg => ?_)⟩)
    all_goals first
      | (exact (by
          simp at hm
          subst hm
          rcases HO6.out _ hg with h1 | h1
          · exact HWN.out _ h1 rfl
          · simp at h1; omega))
      | (exact (Fr.trans (Fr.mono (S := []) (by repeat' (first | (with_reducible exact Fr.refl _ _) | (with_reducible refine Fr.drew ?_) | (with_reducible refine Fr.drN ?_ _) | (with_reducible refine Fr.alloc ?_ _) | (with_reducible refine Fr.set ?_ ?_ _) | (left; simp; done) | (right; simp; done) | (right; simp; omega))) (by simp)) (HF6.out.mono (fun k hk => List.mem_cons_of_mem _ hk))).set (p := ⟨p, 3, none⟩) (.inl (by simp)) _)
      | (exact (HO6.out g hg).imp id (fun h => by simp at h; omega))
  case rest =>
  obtain ⟨rfl, vw', HB7, HS7, HF7, HO7⟩ := hcut
  go_upto_region 12 with fail
  refine wp_named ?_
  intro w7 hw7
  rw [hw7] at HB7 HS7 HF7
  clear hw7 q5 q5f q5l p5 p5l
  have HOW := Lib.hid (fun g (hg : (Value.slice qa q.length qc).ownBlock = some g) => HSD.out.lt g (HSD.out.wtF g hg).1)
  have hsz7 := HF7.out.size
  have HP7 := Lib.hid (HF7.out.blk HP5.out (by intro hm; rcases List.mem_cons.1 hm with h1 | h1; (· omega); simp at h1; have := HOW.out _ h1; omega))
  have HG7 := Lib.hid (HF7.out.blk HG5.out (by intro hm; rcases List.mem_cons.1 hm with h1 | h1; (· have := HPF.out; omega); simp at h1; have := HOW.out _ h1; omega))
  have HC7 := Lib.hid (HS5.out.fr HF7.out (fun g hg hm => by have h0 := (HS5.out.own hg).1; rcases List.mem_cons.1 hm with h1 | h1; (· have := HPF.out; omega); simp at h1; have := HOW.out _ h1; omega))
  have HL7 := Lib.hid (HL5.out.fr HF7.out (fun g hg hm => by have h0 := (HL5.out.own hg).1; have h9 := HF2.out.size; rcases List.mem_cons.1 hm with h1 | h1; (· have := HPF.out; omega); simp at h1; have := HOW.out _ h1; omega))
  have p7 := HP7.out.cell
  have p7l := HP7.out.lt
  go_wp2_with ((go_at_call 55); (with_reducible refine (copied_any _ _ _ c _ HC7.out.rd (by omega)).mono ?_); rintro e w8 ⟨v8, rfl, hS8, hF8⟩; have HS8 := Lib.hid hS8; have HF8 := Lib.hid hF8; obtain ⟨a8, c8, e8⟩ := hS8.at_; subst e8; have b8 := hF8.blk HG7.out (by simp); have HG8 := Lib.hid b8; have q8 := b8.cell; have q8f := b8.free; have q8l := b8.lt; clear hS8 hF8 b8 p7 p7l)
  refine bodyPost_named ?_
  intro wy hwy
  have HFy := Lib.hid (show Fr [w.heap.size] w8 wy from by rw [← hwy]; repeat' (first | (with_reducible exact Fr.refl _ _) | (with_reducible refine Fr.drew ?_) | (with_reducible refine Fr.drN ?_ _) | (with_reducible refine Fr.alloc ?_ _) | (with_reducible refine Fr.set ?_ ?_ _) | (left; simp; done) | (right; simp; done) | (right; simp; omega)))
  have HCy := Lib.hid (show Blk wy w.heap.size #[.string s, .int .u64 (num + 1), .slice a8 c.length c8] 50 from by rw [← hwy]; exact Blk.cast (cs := (((#[.string (⟨#[]⟩ : ByteArray), .int .u64 0, .slice none 0 0] : Array Value).setIfInBounds 0 (.string s)).setIfInBounds 1 (.int .u64 (num + 1))).setIfInBounds 2 (.slice a8 c.length c8)) (by repeat' (first | (with_reducible exact HG8.out) | (with_reducible refine Blk.drew ?_) | (with_reducible refine Blk.drN ?_ _) | (with_reducible refine Blk.set ?_ _ _) | (with_reducible refine Blk.other ?_ ?_ _) | (with_reducible refine Blk.alloc ?_ _) | (simp; done) | (simp; omega))) (by simp))
  clear hwy
  have hc := HCy.out.cell
  have hl5 := HCy.out.lt
  have hnw : p ≠ w.heap.size := by have := HPF.out; omega
  have FT := Lib.hid ((HF8.out.mono (T := [w.heap.size]) (by simp)).trans HFy.out)
  have FA := Lib.hid ((((HF5.out.mono (T := p :: (Value.slice qa q.length qc).ownBlock.toList) (by simp)).trans HF7.out).mono (T := w.heap.size :: p :: (Value.slice qa q.length qc).ownBlock.toList) (fun k hk => List.mem_cons_of_mem _ hk)).trans (FT.out.mono (by simp)) |>.weaken (T := p :: (Value.slice qa q.length qc).ownBlock.toList) (by intro z hz; rcases List.mem_cons.1 hz with rfl | hz; (· right; omega); left; exact hz))
  have hBy := FT.out.blk HB7.out (by simp; omega)
  have hLy := (HL7.out.fr FT.out (fun g hg hm => by simp at hm; have h0 := (HL7.out.own hg).1; omega)).base_le (b' := w.heap.size) (by omega)
  have hCy := (HC7.out.fr FT.out (fun g hg hm => by simp at hm; have h0 := (HC7.out.own hg).1; omega)).base_le (b' := w.heap.size) (by omega)
  have hO := HO7.out
  have hQy := HS7.out.fr FT.out (fun g hg hm => by
    simp at hm
    rcases hO g hg with h1 | h1
    · have := HOW.out g h1; omega
    · omega)
  have hOy : ∀ g, vw'.ownBlock = some g → (Value.slice qa q.length qc).ownBlock = some g ∨ (w.heap.size ≤ g ∧ (Value.slice a3 now.length c3).ownBlock ≠ some g ∧ (Value.slice a1 c.length c1).ownBlock ≠ some g) := by
    intro g hg
    rcases hO g hg with h1 | h1
    · exact .inl h1
    · refine .inr ⟨by omega, fun h2 => ?_, fun h2 => ?_⟩
      · have := (HL5.out.own h2).2; omega
      · have := (HS5.out.own h2).2; omega
  have hsd := SD.sent HSD.out rfl FA.out hBy hLy HD2.out wn hCy HR1.out HR2.out (by rw [flatP_app]; exact hQy) hOy
  have hs8 := HF8.out.size
  refine bodyPost_ret (v := .tuple #[puV s (num + 1) (.slice a8 c.length c8), .int .i64 0]) (by simp [results, Try.results28, go_sem, hc, hl5]) rfl (SendPost.mk hsd ?_ ?_ ?_ FA.out)
  · exact (HS8.out.fr HFy.out (fun g hg hm => by simp at hm; have h0 := (HS8.out.own hg).1; omega)).base_le (by omega)
  · intro g hg hm
    have h0 := (HS8.out.own hg).1
    rcases List.mem_append.1 hm with h1 | h1
    · have := HSD.out.lt g h1; omega
    · simp at h1
      rcases h1 with h1 | h1 | h1
      · have := (HL7.out.own h1).2; omega
      · have := (HC7.out.own h1).2; omega
      · have := (HS7.out.own h1).2; omega
  · intro g hm
    rcases List.mem_append.1 hm with h1 | h1
    · exact .inl h1
    · simp at h1
      rcases h1 with h1 | h1 | h1
      · have := (hLy.own h1).1; exact .inr this
      · have := (hCy.own h1).1; exact .inr this
      · rcases hOy g h1 with h2 | h2
        · exact .inl (HSD.out.wtF g h2).1
        · exact .inr h2.1
end Go.Proofs.Ytmilnhicmeblhaa
