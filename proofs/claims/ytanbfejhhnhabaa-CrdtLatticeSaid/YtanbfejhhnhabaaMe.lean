/- The package crdt: Merge. -/
import Derived.Test.YtanbfejhhnhabaaMg
namespace Go.Proofs.Ytanbfejhhnhabaa
open Go.RowKit Go.Maps Go.Sort
set_option maxRecDepth 100000
set_option linter.unusedVariables false
set_option linter.unusedSimpArgs false
set_option maxHeartbeats 8000000
/-- What Merge answers. -/
def mergeF (a b : List Nd) : List Nd × Int :=
  if rightL a = true ∧ rightL b = true then (if (mergeL a b).length ≤ 64 then (mergeL a b, 0) else ([], 3)) else ([], 230)
def MergePost (a b : List Nd) (w : World) (e : Ending) (w' : World) : Prop :=
  ∃ v, e = .returned (.tuple #[v, .int .i64 (mergeF a b).2]) ∧ SN w' w.heap.size v (mergeF a b).1 ∧ Fr [] w w'
theorem MergePost.mk {a b l : List Nd} {y : Int} {v : Value} {w w' : World} (h : mergeF a b = (l, y)) (hS : SN w' w.heap.size v l) (hF : Fr [] w w') : MergePost a b w (.returned (.tuple #[v, .int .i64 y])) w' :=
  ⟨v, by rw [h], by rw [h]; exact hS, hF⟩
theorem fold_good {a b : List Nd} (ha : Good a) (hb : ∀ x ∈ b, x.1.size ≤ 64) : ∀ out, Good out → Good (b.foldl (mrg a) out) := by
  induction b with
  | nil => intro out h; exact h
  | cons x b ih =>
    intro out h
    refine ih (fun y hy => hb y (List.mem_cons_of_mem _ hy)) _ ⟨h.st.put _, ?_⟩
    intro y hy
    rcases mem_putL hy with rfl | hy
    · exact hb x List.mem_cons_self
    · exact h.sz y hy
theorem fold_pos {a b : List Nd} (ha : Pos a) (hb : Pos b) : ∀ out, Pos out → Pos (b.foldl (mrg a) out) := by
  induction b with
  | nil => intro out h; exact h
  | cons x b ih =>
    intro out h
    refine ih (fun y hy => hb y (List.mem_cons_of_mem _ hy)) _ ?_
    intro y hy
    rcases mem_putL hy with rfl | hy
    · have := hb x List.mem_cons_self
      simp only
      omega
    · exact h y hy
theorem fold_take {a b : List Nd} {j : Nat} {x : Nd} (h : b[j]? = some x) (out : List Nd) : (b.take (j + 1)).foldl (mrg a) out = mrg a ((b.take j).foldl (mrg a) out) x := by
  rw [take_snoc h, List.foldl_append]; rfl
theorem fold_len (a : List Nd) : ∀ (b out : List Nd), Srt out → (b.foldl (mrg a) out).length ≤ out.length + b.length := by
  intro b
  induction b with
  | nil => intro out _; simp
  | cons x b ih =>
    intro out h
    have h1 := ih (mrg a out x) (h.put _)
    have h2 : (mrg a out x).length ≤ out.length + 1 := by unfold mrg; rw [len_putL h]; split <;> omega
    simp only [List.foldl_cons, List.length_cons]
    omega
theorem fold_at {a b : List Nd} (ha : Srt a) (hb : Srt b) {j : Nat} {x : Nd} (h : b[j]? = some x) : lk ((b.take j).foldl (mrg a) a) x.1 = lk a x.1 := by
  have hbj : Srt (b.take j) := hb.sublist (List.take_sublist _ _)
  rw [fold_lk a _ a hbj]
  have hs : Srt (b.take j ++ [x]) := by rw [← take_snoc h]; exact hb.sublist (List.take_sublist _ _)
  have : lk (b.take j) x.1 = none := lk_none (fun z hz => bts_ne ((List.pairwise_append.1 hs).2.2 z hz x (by simp)))
  rw [this]
theorem merge_any (v1 v2 : Value) (l1 l2 : List Nd) (w : World) (h1 : RN w v1 l1) (h2 : RN w v2 l2) (a1 : Arg l1) (a2 : Arg l2) :
    Calls Try.prog 20 #[v1, v2] w (MergePost l1 l2 w) := by
  have H1 := Lib.hid h1
  have H2 := Lib.hid h2
  have HA1 := Lib.hid a1
  have HA2 := Lib.hid a2
  obtain ⟨p1, q1, e1⟩ := h1.at_
  obtain ⟨p2, q2, e2⟩ := h2.at_
  subst e1 e2
  clear h1 h2 a1 a2
  have hB := Blk.new w #[.slice p1 l1.length q1, .slice p2 l2.length q2] 28
  have hF0 : Fr [] w (w.alloc (.cells #[.slice p1 l1.length q1, .slice p2 l2.length q2] 28)) := (Fr.refl _ _).alloc _
  have HB := Lib.hid hB
  clear hB
  by_cases hr : rightL l1 = true ∧ rightL l2 = true
  · obtain ⟨hr1, hr2⟩ := hr
    have hg1 := right_good hr1
    have hg2 := right_good hr2
    have hn1 := right_len hr1
    have hn2 := right_len hr2
    have ec : chk2 l1 l2 = 0 := by unfold chk2; rw [if_pos hr1]; exact chkF_ok hr2
    have em : mergeF l1 l2 = if (mergeL l1 l2).length ≤ 64 then (mergeL l1 l2, 0) else ([], 3) := by unfold mergeF; rw [if_pos ⟨hr1, hr2⟩]
    have EC := Lib.hid ec
    have EM := Lib.hid em
    have HG1 := Lib.hid hg1
    have HG2 := Lib.hid hg2
    clear ec em hg1 hg2 hr1 hr2
    go_enter Try.func20, Try.ntmps20
    go_wp2_with (first | ((go_at_call 41); (with_reducible refine (checked_any w.heap.size _ _ l1 l2 _ HB.out (H1.out.fr0 hF0) (H2.out.fr0 hF0) HA1.out HA2.out).mono ?_); rintro e w1 ⟨rfl, hF1⟩; have hz := EC.out) | ((go_at_call 38); (with_reducible refine (nodes_any _ l1 _ (H1.out.fr0 (hF0.trans hF1)) HG1.out ?_).mono ?_); (focus (unfold maxLen; omega)); rintro e w2 ⟨b, rfl, hM, hb, hF2⟩))
    have HF2 := Lib.hid ((hF0.trans hF1).trans hF2)
    have hz1 := (hF0.trans hF1).size
    clear hz hF0 hF1 hF2
    go_loopw [22] (fun u wr => ∃ j : Nat, j ≤ l2.length ∧ u = .int .i64 j ∧ NM wr b (l1.length + j) ((l2.take j).foldl (mrg l1) l1) ∧ Fr [b] w2 wr) (fun u _ => l2.length - (intOf u).toNat)
    case atStart => exact ⟨0, by omega, rfl, hM, Fr.refl _ _⟩
    case round =>
      obtain ⟨j, hj, rfl, hMr, hF⟩ := hrel
      clear hM
      have hFw : Fr [] w wr := ((HF2.out.mono (by simp)).trans hF).weaken (by intro z hz; simp at hz; subst hz; right; omega)
      have hltj : (l2.take j).length = j := by simp; omega
      have hgf : Good ((l2.take j).foldl (mrg l1) l1) := fold_good HG1.out (fun x hx => HG2.out.sz x (List.mem_of_mem_take hx)) _ HG1.out
      have hlf := fold_len l1 (l2.take j) l1 HG1.out.st
      by_cases hjl : j < l2.length
      · obtain ⟨⟨s, u, d⟩, hj0⟩ : ∃ a, l2[j]? = some a := ⟨_, List.getElem?_eq_getElem hjl⟩
        obtain ⟨g, o, c', he, g1, g2, g3, g4⟩ := (H2.out.fr0 hFw).cells (by omega)
        simp only [Value.slice.injEq] at he
        obtain ⟨rfl, -, rfl⟩ := he
        have k0 := g4 (j * 3) _ (flat3_get l2 j _ hj0).1
        have k1 := g4 (j * 3 + 1) _ (flat3_get l2 j _ hj0).2.1
        have k2 := g4 (j * 3 + 2) _ (flat3_get l2 j _ hj0).2.2
        rw [← Nat.add_assoc] at k1 k2
        simp only at k0 k1 k2
        have hsz : s.size ≤ maxLen := by have := HG2.out.sz _ (List.mem_of_getElem? hj0); unfold maxLen; simp at this; omega
        have hat := fold_at HG1.out.st HG2.out.st hj0
        have hft := fold_take (a := l1) hj0 l1
        have hMa := hMr.fr0 ((Fr.refl [] wr).alloc (.cells #[.string s, .int .u64 u, .int .u64 d] 33))
        have hlk := hMa.look s hsz
        simp only at hat
        rw [lkV_of hat] at hlk
        obtain ⟨s', hv⟩ := lkV_ex l1 s
        rw [hv] at hlk
        obtain ⟨u', d', ho⟩ : ∃ u' d', ofL l1 s = (u', d') := ⟨_, _, rfl⟩
        rw [ho] at hlk
        have hb1 := (Blk.new wr #[.string s, .int .u64 u, .int .u64 d] 33).alloc (.cells #[.string s', .int .u64 u', .int .u64 d'] 33)
        have hb2 : Blk ((wr.alloc (.cells #[.string s, .int .u64 u, .int .u64 d] 33)).alloc (.cells #[.string s', .int .u64 u', .int .u64 d'] 33)) (wr.heap.size + 1) #[.string s', .int .u64 u', .int .u64 d'] 33 := Blk.mk0 _ _ _ _ (by simp)
        obtain ⟨w5, hup, hM5, hF5⟩ := (hMa.fr0 ((Fr.refl [] _).alloc (.cells #[.string s', .int .u64 u', .int .u64 d'] 33))).store s hsz (max u' u) (max d' d) (by unfold maxLen; omega)
        have hpe : putL ((l2.take j).foldl (mrg l1) l1) (s, max u' u, max d' d) = (l2.take (j + 1)).foldl (mrg l1) l1 := by
          rw [hft]
          unfold mrg
          rw [ho]
        rw [hpe] at hM5
        have HM5 := Lib.hid hM5
        have hbc1 := hb1.cell
        have hbc2 := hb2.cell
        have hc0 := (Blk.new wr #[.string s, .int .u64 u, .int .u64 d] 33).cell
        have hgl : g < wr.heap.size := g1
        clear hpe hft hat hv ho g4 hj0 hMr hMa hM5 hgf hlf hltj
        go_wp2
        go_roundw
        case rel => exact ⟨j + 1, by omega, by go_num, HM5.out, (((hF.alloc _).alloc _).trans hF5)⟩
        case measure => simp [intOf]; omega
      · obtain rfl : j = l2.length := by omega
        rw [List.take_length] at hMr hgf hlf
        have hML : mergeL l1 l2 = l2.foldl (mrg l1) l1 := rfl
        rw [← hML] at hMr hgf hlf
        clear hML hltj
        have hsz := hMr.size hgf
        have HFw := Lib.hid hFw
        clear hFw
        by_cases hm : (mergeL l1 l2).length ≤ 64
        · have e := EM.out
          rw [if_pos hm] at e
          have E := Lib.hid e
          have hm' : ¬ 64 < ((mergeL l1 l2).length : Int) := by omega
          clear e
          go_wp2_with ((go_at_call 36); (with_reducible refine (state_any b _ (mergeL l1 l2) _ hMr hgf (by omega) (by omega)).mono ?_); rintro e w4 ⟨v4, rfl, hS4, hF4⟩)
          go_ret2
          exact MergePost.mk E.out (hS4.base_le HFw.out.size) (HFw.out.trans hF4)
        · have e := EM.out
          rw [if_neg hm] at e
          have E := Lib.hid e
          have hm' : 64 < ((mergeL l1 l2).length : Int) := by omega
          clear e
          go_wp2
          go_ret2
          exact MergePost.mk E.out (SV.nil _ _ _) HFw.out
  · have em : mergeF l1 l2 = ([], 230) := by unfold mergeF; rw [if_neg hr]
    have ec : chk2 l1 l2 = 230 := by
      unfold chk2
      by_cases h1 : rightL l1 = true
      · rw [if_pos h1]; exact chkF_no (fun h2 => hr ⟨h1, h2⟩)
      · rw [if_neg h1]
    have EC := Lib.hid ec
    have EM := Lib.hid em
    clear ec em hr
    go_enter Try.func20, Try.ntmps20
    go_wp2_with ((go_at_call 41); (with_reducible refine (checked_any w.heap.size _ _ l1 l2 _ HB.out (H1.out.fr0 hF0) (H2.out.fr0 hF0) HA1.out HA2.out).mono ?_); rintro e w1 ⟨rfl, hF1⟩; have hz := EC.out)
    go_ret2
    exact MergePost.mk EM.out (SV.nil _ _ _) (hF0.trans hF1)
end Go.Proofs.Ytanbfejhhnhabaa
