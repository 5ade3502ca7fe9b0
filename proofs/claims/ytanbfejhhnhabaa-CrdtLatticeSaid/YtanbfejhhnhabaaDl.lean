/- The package crdt: Delta. -/
import Derived.Test.YtanbfejhhnhabaaDe
import Derived.Test.YtanbfejhhnhabaaMe
import Derived.Test.YtanbfejhhnhabaaBe
namespace Go.Proofs.Ytanbfejhhnhabaa
open Go.RowKit Go.Maps Go.Sort
set_option maxRecDepth 100000
set_option linter.unusedVariables false
set_option linter.unusedSimpArgs false
set_option maxHeartbeats 8000000
/-- What Delta answers. -/
def deltaF (a b : List Nd) : List Nd × Int :=
  if rightL a = true ∧ rightL b = true then (a.filter (fun x => !hasL b x), 0) else ([], 230)
def DeltaPost (a b : List Nd) (w : World) (e : Ending) (w' : World) : Prop :=
  ∃ v, e = .returned (.tuple #[v, .int .i64 (deltaF a b).2]) ∧ SN w' w.heap.size v (deltaF a b).1 ∧ Fr [] w w'
theorem DeltaPost.mk {a b l : List Nd} {y : Int} {v : Value} {w w' : World} (h : deltaF a b = (l, y)) (hS : SN w' w.heap.size v l) (hF : Fr [] w w') : DeltaPost a b w (.returned (.tuple #[v, .int .i64 y])) w' :=
  ⟨v, by rw [h], by rw [h]; exact hS, hF⟩
theorem delta_any (v1 v2 : Value) (l1 l2 : List Nd) (w : World) (h1 : RN w v1 l1) (h2 : RN w v2 l2) (a1 : Arg l1) (a2 : Arg l2) :
    Calls Try.prog 22 #[v1, v2] w (DeltaPost l1 l2 w) := by
  have H1 := Lib.hid h1
  have H2 := Lib.hid h2
  have HA1 := Lib.hid a1
  have HA2 := Lib.hid a2
  obtain ⟨p1, q1, e1⟩ := h1.at_
  obtain ⟨p2, q2, e2⟩ := h2.at_
  subst e1 e2
  clear h1 h2 a1 a2
  have hB := Blk.new w #[.slice p1 l1.length q1, .slice p2 l2.length q2] 28
  have hF0 : Fr [] w (w.alloc (.cells #[.slice p1 l1.length q1, .slice p2 l2.length q2] 28)) := (Fr.refl _ _).alloc _
  have HB := Lib.hid hB
  clear hB
  by_cases hr : rightL l1 = true ∧ rightL l2 = true
  · obtain ⟨hr1, hr2⟩ := hr
    have hg2 := right_good hr2
    have hg1 := right_good hr1
    have hn1 := right_len hr1
    have hn2 := right_len hr2
    have ec : chk2 l1 l2 = 0 := by unfold chk2; rw [if_pos hr1]; exact chkF_ok hr2
    have em : deltaF l1 l2 = (l1.filter (fun x => !hasL l2 x), 0) := by unfold deltaF; rw [if_pos ⟨hr1, hr2⟩]
    have EC := Lib.hid ec
    have EM := Lib.hid em
    have HG1 := Lib.hid hg1
    have HG2 := Lib.hid hg2
    clear ec em hg1 hg2 hr1 hr2
    go_enter Try.func22, Try.ntmps22
    go_wp2_with (first | ((go_at_call 41); (with_reducible refine (checked_any w.heap.size _ _ l1 l2 _ HB.out (H1.out.fr0 hF0) (H2.out.fr0 hF0) HA1.out HA2.out).mono ?_); rintro e w1 ⟨rfl, hF1⟩; have hz := EC.out) | ((go_at_call 38); (with_reducible refine (nodes_any _ l2 _ (H2.out.fr0 (hF0.trans hF1)) HG2.out ?_).mono ?_); (focus (unfold maxLen; omega)); rintro e w2 ⟨b, rfl, hM, hb, hF2⟩))
    have HF2 := Lib.hid (((hF0.trans hF1).trans hF2).alloc (.cells #[.map (some b)] 68))
    have hbl := hM.lt
    have HM := Lib.hid (hM.fr0 ((Fr.refl [] w2).alloc (.cells #[.map (some b)] 68)))
    have hP := Blk.new w2 #[.map (some b)] 68
    have HP := Lib.hid hP
    clear hz hF0 hF1 hF2 hM hP
    go_wp2_with ((go_at_call 46); (refine (clone_any _ l1 _ (H1.out.fr0 HF2.out) (by omega)).mono ?_); rintro e w3 ⟨v3, rfl, hS3, hF3⟩)
    have HS3 := Lib.hid hS3
    have HF3 := Lib.hid hF3
    clear hS3 hF3
    try go_at_call 45
    refine (delete_any 47 #[.pointer (some ⟨w2.heap.size, 0, none⟩)] (fun x => hasL l2 x) _ v3 l1 _ HS3.out (by omega) (fun _ _ => by kernel_rfl) ?_).mono ?_
    · intro a W ha hW
      have hno : ∀ z, z < w2.heap.size + 1 → z ∉ v3.ownBlock.toList := fun z hz hm => by
        rw [Option.mem_toList] at hm
        have := (HS3.out.own hm).1
        simp at this
        omega
      exact delta1_any w2.heap.size b _ l2 a.1 a.2.1 a.2.2 W ((HM.out.fr0 HF3.out).fr hW (hno _ (by omega))) (by have := HG1.out.sz a ha; unfold maxLen; omega) (hW.blk (HF3.out.blk HP.out (by simp)) (hno _ (by omega)))
    rintro e w4 ⟨v4, rfl, hS4, hF4⟩
    have hF5 : Fr [] w w4 := own_fr (HF2.out.trans HF3.out) HS3.out hF4 HF2.out.size
    have hS5 := hS4.base_le HF2.out.size
    have HS5 := Lib.hid hS5
    have HF5 := Lib.hid hF5
    clear hS4 hS5 hF4 hF5
    go_wp2
    go_ret2
    exact DeltaPost.mk EM.out HS5.out HF5.out
  · have em : deltaF l1 l2 = ([], 230) := by unfold deltaF; rw [if_neg hr]
    have ec : chk2 l1 l2 = 230 := by
      unfold chk2
      by_cases h1 : rightL l1 = true
      · rw [if_pos h1]; exact chkF_no (fun h2 => hr ⟨h1, h2⟩)
      · rw [if_neg h1]
    have EC := Lib.hid ec
    have EM := Lib.hid em
    clear ec em hr
    go_enter Try.func22, Try.ntmps22
    go_wp2_with ((go_at_call 41); (with_reducible refine (checked_any w.heap.size _ _ l1 l2 _ HB.out (H1.out.fr0 hF0) (H2.out.fr0 hF0) HA1.out HA2.out).mono ?_); rintro e w1 ⟨rfl, hF1⟩; have hz := EC.out)
    go_ret2
    exact DeltaPost.mk EM.out (SV.nil _ _ _) (hF0.trans hF1)
end Go.Proofs.Ytanbfejhhnhabaa
