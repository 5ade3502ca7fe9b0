/- The package crdt: Below. -/
import Derived.Test.YtanbfejhhnhabaaBl
namespace Go.Proofs.Ytanbfejhhnhabaa
open Go.RowKit Go.Maps Go.Sort
set_option maxRecDepth 100000
set_option linter.unusedVariables false
set_option linter.unusedSimpArgs false
set_option maxHeartbeats 8000000
theorem contains_any (F : Nat) (caps : Array Value) (p : Nd → Bool) (v : Value) (l : List Nd) (w : World) (h : RN w v l) (hl : l.length ≤ 9223372036854775806)
    (hE : ∀ (args : Array Value) (W : World), (callFunc F args).run Try.prog W = .ok (.enter F args) W)
    (hC : ∀ a W, a ∈ l → Fr [] w W → Calls Try.prog F (#[ndV a.1 a.2.1 a.2.2] ++ caps) W fun e w' => e = .returned (.bool (p a)) ∧ Fr [] W w') :
    Calls Try.prog 42 #[v, .func (.func F) #[] caps] w fun e w' => e = .returned (.bool (decide (0 ≤ idxF l p))) ∧ Fr [] w w' := by
  have HI := Lib.hid (index_any F caps p v l w h hl hE hC)
  clear hC h hE
  go_enter Try.func42, Try.ntmps42
  go_wp2_with ((go_at_call 58); (with_reducible refine HI.out.mono ?_); rintro e w1 ⟨rfl, hF1⟩)
  go_ret
  exact ⟨rfl, hF1⟩
/-- What Below answers. -/
def belowF (a b : List Nd) : Bool × Int := if rightL a = true ∧ rightL b = true then (a.all (hasL b), 0) else (false, 230)
theorem all_idx (a : List Nd) (p : Nd → Bool) : a.all p = !decide (0 ≤ idxF a (fun x => !p x)) := by
  unfold idxF
  cases h : a.findIdx? (fun x => !p x) with
  | none =>
    rw [List.findIdx?_eq_none_iff] at h
    simp
    intro x s t hx
    simpa using h (x, s, t) hx
  | some i =>
    obtain ⟨hi, h1, _⟩ := List.findIdx?_eq_some_iff_getElem.1 h
    have : a.all p = false := by
      rw [List.all_eq_false]
      exact ⟨a[i], List.getElem_mem hi, by simpa using h1⟩
    rw [this]
    simp
theorem below_any (v1 v2 : Value) (l1 l2 : List Nd) (w : World) (h1 : RN w v1 l1) (h2 : RN w v2 l2) (a1 : Arg l1) (a2 : Arg l2) :
    Calls Try.prog 21 #[v1, v2] w fun e w' => e = .returned (.tuple #[.bool (belowF l1 l2).1, .int .i64 (belowF l1 l2).2]) ∧ Fr [] w w' := by
  have H1 := Lib.hid h1
  have H2 := Lib.hid h2
  have HA1 := Lib.hid a1
  have HA2 := Lib.hid a2
  obtain ⟨p1, q1, e1⟩ := h1.at_
  obtain ⟨p2, q2, e2⟩ := h2.at_
  subst e1 e2
  clear h1 h2 a1 a2
  have hB := Blk.new w #[.slice p1 l1.length q1, .slice p2 l2.length q2] 28
  have hF0 : Fr [] w (w.alloc (.cells #[.slice p1 l1.length q1, .slice p2 l2.length q2] 28)) := (Fr.refl _ _).alloc _
  have HB := Lib.hid hB
  clear hB
  by_cases hr : rightL l1 = true ∧ rightL l2 = true
  · obtain ⟨hr1, hr2⟩ := hr
    have hg2 := right_good hr2
    have hg1 := right_good hr1
    have hn1 := right_len hr1
    have hn2 := right_len hr2
    have ec : chk2 l1 l2 = 0 := by unfold chk2; rw [if_pos hr1]; exact chkF_ok hr2
    have em : belowF l1 l2 = (!decide (0 ≤ idxF l1 (fun x => !hasL l2 x)), 0) := by unfold belowF; rw [if_pos ⟨hr1, hr2⟩, all_idx]
    have EC := Lib.hid ec
    have EM := Lib.hid em
    have HG1 := Lib.hid hg1
    have HG2 := Lib.hid hg2
    have hnot : ∀ (x : Bool) (w : World), (Op.unary .not (.bool x)).run Try.prog w = .ok (.bool (!x)) w := fun _ _ => rfl
    obtain ⟨ix, hix⟩ : ∃ i, i = idxF l1 (fun x => !hasL l2 x) := ⟨_, rfl⟩
    have HIX := Lib.hid hix
    clear ec em hg1 hg2 hr1 hr2 hix
    go_enter Try.func21, Try.ntmps21
    go_wp2_with (first | ((go_at_call 41); (with_reducible refine (checked_any w.heap.size _ _ l1 l2 _ HB.out (H1.out.fr0 hF0) (H2.out.fr0 hF0) HA1.out HA2.out).mono ?_); rintro e w1 ⟨rfl, hF1⟩; have hz := EC.out) | ((go_at_call 38); (with_reducible refine (nodes_any _ l2 _ (H2.out.fr0 (hF0.trans hF1)) HG2.out ?_).mono ?_); (focus (unfold maxLen; omega)); rintro e w2 ⟨b, rfl, hM, hb, hF2⟩))
    have HF2 := Lib.hid (((hF0.trans hF1).trans hF2).alloc (.cells #[.map (some b)] 68))
    have HM := Lib.hid (hM.fr0 ((Fr.refl [] w2).alloc (.cells #[.map (some b)] 68)))
    have hP := Blk.new w2 #[.map (some b)] 68
    have HP := Lib.hid hP
    clear hz hF0 hF1 hF2 hM hP
    go_wp2_with fail
    go_at_call 42
    refine (contains_any 43 #[.pointer (some ⟨w2.heap.size, 0, none⟩)] (fun x => !hasL l2 x) _ l1 _ (H1.out.fr0 HF2.out) (by omega) (fun _ _ => by kernel_rfl) ?_).mono ?_
    · intro a W ha hW
      exact below1_any w2.heap.size b _ l2 a.1 a.2.1 a.2.2 W (HM.out.fr0 hW) (by have := HG1.out.sz a ha; unfold maxLen; omega) (hW.blk HP.out (by simp))
    rintro e w3 ⟨rfl, hF3⟩
    rw [← HIX.out]
    go_wp2
    go_ret2
    exact ⟨by rw [EM.out, ← HIX.out]; rfl, HF2.out.trans hF3⟩
  · have em : belowF l1 l2 = (false, 230) := by unfold belowF; rw [if_neg hr]
    have ec : chk2 l1 l2 = 230 := by
      unfold chk2
      by_cases h1 : rightL l1 = true
      · rw [if_pos h1]; exact chkF_no (fun h2 => hr ⟨h1, h2⟩)
      · rw [if_neg h1]
    have EC := Lib.hid ec
    have EM := Lib.hid em
    clear ec em hr
    go_enter Try.func21, Try.ntmps21
    go_wp2_with ((go_at_call 41); (with_reducible refine (checked_any w.heap.size _ _ l1 l2 _ HB.out (H1.out.fr0 hF0) (H2.out.fr0 hF0) HA1.out HA2.out).mono ?_); rintro e w1 ⟨rfl, hF1⟩; have hz := EC.out)
    go_ret2
    exact ⟨by rw [EM.out]; rfl, hF0.trans hF1⟩
end Go.Proofs.Ytanbfejhhnhabaa
