/- The package crdt: checked, Merge. -/
import Derived.Test.YtanbfejhhnhabaaCk
namespace Go.Proofs.Ytanbfejhhnhabaa
open Go.RowKit Go.Maps Go.Sort
set_option maxRecDepth 100000
set_option linter.unusedVariables false
set_option linter.unusedSimpArgs false
set_option maxHeartbeats 8000000
theorem nameF_sz {s : ByteArray} (h : nameF s = true) : s.size ≤ 64 := by
  unfold nameF at h
  simp at h
  omega
theorem bytesLess_lt (a b : ByteArray) : Op.bytesLess a.toList b.toList = decide (bts a < bts b) := by
  unfold bts
  rw [bytesLess_eq, ByteArray.toList_eq, ByteArray.toList_eq]
theorem okL_facts : ∀ (l : List Nd) (p : Option ByteArray), okL p l = true → Srt l ∧ (∀ q, p = some q → ∀ x ∈ l, bts q < bts x.1) ∧ ∀ x ∈ l, x.1.size ≤ 64 ∧ x.2.1 ≤ 72057594037927936 ∧ x.2.2 ≤ 72057594037927936
  | [], p, _ => ⟨Srt.nil, by simp, by simp⟩
  | x :: r, p, h => by
    simp only [okL, Bool.and_eq_true] at h
    obtain ⟨h1, h2⟩ := h
    obtain ⟨s1, s2, s3⟩ := okL_facts r (some x.1) h2
    simp only [okN, Bool.and_eq_true, decide_eq_true_eq] at h1
    obtain ⟨⟨⟨⟨k1, k2⟩, k3⟩, k4⟩, _⟩ := h1
    refine ⟨List.pairwise_cons.2 ⟨fun y hy => s2 x.1 rfl y hy, s1⟩, ?_, ?_⟩
    · rintro q rfl y hy
      have hq : bts q < bts x.1 := by
        have : Op.bytesLess q.toList x.1.toList = true := k2
        rw [bytesLess_lt] at this
        simpa using this
      rcases List.mem_cons.1 hy with rfl | hy
      · exact hq
      · exact bts_trans hq (s2 x.1 rfl y hy)
    · intro y hy
      rcases List.mem_cons.1 hy with rfl | hy
      · exact ⟨nameF_sz k1, k3, k4⟩
      · exact s3 y hy
theorem right_len {l : List Nd} (h : rightL l = true) : l.length ≤ 64 := by unfold rightL at h; simp at h; exact h.1
theorem right_good {l : List Nd} (h : rightL l = true) : Good l := by
  unfold rightL at h
  simp only [Bool.and_eq_true] at h
  obtain ⟨s1, _, s3⟩ := okL_facts l none h.2
  exact ⟨s1, fun a ha => (s3 a ha).1⟩
/-- Numbers that are no less than nought. -/
def Pos (l : List Nd) : Prop := ∀ a ∈ l, 0 ≤ a.2.1 ∧ 0 ≤ a.2.2
theorem right_bnd {l : List Nd} (h : rightL l = true) (hp : Pos l) : Bnd l := by
  unfold rightL at h
  simp only [Bool.and_eq_true] at h
  obtain ⟨_, _, s3⟩ := okL_facts l none h.2
  exact fun a ha => ⟨(hp a ha).1, (s3 a ha).2.1, (hp a ha).2, (s3 a ha).2.2⟩
/-- What a walk knows of a list of nodes that came in. -/
structure Arg (l : List Nd) : Prop where
  sz : ∀ a ∈ l, a.1.size ≤ maxLen
  pos : Pos l
  len : l.length ≤ 9223372036854775806
theorem Good.arg {l : List Nd} (h : Good l) (hp : Pos l) (hl : l.length ≤ 9223372036854775806) : Arg l := ⟨fun a ha => by have := h.sz a ha; unfold maxLen; omega, hp, hl⟩
theorem chk (v : Value) (l : List Nd) (w : World) (h : RN w v l) (ha : Arg l) :
    Calls Try.prog 26 #[v] w fun e w' => e = .returned (.int .i64 (chkF l)) ∧ Fr [] w w' := check_any v l w h ha.sz ha.pos ha.len
theorem chkF_ok {l : List Nd} (h : rightL l = true) : chkF l = 0 := by unfold chkF; rw [if_pos h]
theorem chkF_no {l : List Nd} (h : ¬ rightL l = true) : chkF l = 230 := by unfold chkF; rw [if_neg h]
def chk2 (a b : List Nd) : Int := if rightL a = true then chkF b else 230
theorem checked_any (b : Nat) (v1 v2 : Value) (l1 l2 : List Nd) (w : World) (hB : Blk w b #[v1, v2] 28) (h1 : RN w v1 l1) (h2 : RN w v2 l2) (a1 : Arg l1) (a2 : Arg l2) :
    Calls Try.prog 41 #[.slice (some ⟨b, 0, none⟩) 2 2] w fun e w' => e = .returned (.int .i64 (chk2 l1 l2)) ∧ Fr [] w w' := by
  have H1 := Lib.hid h1
  have H2 := Lib.hid h2
  have HA1 := Lib.hid a1
  have HA2 := Lib.hid a2
  obtain ⟨p1, q1, e1⟩ := h1.at_
  obtain ⟨p2, q2, e2⟩ := h2.at_
  subst e1 e2
  have hc := hB.cell
  have hl := hB.lt
  clear h1 h2 a1 a2
  go_enter Try.func41, Try.ntmps41
  go_wp2
  by_cases hr1 : rightL l1 = true
  · have ec : chk2 l1 l2 = chkF l2 := by unfold chk2; rw [if_pos hr1]
    have EC := Lib.hid ec
    have HC1 := Lib.hid (chkF_ok hr1)
    clear ec hr1
    go_loopw [8] (fun u wr => ∃ j : Nat, j ≤ 2 ∧ u = .int .i64 j ∧ (j = 2 → chkF l2 = 0) ∧ Fr [] w wr) (fun u _ => 2 - (intOf u).toNat)
    case atStart => exact ⟨0, by omega, rfl, by omega, Fr.refl _ _⟩
    case round =>
      obtain ⟨j, hj, rfl, h2z, hF⟩ := hrel
      have hBr := hF.blk hB (by simp)
      have hcr := hBr.cell
      have hlr := hBr.lt
      have hj3 : j = 0 ∨ j = 1 ∨ j = 2 := by omega
      rcases hj3 with rfl | rfl | rfl
      · clear h2z
        go_wp2_with ((go_at_call 26); (with_reducible refine (chk _ l1 _ (H1.out.fr0 hF) HA1.out).mono ?_); rintro e w1 ⟨rfl, hF1⟩; have hz := HC1.out)
        go_roundw
        case rel => exact ⟨1, by omega, by go_num, by omega, hF.trans hF1⟩
        case measure => simp [intOf]
      · clear h2z
        by_cases hr2 : rightL l2 = true
        · have HC2 := Lib.hid (chkF_ok hr2)
          clear hr2
          go_wp2_with ((go_at_call 26); (with_reducible refine (chk _ l2 _ (H2.out.fr0 hF) HA2.out).mono ?_); rintro e w1 ⟨rfl, hF1⟩; have hz := HC2.out)
          go_roundw
          case rel => exact ⟨2, by omega, by go_num, fun _ => HC2.out, hF.trans hF1⟩
          case measure => simp [intOf]
        · have HC2 := Lib.hid (chkF_no hr2)
          clear hr2
          go_wp2_with ((go_at_call 26); (with_reducible refine (chk _ l2 _ (H2.out.fr0 hF) HA2.out).mono ?_); rintro e w1 ⟨rfl, hF1⟩; have hz := HC2.out)
          go_ret
          exact ⟨by rw [EC.out, HC2.out]; rfl, hF.trans hF1⟩
      · have HC2 := Lib.hid (h2z rfl)
        clear h2z
        go_wp2
        go_ret
        exact ⟨by rw [EC.out, HC2.out]; rfl, hF⟩
  · have ec : chk2 l1 l2 = 230 := by unfold chk2; rw [if_neg hr1]
    have EC := Lib.hid ec
    have HC1 := Lib.hid (chkF_no hr1)
    clear ec hr1
    refine wp_loop_rounds 1 ?_
    rw [rounds_succ]
    go_wp2_with ((go_at_call 26); (with_reducible refine (chk _ l1 _ H1.out HA1.out).mono ?_); rintro e w1 ⟨rfl, hF1⟩; have hz := HC1.out)
    go_ret
    exact ⟨by rw [EC.out]; rfl, hF1⟩
end Go.Proofs.Ytanbfejhhnhabaa
