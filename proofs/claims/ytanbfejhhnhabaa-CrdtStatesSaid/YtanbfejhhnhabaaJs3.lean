/- The package crdt: Merge. -/
import Derived.Test.YtanbfejhhnhabaaJs2
/- The package crdt: Check, checked. -/
namespace Go.Proofs.Ytanbfejhhnhabaa
open Go.RowKit Go.Maps Go.Sort
set_option maxRecDepth 100000
set_option linter.unusedVariables false
set_option linter.unusedSimpArgs false
set_option maxHeartbeats 8000000
/-- Is a node right, where the one ahead of it has this name? -/
def okN (p : Option ByteArray) (x : Nd) : Bool :=
  nameF x.1 && (match p with | some q => Op.bytesLess q.toList x.1.toList | none => true) && decide (x.2.1 ≤ 72057594037927936) && decide (x.2.2 ≤ 72057594037927936) && !(x.2.1 == 0 && x.2.2 == 0)
def okL : Option ByteArray → List Nd → Bool
  | _, [] => true
  | p, x :: r => okN p x && okL (some x.1) r
def rightL (l : List Nd) : Bool := decide (l.length ≤ 64) && okL none l
def chkF (l : List Nd) : Int := if rightL l = true then 0 else 230
theorem okL_drop (p : Option ByteArray) (l : List Nd) (j : Nat) (x : Nd) (h : l[j]? = some x) : okL p l = ((okL p (l.take j)) && okN (if j = 0 then p else (l[j - 1]?).map (·.1)) x && okL (some x.1) (l.drop (j + 1))) := by
  induction l generalizing p j with
  | nil => simp at h
  | cons y r ih =>
    cases j with
    | zero => simp at h; subst h; simp [okL]
    | succ j =>
      have := ih (some y.1) j (by simpa using h)
      simp only [okL, List.take_succ_cons, List.drop_succ_cons, this]
      cases j with
      | zero => simp [Bool.and_assoc]
      | succ j => simp [Bool.and_assoc]
theorem okL_take (p : Option ByteArray) (l : List Nd) (j : Nat) (x : Nd) (h : l[j]? = some x) : okL p (l.take (j + 1)) = (okL p (l.take j) && okN (if j = 0 then p else (l[j - 1]?).map (·.1)) x) := by
  have hj : j < l.length := (List.getElem?_eq_some_iff.1 h).1
  rw [okL_drop p (l.take (j + 1)) j x (by rw [List.getElem?_take_of_lt (by omega)]; exact h)]
  rw [List.take_take, Nat.min_eq_left (by omega), List.drop_take]
  simp [okL]
  cases j with
  | zero => simp
  | succ j => rw [if_neg (by omega), if_neg (by omega)]; congr 2; rw [List.getElem?_take_of_lt (by omega)]
theorem okL_fail {l : List Nd} {j : Nat} {x : Nd} (h : l[j]? = some x) (hf : okN (if j = 0 then none else (l[j - 1]?).map (·.1)) x = false) : rightL l = false := by
  unfold rightL
  rw [okL_drop none l j x h, hf]
  simp
theorem name_q (s : ByteArray) (b : Bool) (h : nameF s = b) : ∀ W : World, Calls Try.prog 31 #[.string s] W fun e w' => e = .returned (.bool b) ∧ w' = W := fun W =>
  (name_any s W).mono (fun e w' k => ⟨by rw [k.1, h], k.2.symm⟩)
theorem check_any (v : Value) (l : List Nd) (w : World) (h : RN w v l) (hs : ∀ a ∈ l, a.1.size ≤ maxLen) (hz : ∀ a ∈ l, 0 ≤ a.2.1 ∧ 0 ≤ a.2.2) (hm : l.length ≤ 9223372036854775806) :
    Calls Try.prog 26 #[v] w fun e w' => e = .returned (.int .i64 (chkF l)) ∧ Fr [] w w' := by
  obtain ⟨A, c, rfl⟩ := h.at_
  have H := Lib.hid h
  have HS := Lib.hid hs
  have HZ := Lib.hid hz
  clear h hs hz
  by_cases hl : l.length ≤ 64
  · have hl' : ¬ 64 < (l.length : Int) := by omega
    go_enter Try.func26, Try.ntmps26
    go_wp2
    go_loopw [10] (fun u wr => ∃ j : Nat, j ≤ l.length ∧ u = .int .i64 j ∧ okL none (l.take j) = true ∧ Fr [] w wr) (fun u _ => l.length - (intOf u).toNat)
    case atStart => exact ⟨0, by omega, rfl, rfl, Fr.refl _ _⟩
    case round =>
      obtain ⟨j, hj, rfl, hok, hF⟩ := hrel
      have HOK := Lib.hid hok
      clear hok
      by_cases hjl : j < l.length
      · obtain ⟨⟨s, u, d⟩, hj0⟩ : ∃ a, l[j]? = some a := ⟨_, List.getElem?_eq_getElem hjl⟩
        obtain ⟨g, o, c', he, g1, g2, g3, g4⟩ := (H.out.fr0 hF).cells (by omega)
        simp only [Value.slice.injEq] at he
        obtain ⟨rfl, -, rfl⟩ := he
        have k0 := g4 (j * 3) _ (flat3_get l j _ hj0).1
        have k1 := g4 (j * 3 + 1) _ (flat3_get l j _ hj0).2.1
        have k2 := g4 (j * 3 + 2) _ (flat3_get l j _ hj0).2.2
        rw [← Nat.add_assoc] at k1 k2
        simp only at k0 k1 k2
        obtain ⟨hu0, hd0⟩ := HZ.out _ (List.mem_of_getElem? hj0)
        simp only at hu0 hd0
        have hb := Blk.new wr #[.string s, .int .u64 u, .int .u64 d] 33
        have hbc := hb.cell
        have hbl := hb.lt
        have hfail := okL_fail hj0
        have htake := okL_take none l j _ hj0
        have HJ := Lib.hid hj0
        have HF := Lib.hid hF
        clear hj0 hF
        by_cases hnm : nameF s = true
        · have HNQ := Lib.hid (name_q s true hnm)
          cases j with
          | zero =>
            simp only [Nat.zero_mul, Nat.add_zero] at k0 k1 k2
            by_cases hu : 72057594037927936 < u
            · have hu' : decide (72057594037927936 < u) = true := by simpa using hu
              have hu2 : ¬ u ≤ 72057594037927936 := by omega
              have HFL := Lib.hid (hfail (by rw [if_pos rfl] <;> simp [okN, hnm, hu2]))
              clear hfail htake
              go_wp2_with fail
              (go_quiet ((go_at_call 31; exact Calls.quiet_of_same (HNQ.out _))))
              go_wp2
              go_ret
              refine ⟨by unfold chkF; rw [HFL.out]; rfl, (HF.out.alloc _).drN _⟩
            · have hu' : decide (72057594037927936 < u) = false := by simpa using hu
              have hu2 : u ≤ 72057594037927936 := by omega
              by_cases hd : 72057594037927936 < d
              · have hd' : decide (72057594037927936 < d) = true := by simpa using hd
                have hd2 : ¬ d ≤ 72057594037927936 := by omega
                have HFL := Lib.hid (hfail (by rw [if_pos rfl] <;> simp [okN, hnm, hu2, hd2]))
                clear hfail htake
                go_wp2_with fail
                (go_quiet ((go_at_call 31; exact Calls.quiet_of_same (HNQ.out _))))
                go_wp2
                go_ret
                refine ⟨by unfold chkF; rw [HFL.out]; rfl, (HF.out.alloc _).drN _⟩
              · have hd' : decide (72057594037927936 < d) = false := by simpa using hd
                have hd2 : d ≤ 72057594037927936 := by omega
                by_cases hu3 : u = 0
                · subst hu3
                  by_cases hd3 : d = 0
                  · subst hd3
                    have HFL := Lib.hid (hfail (by rw [if_pos rfl] <;> simp [okN, hnm]))
                    clear hfail htake
                    go_wp2_with fail
                    (go_quiet ((go_at_call 31; exact Calls.quiet_of_same (HNQ.out _))))
                    go_wp2
                    go_ret
                    refine ⟨by unfold chkF; rw [HFL.out]; rfl, (HF.out.alloc _).drN _⟩
                  · have hd4 : (d == 0) = false := by simpa using hd3
                    have ht2 : okL none (l.take (0 + 1)) = true := by
                      rw [htake, HOK.out, if_pos rfl]
                      simp [okN, hnm, hd2, hd3]
                    have HT := Lib.hid ht2
                    clear hfail htake ht2
                    go_wp2_with fail
                    (go_quiet ((go_at_call 31; exact Calls.quiet_of_same (HNQ.out _))))
                    go_wp2
                    go_roundw
                    case rel => exact ⟨1, by omega, by go_num, HT.out, (HF.out.alloc _).drN _⟩
                    case measure => simp [intOf]; omega
                · have hu4 : (u == 0) = false := by simpa using hu3
                  have ht2 : okL none (l.take (0 + 1)) = true := by
                    rw [htake, HOK.out, if_pos rfl]
                    simp [okN, hnm, hu2, hd2, hu3]
                  have HT := Lib.hid ht2
                  clear hfail htake ht2
                  go_wp2_with fail
                  (go_quiet ((go_at_call 31; exact Calls.quiet_of_same (HNQ.out _))))
                  go_wp2
                  go_roundw
                  case rel => exact ⟨1, by omega, by go_num, HT.out, (HF.out.alloc _).drN _⟩
                  case measure => simp [intOf]; omega
          | succ j =>
            obtain ⟨⟨sp, up, dp⟩, hp0⟩ : ∃ a, l[j]? = some a := ⟨_, List.getElem?_eq_getElem (by omega)⟩
            have m0 := g4 (j * 3) _ (flat3_get l j _ hp0).1
            simp only at m0
            have hpe : Option.map (fun x : Nd => x.1) l[j + 1 - 1]? = some sp := by simp [hp0]
            have hj1 : (0 : Int) < (j : Int) + 1 := by omega
            have hd1 : decide ((0 : Int) < (j : Int) + 1) = true := by first | (simp; done) | (simp; omega)
            by_cases hlt : Op.bytesLess sp.toList s.toList = true
            · by_cases hu : 72057594037927936 < u
              · have hu' : decide (72057594037927936 < u) = true := by simpa using hu
                have hu2 : ¬ u ≤ 72057594037927936 := by omega
                have HFL := Lib.hid (hfail (by rw [if_neg (by omega)] <;> simp [okN, hnm, hp0, hlt, hu2]))
                clear hfail htake
                go_wp2_with fail
                (go_quiet ((go_at_call 31; exact Calls.quiet_of_same (HNQ.out _))))
                go_wp2
                go_ret
                refine ⟨by unfold chkF; rw [HFL.out]; rfl, (HF.out.alloc _).drN _⟩
              · have hu' : decide (72057594037927936 < u) = false := by simpa using hu
                have hu2 : u ≤ 72057594037927936 := by omega
                by_cases hd : 72057594037927936 < d
                · have hd' : decide (72057594037927936 < d) = true := by simpa using hd
                  have hd2 : ¬ d ≤ 72057594037927936 := by omega
                  have HFL := Lib.hid (hfail (by rw [if_neg (by omega)] <;> simp [okN, hnm, hp0, hlt, hu2, hd2]))
                  clear hfail htake
                  go_wp2_with fail
                  (go_quiet ((go_at_call 31; exact Calls.quiet_of_same (HNQ.out _))))
                  go_wp2
                  go_ret
                  refine ⟨by unfold chkF; rw [HFL.out]; rfl, (HF.out.alloc _).drN _⟩
                · have hd' : decide (72057594037927936 < d) = false := by simpa using hd
                  have hd2 : d ≤ 72057594037927936 := by omega
                  by_cases hu3 : u = 0
                  · subst hu3
                    by_cases hd3 : d = 0
                    · subst hd3
                      have HFL := Lib.hid (hfail (by rw [if_neg (by omega)] <;> simp [okN, hnm, hp0, hlt]))
                      clear hfail htake
                      go_wp2_with fail
                      (go_quiet ((go_at_call 31; exact Calls.quiet_of_same (HNQ.out _))))
                      go_wp2
                      go_ret
                      refine ⟨by unfold chkF; rw [HFL.out]; rfl, (HF.out.alloc _).drN _⟩
                    · have hd4 : (d == 0) = false := by simpa using hd3
                      have ht2 : okL none (l.take (j + 1 + 1)) = true := by
                        rw [htake, HOK.out, if_neg (by omega)]
                        simp [okN, hnm, hp0, hlt, hd2, hd3]
                      have HT := Lib.hid ht2
                      clear hfail htake ht2
                      go_wp2_with fail
                      (go_quiet ((go_at_call 31; exact Calls.quiet_of_same (HNQ.out _))))
                      go_wp2
                      go_roundw
                      case rel => exact ⟨j + 1 + 1, by omega, by go_num, HT.out, (HF.out.alloc _).drN _⟩
                      case measure => simp [intOf]; omega
                  · have hu4 : (u == 0) = false := by simpa using hu3
                    have ht2 : okL none (l.take (j + 1 + 1)) = true := by
                      rw [htake, HOK.out, if_neg (by omega)]
                      simp [okN, hnm, hp0, hlt, hu2, hd2, hu3]
                    have HT := Lib.hid ht2
                    clear hfail htake ht2
                    go_wp2_with fail
                    (go_quiet ((go_at_call 31; exact Calls.quiet_of_same (HNQ.out _))))
                    go_wp2
                    go_roundw
                    case rel => exact ⟨j + 1 + 1, by omega, by go_num, HT.out, (HF.out.alloc _).drN _⟩
                    case measure => simp [intOf]; omega
            · have hlt' : Op.bytesLess sp.toList s.toList = false := by simpa using hlt
              have HFL := Lib.hid (hfail (by rw [if_neg (by omega)] <;> simp [okN, hp0, hlt']))
              clear hfail htake
              go_wp2_with fail
              (go_quiet ((go_at_call 31; exact Calls.quiet_of_same (HNQ.out _))))
              go_wp2
              go_ret
              refine ⟨by unfold chkF; rw [HFL.out]; rfl, (HF.out.alloc _).drN _⟩
        · have hnm' : nameF s = false := by simpa using hnm
          have HNQ := Lib.hid (name_q s false hnm')
          have HFL := Lib.hid (hfail (by simp [okN, hnm']))
          clear hfail htake
          go_wp2_with fail
          (go_quiet ((go_at_call 31; exact Calls.quiet_of_same (HNQ.out _))))
          go_wp2
          go_ret
          refine ⟨by unfold chkF; rw [HFL.out]; rfl, (HF.out.alloc _).drN _⟩
      · obtain rfl : j = l.length := by omega
        have e : rightL l = true := by
          unfold rightL
          have := HOK.out
          rw [List.take_length] at this
          simp [this, hl]
        have E := Lib.hid e
        clear e
        go_wp2
        go_ret
        exact ⟨by unfold chkF; rw [E.out]; rfl, hF⟩
  · have hl' : 64 < (l.length : Int) := by omega
    have e : rightL l = false := by unfold rightL; simp [hl]
    have E := Lib.hid e
    clear e
    go_enter Try.func26, Try.ntmps26
    go_wp2
    go_ret
    exact ⟨by unfold chkF; rw [E.out]; rfl, Fr.refl _ _⟩
end Go.Proofs.Ytanbfejhhnhabaa

/- The package crdt: checked, Merge. -/
namespace Go.Proofs.Ytanbfejhhnhabaa
open Go.RowKit Go.Maps Go.Sort
set_option maxRecDepth 100000
set_option linter.unusedVariables false
set_option linter.unusedSimpArgs false
set_option maxHeartbeats 8000000
theorem nameF_sz {s : ByteArray} (h : nameF s = true) : s.size ≤ 64 := by
  unfold nameF at h
  simp at h
  omega
theorem bytesLess_lt (a b : ByteArray) : Op.bytesLess a.toList b.toList = decide (bts a < bts b) := by
  unfold bts
  rw [bytesLess_eq, ByteArray.toList_eq, ByteArray.toList_eq]
theorem okL_facts : ∀ (l : List Nd) (p : Option ByteArray), okL p l = true → Srt l ∧ (∀ q, p = some q → ∀ x ∈ l, bts q < bts x.1) ∧ ∀ x ∈ l, x.1.size ≤ 64 ∧ x.2.1 ≤ 72057594037927936 ∧ x.2.2 ≤ 72057594037927936
  | [], p, _ => ⟨Srt.nil, by simp, by simp⟩
  | x :: r, p, h => by
    simp only [okL, Bool.and_eq_true] at h
    obtain ⟨h1, h2⟩ := h
    obtain ⟨s1, s2, s3⟩ := okL_facts r (some x.1) h2
    simp only [okN, Bool.and_eq_true, decide_eq_true_eq] at h1
    obtain ⟨⟨⟨⟨k1, k2⟩, k3⟩, k4⟩, _⟩ := h1
    refine ⟨List.pairwise_cons.2 ⟨fun y hy => s2 x.1 rfl y hy, s1⟩, ?_, ?_⟩
    · rintro q rfl y hy
      have hq : bts q < bts x.1 := by
        have : Op.bytesLess q.toList x.1.toList = true := k2
        rw [bytesLess_lt] at this
        simpa using this
      rcases List.mem_cons.1 hy with rfl | hy
      · exact hq
      · exact bts_trans hq (s2 x.1 rfl y hy)
    · intro y hy
      rcases List.mem_cons.1 hy with rfl | hy
      · exact ⟨nameF_sz k1, k3, k4⟩
      · exact s3 y hy
theorem right_len {l : List Nd} (h : rightL l = true) : l.length ≤ 64 := by unfold rightL at h; simp at h; exact h.1
theorem right_good {l : List Nd} (h : rightL l = true) : Good l := by
  unfold rightL at h
  simp only [Bool.and_eq_true] at h
  obtain ⟨s1, _, s3⟩ := okL_facts l none h.2
  exact ⟨s1, fun a ha => (s3 a ha).1⟩
/-- Numbers that are no less than nought. -/
def Pos (l : List Nd) : Prop := ∀ a ∈ l, 0 ≤ a.2.1 ∧ 0 ≤ a.2.2
theorem right_bnd {l : List Nd} (h : rightL l = true) (hp : Pos l) : Bnd l := by
  unfold rightL at h
  simp only [Bool.and_eq_true] at h
  obtain ⟨_, _, s3⟩ := okL_facts l none h.2
  exact fun a ha => ⟨(hp a ha).1, (s3 a ha).2.1, (hp a ha).2, (s3 a ha).2.2⟩
/-- What a walk knows of a list of nodes that came in. -/
structure Arg (l : List Nd) : Prop where
  sz : ∀ a ∈ l, a.1.size ≤ maxLen
  pos : Pos l
  len : l.length ≤ 9223372036854775806
theorem Good.arg {l : List Nd} (h : Good l) (hp : Pos l) (hl : l.length ≤ 9223372036854775806) : Arg l := ⟨fun a ha => by have := h.sz a ha; unfold maxLen; omega, hp, hl⟩
theorem chk (v : Value) (l : List Nd) (w : World) (h : RN w v l) (ha : Arg l) :
    Calls Try.prog 26 #[v] w fun e w' => e = .returned (.int .i64 (chkF l)) ∧ Fr [] w w' := check_any v l w h ha.sz ha.pos ha.len
theorem chkF_ok {l : List Nd} (h : rightL l = true) : chkF l = 0 := by unfold chkF; rw [if_pos h]
theorem chkF_no {l : List Nd} (h : ¬ rightL l = true) : chkF l = 230 := by unfold chkF; rw [if_neg h]
def chk2 (a b : List Nd) : Int := if rightL a = true then chkF b else 230
theorem checked_any (b : Nat) (v1 v2 : Value) (l1 l2 : List Nd) (w : World) (hB : Blk w b #[v1, v2] 28) (h1 : RN w v1 l1) (h2 : RN w v2 l2) (a1 : Arg l1) (a2 : Arg l2) :
    Calls Try.prog 41 #[.slice (some ⟨b, 0, none⟩) 2 2] w fun e w' => e = .returned (.int .i64 (chk2 l1 l2)) ∧ Fr [] w w' := by
  have H1 := Lib.hid h1
  have H2 := Lib.hid h2
  have HA1 := Lib.hid a1
  have HA2 := Lib.hid a2
  obtain ⟨p1, q1, e1⟩ := h1.at_
  obtain ⟨p2, q2, e2⟩ := h2.at_
  subst e1 e2
  have hc := hB.cell
  have hl := hB.lt
  clear h1 h2 a1 a2
  go_enter Try.func41, Try.ntmps41
  go_wp2
  by_cases hr1 : rightL l1 = true
  · have ec : chk2 l1 l2 = chkF l2 := by unfold chk2; rw [if_pos hr1]
    have EC := Lib.hid ec
    have HC1 := Lib.hid (chkF_ok hr1)
    clear ec hr1
    go_loopw [8] (fun u wr => ∃ j : Nat, j ≤ 2 ∧ u = .int .i64 j ∧ (j = 2 → chkF l2 = 0) ∧ Fr [] w wr) (fun u _ => 2 - (intOf u).toNat)
    case atStart => exact ⟨0, by omega, rfl, by omega, Fr.refl _ _⟩
    case round =>
      obtain ⟨j, hj, rfl, h2z, hF⟩ := hrel
      have hBr := hF.blk hB (by simp)
      have hcr := hBr.cell
      have hlr := hBr.lt
      have hj3 : j = 0 ∨ j = 1 ∨ j = 2 := by omega
      rcases hj3 with rfl | rfl | rfl
      · clear h2z
        go_wp2_with ((go_at_call 26); (with_reducible refine (chk _ l1 _ (H1.out.fr0 hF) HA1.out).mono ?_); rintro e w1 ⟨rfl, hF1⟩; have hz := HC1.out)
        go_roundw
        case rel => exact ⟨1, by omega, by go_num, by omega, hF.trans hF1⟩
        case measure => simp [intOf]
      · clear h2z
        by_cases hr2 : rightL l2 = true
        · have HC2 := Lib.hid (chkF_ok hr2)
          clear hr2
          go_wp2_with ((go_at_call 26); (with_reducible refine (chk _ l2 _ (H2.out.fr0 hF) HA2.out).mono ?_); rintro e w1 ⟨rfl, hF1⟩; have hz := HC2.out)
          go_roundw
          case rel => exact ⟨2, by omega, by go_num, fun _ => HC2.out, hF.trans hF1⟩
          case measure => simp [intOf]
        · have HC2 := Lib.hid (chkF_no hr2)
          clear hr2
          go_wp2_with ((go_at_call 26); (with_reducible refine (chk _ l2 _ (H2.out.fr0 hF) HA2.out).mono ?_); rintro e w1 ⟨rfl, hF1⟩; have hz := HC2.out)
          go_ret
          exact ⟨by rw [EC.out, HC2.out]; rfl, hF.trans hF1⟩
      · have HC2 := Lib.hid (h2z rfl)
        clear h2z
        go_wp2
        go_ret
        exact ⟨by rw [EC.out, HC2.out]; rfl, hF⟩
  · have ec : chk2 l1 l2 = 230 := by unfold chk2; rw [if_neg hr1]
    have EC := Lib.hid ec
    have HC1 := Lib.hid (chkF_no hr1)
    clear ec hr1
    refine wp_loop_rounds 1 ?_
    rw [rounds_succ]
    go_wp2_with ((go_at_call 26); (with_reducible refine (chk _ l1 _ H1.out HA1.out).mono ?_); rintro e w1 ⟨rfl, hF1⟩; have hz := HC1.out)
    go_ret
    exact ⟨by rw [EC.out]; rfl, hF1⟩
end Go.Proofs.Ytanbfejhhnhabaa

namespace Go.Proofs.Ytanbfejhhnhabaa
open Go.RowKit Go.Maps Go.Sort
set_option maxRecDepth 100000
set_option linter.unusedVariables false
set_option linter.unusedSimpArgs false
set_option maxHeartbeats 8000000
/-- What Merge answers. -/
def mergeF (a b : List Nd) : List Nd × Int :=
  if rightL a = true ∧ rightL b = true then (if (mergeL a b).length ≤ 64 then (mergeL a b, 0) else ([], 3)) else ([], 230)
def MergePost (a b : List Nd) (w : World) (e : Ending) (w' : World) : Prop :=
  ∃ v, e = .returned (.tuple #[v, .int .i64 (mergeF a b).2]) ∧ SN w' w.heap.size v (mergeF a b).1 ∧ Fr [] w w'
theorem MergePost.mk {a b l : List Nd} {y : Int} {v : Value} {w w' : World} (h : mergeF a b = (l, y)) (hS : SN w' w.heap.size v l) (hF : Fr [] w w') : MergePost a b w (.returned (.tuple #[v, .int .i64 y])) w' :=
  ⟨v, by rw [h], by rw [h]; exact hS, hF⟩
theorem fold_good {a b : List Nd} (ha : Good a) (hb : ∀ x ∈ b, x.1.size ≤ 64) : ∀ out, Good out → Good (b.foldl (mrg a) out) := by
  induction b with
  | nil => intro out h; exact h
  | cons x b ih =>
    intro out h
    refine ih (fun y hy => hb y (List.mem_cons_of_mem _ hy)) _ ⟨h.st.put _, ?_⟩
    intro y hy
    rcases mem_putL hy with rfl | hy
    · exact hb x List.mem_cons_self
    · exact h.sz y hy
theorem fold_pos {a b : List Nd} (ha : Pos a) (hb : Pos b) : ∀ out, Pos out → Pos (b.foldl (mrg a) out) := by
  induction b with
  | nil => intro out h; exact h
  | cons x b ih =>
    intro out h
    refine ih (fun y hy => hb y (List.mem_cons_of_mem _ hy)) _ ?_
    intro y hy
    rcases mem_putL hy with rfl | hy
    · have := hb x List.mem_cons_self
      simp only
      omega
    · exact h y hy
theorem fold_take {a b : List Nd} {j : Nat} {x : Nd} (h : b[j]? = some x) (out : List Nd) : (b.take (j + 1)).foldl (mrg a) out = mrg a ((b.take j).foldl (mrg a) out) x := by
  rw [take_snoc h, List.foldl_append]; rfl
theorem fold_len (a : List Nd) : ∀ (b out : List Nd), Srt out → (b.foldl (mrg a) out).length ≤ out.length + b.length := by
  intro b
  induction b with
  | nil => intro out _; simp
  | cons x b ih =>
    intro out h
    have h1 := ih (mrg a out x) (h.put _)
    have h2 : (mrg a out x).length ≤ out.length + 1 := by unfold mrg; rw [len_putL h]; split <;> omega
    simp only [List.foldl_cons, List.length_cons]
    omega
theorem fold_at {a b : List Nd} (ha : Srt a) (hb : Srt b) {j : Nat} {x : Nd} (h : b[j]? = some x) : lk ((b.take j).foldl (mrg a) a) x.1 = lk a x.1 := by
  have hbj : Srt (b.take j) := hb.sublist (List.take_sublist _ _)
  rw [fold_lk a _ a hbj]
  have hs : Srt (b.take j ++ [x]) := by rw [← take_snoc h]; exact hb.sublist (List.take_sublist _ _)
  have : lk (b.take j) x.1 = none := lk_none (fun z hz => bts_ne ((List.pairwise_append.1 hs).2.2 z hz x (by simp)))
  rw [this]
theorem merge_any (v1 v2 : Value) (l1 l2 : List Nd) (w : World) (h1 : RN w v1 l1) (h2 : RN w v2 l2) (a1 : Arg l1) (a2 : Arg l2) :
    Calls Try.prog 20 #[v1, v2] w (MergePost l1 l2 w) := by
  have H1 := Lib.hid h1
  have H2 := Lib.hid h2
  have HA1 := Lib.hid a1
  have HA2 := Lib.hid a2
  obtain ⟨p1, q1, e1⟩ := h1.at_
  obtain ⟨p2, q2, e2⟩ := h2.at_
  subst e1 e2
  clear h1 h2 a1 a2
  have hB := Blk.new w #[.slice p1 l1.length q1, .slice p2 l2.length q2] 28
  have hF0 : Fr [] w (w.alloc (.cells #[.slice p1 l1.length q1, .slice p2 l2.length q2] 28)) := (Fr.refl _ _).alloc _
  have HB := Lib.hid hB
  clear hB
  by_cases hr : rightL l1 = true ∧ rightL l2 = true
  · obtain ⟨hr1, hr2⟩ := hr
    have hg1 := right_good hr1
    have hg2 := right_good hr2
    have hn1 := right_len hr1
    have hn2 := right_len hr2
    have ec : chk2 l1 l2 = 0 := by unfold chk2; rw [if_pos hr1]; exact chkF_ok hr2
    have em : mergeF l1 l2 = if (mergeL l1 l2).length ≤ 64 then (mergeL l1 l2, 0) else ([], 3) := by unfold mergeF; rw [if_pos ⟨hr1, hr2⟩]
    have EC := Lib.hid ec
    have EM := Lib.hid em
    have HG1 := Lib.hid hg1
    have HG2 := Lib.hid hg2
    clear ec em hg1 hg2 hr1 hr2
    go_enter Try.func20, Try.ntmps20
    go_wp2_with (first | ((go_at_call 41); (with_reducible refine (checked_any w.heap.size _ _ l1 l2 _ HB.out (H1.out.fr0 hF0) (H2.out.fr0 hF0) HA1.out HA2.out).mono ?_); rintro e w1 ⟨rfl, hF1⟩; have hz := EC.out) | ((go_at_call 38); (with_reducible refine (nodes_any _ l1 _ (H1.out.fr0 (hF0.trans hF1)) HG1.out ?_).mono ?_); (focus (unfold maxLen; omega)); rintro e w2 ⟨b, rfl, hM, hb, hF2⟩))
    have HF2 := Lib.hid ((hF0.trans hF1).trans hF2)
    have hz1 := (hF0.trans hF1).size
    clear hz hF0 hF1 hF2
    go_loopw [22] (fun u wr => ∃ j : Nat, j ≤ l2.length ∧ u = .int .i64 j ∧ NM wr b (l1.length + j) ((l2.take j).foldl (mrg l1) l1) ∧ Fr [b] w2 wr) (fun u _ => l2.length - (intOf u).toNat)
    case atStart => exact ⟨0, by omega, rfl, hM, Fr.refl _ _⟩
    case round =>
      obtain ⟨j, hj, rfl, hMr, hF⟩ := hrel
      clear hM
      have hFw : Fr [] w wr := ((HF2.out.mono (by simp)).trans hF).weaken (by intro z hz; simp at hz; subst hz; right; omega)
      have hltj : (l2.take j).length = j := by simp; omega
      have hgf : Good ((l2.take j).foldl (mrg l1) l1) := fold_good HG1.out (fun x hx => HG2.out.sz x (List.mem_of_mem_take hx)) _ HG1.out
      have hlf := fold_len l1 (l2.take j) l1 HG1.out.st
      by_cases hjl : j < l2.length
      · obtain ⟨⟨s, u, d⟩, hj0⟩ : ∃ a, l2[j]? = some a := ⟨_, List.getElem?_eq_getElem hjl⟩
        obtain ⟨g, o, c', he, g1, g2, g3, g4⟩ := (H2.out.fr0 hFw).cells (by omega)
        simp only [Value.slice.injEq] at he
        obtain ⟨rfl, -, rfl⟩ := he
        have k0 := g4 (j * 3) _ (flat3_get l2 j _ hj0).1
        have k1 := g4 (j * 3 + 1) _ (flat3_get l2 j _ hj0).2.1
        have k2 := g4 (j * 3 + 2) _ (flat3_get l2 j _ hj0).2.2
        rw [← Nat.add_assoc] at k1 k2
        simp only at k0 k1 k2
        have hsz : s.size ≤ maxLen := by have := HG2.out.sz _ (List.mem_of_getElem? hj0); unfold maxLen; simp at this; omega
        have hat := fold_at HG1.out.st HG2.out.st hj0
        have hft := fold_take (a := l1) hj0 l1
        have hMa := hMr.fr0 ((Fr.refl [] wr).alloc (.cells #[.string s, .int .u64 u, .int .u64 d] 33))
        have hlk := hMa.look s hsz
        simp only at hat
        rw [lkV_of hat] at hlk
        obtain ⟨s', hv⟩ := lkV_ex l1 s
        rw [hv] at hlk
        obtain ⟨u', d', ho⟩ : ∃ u' d', ofL l1 s = (u', d') := ⟨_, _, rfl⟩
        rw [ho] at hlk
        have hb1 := (Blk.new wr #[.string s, .int .u64 u, .int .u64 d] 33).alloc (.cells #[.string s', .int .u64 u', .int .u64 d'] 33)
        have hb2 : Blk ((wr.alloc (.cells #[.string s, .int .u64 u, .int .u64 d] 33)).alloc (.cells #[.string s', .int .u64 u', .int .u64 d'] 33)) (wr.heap.size + 1) #[.string s', .int .u64 u', .int .u64 d'] 33 := Blk.mk0 _ _ _ _ (by simp)
        obtain ⟨w5, hup, hM5, hF5⟩ := (hMa.fr0 ((Fr.refl [] _).alloc (.cells #[.string s', .int .u64 u', .int .u64 d'] 33))).store s hsz (max u' u) (max d' d) (by unfold maxLen; omega)
        have hpe : putL ((l2.take j).foldl (mrg l1) l1) (s, max u' u, max d' d) = (l2.take (j + 1)).foldl (mrg l1) l1 := by
          rw [hft]
          unfold mrg
          rw [ho]
        rw [hpe] at hM5
        have HM5 := Lib.hid hM5
        have hbc1 := hb1.cell
        have hbc2 := hb2.cell
        have hc0 := (Blk.new wr #[.string s, .int .u64 u, .int .u64 d] 33).cell
        have hgl : g < wr.heap.size := g1
        clear hpe hft hat hv ho g4 hj0 hMr hMa hM5 hgf hlf hltj
        go_wp2
        go_roundw
        case rel => exact ⟨j + 1, by omega, by go_num, HM5.out, (((hF.alloc _).alloc _).trans hF5)⟩
        case measure => simp [intOf]; omega
      · obtain rfl : j = l2.length := by omega
        rw [List.take_length] at hMr hgf hlf
        have hML : mergeL l1 l2 = l2.foldl (mrg l1) l1 := rfl
        rw [← hML] at hMr hgf hlf
        clear hML hltj
        have hsz := hMr.size hgf
        have HFw := Lib.hid hFw
        clear hFw
        by_cases hm : (mergeL l1 l2).length ≤ 64
        · have e := EM.out
          rw [if_pos hm] at e
          have E := Lib.hid e
          have hm' : ¬ 64 < ((mergeL l1 l2).length : Int) := by omega
          clear e
          go_wp2_with ((go_at_call 36); (with_reducible refine (state_any b _ (mergeL l1 l2) _ hMr hgf (by omega) (by omega)).mono ?_); rintro e w4 ⟨v4, rfl, hS4, hF4⟩)
          go_ret2
          exact MergePost.mk E.out (hS4.base_le HFw.out.size) (HFw.out.trans hF4)
        · have e := EM.out
          rw [if_neg hm] at e
          have E := Lib.hid e
          have hm' : 64 < ((mergeL l1 l2).length : Int) := by omega
          clear e
          go_wp2
          go_ret2
          exact MergePost.mk E.out (SV.nil _ _ _) HFw.out
  · have em : mergeF l1 l2 = ([], 230) := by unfold mergeF; rw [if_neg hr]
    have ec : chk2 l1 l2 = 230 := by
      unfold chk2
      by_cases h1 : rightL l1 = true
      · rw [if_pos h1]; exact chkF_no (fun h2 => hr ⟨h1, h2⟩)
      · rw [if_neg h1]
    have EC := Lib.hid ec
    have EM := Lib.hid em
    clear ec em hr
    go_enter Try.func20, Try.ntmps20
    go_wp2_with ((go_at_call 41); (with_reducible refine (checked_any w.heap.size _ _ l1 l2 _ HB.out (H1.out.fr0 hF0) (H2.out.fr0 hF0) HA1.out HA2.out).mono ?_); rintro e w1 ⟨rfl, hF1⟩; have hz := EC.out)
    go_ret2
    exact MergePost.mk EM.out (SV.nil _ _ _) (hF0.trans hF1)
end Go.Proofs.Ytanbfejhhnhabaa
