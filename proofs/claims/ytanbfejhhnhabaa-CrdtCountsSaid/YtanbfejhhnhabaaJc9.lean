/- The reference's Merge. -/
import Derived.Test.YtanbfejhhnhabaaJc8
import Derived.Test.YtanbfejhhnhabaaJc4
import Derived.Test.YtanbfejhhnhabaaJc7
import Derived.Test.YtanbfejhhnhabaaJc3
/- The reference's Value. -/
namespace Go.Proofs.Ytanbfejhhnhabaa
open Go.RowKit Go.Maps Go.Sort
set_option maxRecDepth 100000
set_option linter.unusedVariables false
set_option linter.unusedSimpArgs false
set_option maxHeartbeats 4000000
theorem rvalue_any (v : Value) (l : List Nd) (w : World) (h : RN w v l) (a : Arg l) :
    Calls Try.prog 16 #[v] w fun e w' => e = .returned (.tuple #[.int .i64 (valueF l).1, .int .i64 (valueF l).2]) ∧ Fr [] w w' := by
  obtain ⟨A, c, rfl⟩ := h.at_
  have H := Lib.hid h
  have HA := Lib.hid a
  clear h a
  by_cases r : rightL l = true
  · have em : valueF l = (valL l, 0) := by unfold valueF; rw [if_pos r]
    have hl := right_len r
    have hb := right_bnd r HA.out.pos
    have HB := Lib.hid hb
    have R := Lib.hid r
    have EM := Lib.hid em
    clear r em hb
    go_enter Try.func16, Try.ntmps16
    go_wp2_with fail
    go_at_call 27
    refine (rright_to H.out HA.out R.out).mono ?_
    rintro e w1 ⟨rfl, hF1⟩
    have HF1 := Lib.hid hF1
    clear hF1
    go_wp2_with fail
    go_loopw [4, 12] (fun x u wr => ∃ j : Nat, j ≤ l.length ∧ u = .int .i64 j ∧ x = .int .i64 (valL (l.take j)) ∧ Fr [] w wr) (fun _ u _ => l.length - (intOf u).toNat)
    case atStart => exact ⟨0, by omega, rfl, rfl, HF1.out⟩
    case round =>
      obtain ⟨j, hj, rfl, rfl, hF⟩ := hrel
      by_cases hjl : j < l.length
      · obtain ⟨⟨s, u, d⟩, hj0⟩ : ∃ a, l[j]? = some a := ⟨_, List.getElem?_eq_getElem hjl⟩
        obtain ⟨g, o, c', he, g1, g2, g3, g4⟩ := (H.out.fr0 hF).cells (by omega)
        simp only [Value.slice.injEq] at he
        obtain ⟨rfl, -, rfl⟩ := he
        have k0 := g4 (j * 3) _ (flat3_get l j _ hj0).1
        have k1 := g4 (j * 3 + 1) _ (flat3_get l j _ hj0).2.1
        have k2 := g4 (j * 3 + 2) _ (flat3_get l j _ hj0).2.2
        rw [← Nat.add_assoc] at k1 k2
        have hbd := HB.out _ (List.mem_of_getElem? hj0)
        obtain ⟨hu0, hu1, hd0, hd1⟩ := hbd
        simp only at k0 k1 k2 hu0 hu1 hd0 hd1
        have hv := valL_bd (l.take j) (fun x hx => HB.out x (List.mem_of_mem_take hx))
        have hlt : (l.take j).length = j := by simp; omega
        rw [hlt] at hv
        obtain ⟨x, hx⟩ : ∃ x, x = valL (l.take j) := ⟨_, rfl⟩
        have hnew : valL (l.take (j + 1)) = x + (u - d) := by rw [take_snoc hj0, valL_snoc, hx]
        rw [← hx] at hv ⊢
        have hx1 : -4611686018427387904 ≤ x := by omega
        have hx2 : x ≤ 4611686018427387904 := by omega
        have HN := Lib.hid hnew
        have hb := Blk.new wr #[.string s, .int .u64 u, .int .u64 d] 33
        have hbc := hb.cell
        have hbl := hb.lt
        clear hx hnew g4 hj0 hv hlt
        go_wp2
        go_roundw
        case rel => exact ⟨j + 1, by omega, by go_num, by rw [HN.out], hF.alloc _⟩
        case measure => simp [intOf]; omega
      · obtain rfl : j = l.length := by omega
        rw [List.take_length]
        go_wp2
        go_ret2
        exact ⟨by rw [EM.out]; rfl, hF⟩
  · have em : valueF l = (0, 230) := by unfold valueF; rw [if_neg r]
    have R := Lib.hid (Bool.eq_false_iff.2 r)
    have EM := Lib.hid em
    clear r em
    go_enter Try.func16, Try.ntmps16
    go_wp2_with fail
    go_at_call 27
    refine (rright_to H.out HA.out R.out).mono ?_
    rintro e w1 ⟨rfl, hF1⟩
    go_wp2_with fail
    go_ret2
    exact ⟨by rw [EM.out]; rfl, hF1⟩
end Go.Proofs.Ytanbfejhhnhabaa

/- The reference's put, walked. -/
namespace Go.Proofs.Ytanbfejhhnhabaa
open Go.RowKit Go.Maps Go.Sort
set_option maxRecDepth 100000
set_option linter.unusedVariables false
set_option linter.unusedSimpArgs false
set_option maxHeartbeats 4000000
theorem SV.noblk {w : World} {base size : Nat} {v : Value} {n : Nat} {xs : List Value} (h : SV w base size v n xs) {z : Nat} (hz : z < base ∨ w.heap.size ≤ z) : z ∉ v.ownBlock.toList := fun hm => by
  rw [Option.mem_toList] at hm
  have := h.own hm
  omega
theorem put_any (v : Value) (l : List Nd) (s : ByteArray) (u d : Int) (w : World) (h : RN w v l) (hl : l.length ≤ 4096) :
    Calls Try.prog 33 #[v, ndV s u d] w fun e w' => ∃ v', e = .returned v' ∧ SN w' w.heap.size v' (CC.putR (s, u, d) false l) ∧ Fr [] w w' := by
  have H := Lib.hid h
  obtain ⟨pa, pc, e⟩ := h.at_
  subst e
  clear h
  obtain ⟨i0, hi0, hz0, hz1, hz2⟩ := info_parts infoN
  go_enter Try.func33, Try.ntmps33
  go_wp2_with fail
  go_loopw [5, 6, 11] (fun x5 x6 x11 wr => ∃ (j : Nat) (done : Bool) (out : List Nd), j ≤ l.length ∧ x6 = .bool done ∧ x11 = .int .i64 j ∧ Hid (SN wr (w.heap.size + 1) x5 out) ∧ Hid (out ++ CC.putR (s, u, d) done (l.drop j) = CC.putR (s, u, d) false l) ∧ out.length + (bif done then 0 else 1) ≤ j + 1 ∧ Hid (Fr [] (w.alloc (.cells #[.string s, .int .u64 u, .int .u64 d] 33)) wr)) (fun _ _ u _ => l.length - (intOf u).toNat)
  case atStart => exact ⟨0, false, [], by omega, rfl, rfl, Lib.hid (SV.nil _ _ _), Lib.hid rfl, by simp, Lib.hid (Fr.refl _ _)⟩
  case round =>
    obtain ⟨j, done, out, hj, rfl, rfl, HX, HP, hol, HF⟩ := hrel
    obtain ⟨xa, xc, hx⟩ := HX.out.at_
    subst hx
    have hz0' := HF.out.size
    have hz1' : w.heap.size + 1 ≤ wr.heap.size := by simpa using hz0'
    have hb3 := HF.out.blk (Blk.new w #[.string s, .int .u64 u, .int .u64 d] 33) (by simp)
    have hc3 := hb3.cell
    have hl3 := hb3.lt
    have HB3 := Lib.hid hb3
    clear hb3 hz0'
    by_cases hjl : j < l.length
    · obtain ⟨⟨s', u', d'⟩, hj0⟩ : ∃ a, l[j]? = some a := ⟨_, List.getElem?_eq_getElem hjl⟩
      have hFw : Fr [] w wr := ((Fr.refl [] w).alloc _).trans HF.out
      obtain ⟨g, o, c', he, g1, g2, g3, g4⟩ := (H.out.fr0 hFw).cells (by omega)
      simp only [Value.slice.injEq] at he
      obtain ⟨rfl, -, rfl⟩ := he
      have k0 := g4 (j * 3) _ (flat3_get l j _ hj0).1
      have k1 := g4 (j * 3 + 1) _ (flat3_get l j _ hj0).2.1
      have k2 := g4 (j * 3 + 2) _ (flat3_get l j _ hj0).2.2
      rw [← Nat.add_assoc] at k1 k2
      simp only at k0 k1 k2
      have hdx : l.drop j = (s', u', d') :: l.drop (j + 1) := by
        rw [List.drop_eq_getElem_cons hjl]; congr 1; rw [List.getElem?_eq_getElem hjl] at hj0; exact Option.some.inj hj0
      have HD := Lib.hid hdx
      clear g4 hj0 hFw hdx
      cases done with
      | true =>
        simp only [cond_true] at hol
        by_cases hs : s' = s
        · have hq : (s'.toList == s.toList) = true := by rw [hs]; simp
          have hq2 : s'.toList = s.toList := by rw [hs]
          have HQ : Hid ((out) ++ CC.putR (s, u, d) true (l.drop (j + 1)) = CC.putR (s, u, d) false l) := by
            refine Lib.hid ?_
            rw [← HP.out, HD.out]
            simp [CC.putR, hs]
          clear hs
          go_wp2_with fail
          go_roundw
          case rel => exact ⟨j + 1, true, out, by omega, rfl, by go_num, Lib.hid (HX.out.al _), HQ, by first | (simp; done) | (simp; omega), Lib.hid (HF.out.alloc _)⟩
          case measure => simp [intOf]; omega
        · have hq := ba_beq hs
          have hq2 := ba_ne hs
          have HQ : Hid ((out ++ [(s', u', d')]) ++ CC.putR (s, u, d) true (l.drop (j + 1)) = CC.putR (s, u, d) false l) := by
            refine Lib.hid ?_
            rw [← HP.out, HD.out]
            simp [CC.putR, hs]
          clear hs
          go_wp2_with (at_builtin; (refine wpList_append_sv _ rfl (.tmp 33) (.tmp 35) 28 rfl 33 i0 (ndV ByteArray.empty 0 0) 3 32 Try.underlying28 hi0 hz0 hz1 hz2 rfl (by decide) (w.heap.size + 1) _ out.length _ rfl ((HX.out.al _).al _) ?_ ⟨wr.heap.size + 1, 0, none⟩ 1 1 [.string s', .int .u64 u', .int .u64 d'] rfl rfl (cells_of_blk (t := 33) ?_) ?_ ?_ ?_ ?_); (focus (simp; omega)); (focus (exact Blk.mk0 _ _ _ _ (by simp))); (focus (simp [Value.oneCell'])); (focus (unfold maxLen; omega)); (focus omega); intro v6 w6 hS6 hF6)
          go_roundw
          case rel =>
            refine ⟨j + 1, true, out ++ [(s', u', d')], by omega, rfl, by go_num, Lib.hid ?_, HQ, by first | (simp; done) | (simp; omega), Lib.hid (own_fr ((HF.out.alloc _).alloc _) ((HX.out.al _).al _) hF6 (by simp))⟩
            show SV _ _ _ _ _ _
            rw [flat3_app, List.length_append]
            first | exact hS6 | (rw [flat3_app, List.length_append]; exact hS6) | exact (by simpa [flat3_app] using hS6)
          case measure => simp [intOf]; omega
      | false =>
        simp only [cond_false] at hol
        by_cases hbl : Op.bytesLess s'.toList s.toList = true
        · by_cases hs : s' = s
          · exact absurd hbl (by rw [hs, bytesLess_lt]; simp [bts_irrefl])
          · have hb : Op.bytesLess s'.toList s.toList = true := hbl
            have hq := ba_beq hs
            have hq2 := ba_ne hs
            have HQ : Hid ((out ++ [(s', u', d')]) ++ CC.putR (s, u, d) false (l.drop (j + 1)) = CC.putR (s, u, d) false l) := by
              refine Lib.hid ?_
              rw [← HP.out, HD.out]
              simp [CC.putR, hs, hb]
            clear hs
            go_wp2_with (at_builtin; (refine wpList_append_sv _ rfl (.tmp 33) (.tmp 35) 28 rfl 33 i0 (ndV ByteArray.empty 0 0) 3 32 Try.underlying28 hi0 hz0 hz1 hz2 rfl (by decide) (w.heap.size + 1) _ out.length _ rfl ((HX.out.al _).al _) ?_ ⟨wr.heap.size + 1, 0, none⟩ 1 1 [.string s', .int .u64 u', .int .u64 d'] rfl rfl (cells_of_blk (t := 33) ?_) ?_ ?_ ?_ ?_); (focus (simp; omega)); (focus (exact Blk.mk0 _ _ _ _ (by simp))); (focus (simp [Value.oneCell'])); (focus (unfold maxLen; omega)); (focus omega); intro v6 w6 hS6 hF6)
            go_roundw
            case rel =>
              refine ⟨j + 1, false, out ++ [(s', u', d')], by omega, rfl, by go_num, Lib.hid ?_, HQ, by first | (simp; done) | (simp; omega), Lib.hid (own_fr ((HF.out.alloc _).alloc _) ((HX.out.al _).al _) hF6 (by simp))⟩
              show SV _ _ _ _ _ _
              rw [flat3_app, List.length_append]
              first | exact hS6 | (rw [flat3_app, List.length_append]; exact hS6) | exact (by simpa [flat3_app] using hS6)
            case measure => simp [intOf]; omega
        · by_cases hs : s' = s
          · have hb : Op.bytesLess s'.toList s.toList = false := by simpa using hbl
            have hq : (s'.toList == s.toList) = true := by rw [hs]; simp
            have hq2 : s'.toList = s.toList := by rw [hs]
            have HQ : Hid ((out ++ [(s, u, d)]) ++ CC.putR (s, u, d) true (l.drop (j + 1)) = CC.putR (s, u, d) false l) := by
              refine Lib.hid ?_
              rw [← HP.out, HD.out]
              have hb2 := hb; rw [hs] at hb2; simp [CC.putR, hs, hb2]
            have hb3 := hb
            rw [hs] at hb3
            clear hs
            go_wp2_with (at_builtin; (refine wpList_append_sv _ rfl (.tmp 24) (.tmp 26) 28 rfl 33 i0 (ndV ByteArray.empty 0 0) 3 32 Try.underlying28 hi0 hz0 hz1 hz2 rfl (by decide) (w.heap.size + 1) _ out.length _ rfl ((HX.out.al _).al _) ?_ ⟨wr.heap.size + 1, 0, none⟩ 1 1 [.string s, .int .u64 u, .int .u64 d] rfl rfl (cells_of_blk (t := 33) ?_) ?_ ?_ ?_ ?_); (focus (simp; omega)); (focus (exact Blk.mk0 _ _ _ _ (by simp))); (focus (simp [Value.oneCell'])); (focus (unfold maxLen; omega)); (focus omega); intro v4 w4 hS4 hF4; obtain ⟨va, vc, hv4⟩ := hS4.at_; subst hv4; have hb8 := hF4.blk (Blk.alloc (Blk.new wr #[.string s', .int .u64 u', .int .u64 d'] 33) _) (HX.out.noblk (.inr (Nat.le_refl _))); have hc8 := hb8.cell; have hl8 := hb8.lt; have hb9 := hF4.blk ((HB3.out.alloc _).alloc _) (HX.out.noblk (.inl (by omega))); have hc9 := hb9.cell; have hl9 := hb9.lt; have hF5 := own_fr ((HF.out.alloc _).alloc _) ((HX.out.al _).al _) hF4 (by simp); have HS4 := Lib.hid hS4; have HF5 := Lib.hid hF5; have hz5 := hF5.size; simp only [World.alloc, Array.size_push] at hz5; clear hS4 hF4 hF5 hb8 hb9)
            go_roundw
            case rel => exact ⟨j + 1, true, out ++ [(s, u, d)], by omega, rfl, by go_num, Lib.hid (by have h := HS4.out; show SV _ _ _ _ _ _; rw [flat3_app, List.length_append]; exact h), HQ, by first | (simp; done) | (simp; omega), HF5⟩
            case measure => simp [intOf]; omega
          · have hb : Op.bytesLess s'.toList s.toList = false := by simpa using hbl
            have hq := ba_beq hs
            have hq2 := ba_ne hs
            have HQ : Hid ((out ++ [(s, u, d)] ++ [(s', u', d')]) ++ CC.putR (s, u, d) true (l.drop (j + 1)) = CC.putR (s, u, d) false l) := by
              refine Lib.hid ?_
              rw [← HP.out, HD.out]
              simp [CC.putR, hs, hb]
            clear hs
            go_wp2_with (first | (at_builtin; (refine wpList_append_sv _ rfl (.tmp 33) (.tmp 35) 28 rfl 33 i0 (ndV ByteArray.empty 0 0) 3 32 Try.underlying28 hi0 hz0 hz1 hz2 rfl (by decide) (w.heap.size + 1) _ (out.length + 1) _ rfl (HS4.out.al _) ?_ ⟨w4.heap.size, 0, none⟩ 1 1 [.string s', .int .u64 u', .int .u64 d'] rfl rfl (cells_of_blk (t := 33) ?_) ?_ ?_ ?_ ?_); (focus (simp; omega)); (focus (exact Blk.mk0 _ _ _ _ (by simp))); (focus (simp [Value.oneCell'])); (focus (unfold maxLen; omega)); (focus omega); intro v6 w6 hS6 hF6) | (at_builtin; (refine wpList_append_sv _ rfl (.tmp 24) (.tmp 26) 28 rfl 33 i0 (ndV ByteArray.empty 0 0) 3 32 Try.underlying28 hi0 hz0 hz1 hz2 rfl (by decide) (w.heap.size + 1) _ out.length _ rfl ((HX.out.al _).al _) ?_ ⟨wr.heap.size + 1, 0, none⟩ 1 1 [.string s, .int .u64 u, .int .u64 d] rfl rfl (cells_of_blk (t := 33) ?_) ?_ ?_ ?_ ?_); (focus (simp; omega)); (focus (exact Blk.mk0 _ _ _ _ (by simp))); (focus (simp [Value.oneCell'])); (focus (unfold maxLen; omega)); (focus omega); intro v4 w4 hS4 hF4; obtain ⟨va, vc, hv4⟩ := hS4.at_; subst hv4; have hb8 := hF4.blk (Blk.alloc (Blk.new wr #[.string s', .int .u64 u', .int .u64 d'] 33) _) (HX.out.noblk (.inr (Nat.le_refl _))); have hc8 := hb8.cell; have hl8 := hb8.lt; have hb9 := hF4.blk ((HB3.out.alloc _).alloc _) (HX.out.noblk (.inl (by omega))); have hc9 := hb9.cell; have hl9 := hb9.lt; have hF5 := own_fr ((HF.out.alloc _).alloc _) ((HX.out.al _).al _) hF4 (by simp); have HS4 := Lib.hid hS4; have HF5 := Lib.hid hF5; have hz5 := hF5.size; simp only [World.alloc, Array.size_push] at hz5; clear hS4 hF4 hF5 hb8 hb9))
            go_roundw
            case rel =>
              refine ⟨j + 1, true, out ++ [(s, u, d)] ++ [(s', u', d')], by omega, rfl, by go_num, Lib.hid ?_, HQ, by first | (simp; done) | (simp; omega), Lib.hid (own_fr (HF5.out.alloc _) (HS4.out.al _) hF6 (by simp))⟩
              show SV _ _ _ _ _ _
              rw [flat3_app, List.length_append]
              first | exact hS6 | (rw [flat3_app, List.length_append]; exact hS6) | exact (by simpa [flat3_app] using hS6)
            case measure => simp [intOf]; omega
    · obtain rfl : j = l.length := by omega
      have hq := HP.out
      rw [List.drop_length] at hq
      cases done with
      | true =>
        simp only [cond_true] at hol
        have e : out = CC.putR (s, u, d) false l := by rw [← hq]; simp [CC.putR]
        have E := Lib.hid e
        clear hq e
        go_wp2_with fail
        go_ret
        refine ⟨_, rfl, ?_, ((Fr.refl [] w).alloc _).trans HF.out⟩
        rw [← E.out]
        exact HX.out.base_le (by omega)
      | false =>
        simp only [cond_false] at hol
        have e : out ++ [(s, u, d)] = CC.putR (s, u, d) false l := by rw [← hq]; simp [CC.putR]
        have E := Lib.hid e
        clear hq e
        go_wp2_with (at_builtin; (refine wpList_append_sv _ rfl (.tmp 40) (.tmp 42) 28 rfl 33 i0 (ndV ByteArray.empty 0 0) 3 32 Try.underlying28 hi0 hz0 hz1 hz2 rfl (by decide) (w.heap.size + 1) _ out.length _ rfl (HX.out.al _) ?_ ⟨wr.heap.size, 0, none⟩ 1 1 [.string s, .int .u64 u, .int .u64 d] rfl rfl (cells_of_blk (t := 33) ?_) ?_ ?_ ?_ ?_); (focus (simp; omega)); (focus (exact Blk.mk0 _ _ _ _ (by simp))); (focus (simp [Value.oneCell'])); (focus (unfold maxLen; omega)); (focus omega); intro v4 w4 hS4 hF4)
        go_ret
        refine ⟨_, rfl, ?_, ((Fr.refl [] w).alloc _).trans (own_fr (HF.out.alloc _) (HX.out.al _) hF4 (by simp))⟩
        rw [← E.out]
        show SV _ _ _ _ _ _
        rw [flat3_app, List.length_append]
        exact hS4.base_le (by omega)
end Go.Proofs.Ytanbfejhhnhabaa

namespace Go.Proofs.Ytanbfejhhnhabaa
open Go.RowKit Go.Maps Go.Sort
set_option maxRecDepth 100000
set_option linter.unusedVariables false
set_option linter.unusedSimpArgs false
set_option maxHeartbeats 4000000
theorem rmerge_any (v1 v2 : Value) (l1 l2 : List Nd) (w : World) (h1 : RN w v1 l1) (h2 : RN w v2 l2) (a1 : Arg l1) (a2 : Arg l2) :
    Calls Try.prog 9 #[v1, v2] w (MergePost l1 l2 w) := by
  have H1 := Lib.hid h1
  have H2 := Lib.hid h2
  have HA1 := Lib.hid a1
  have HA2 := Lib.hid a2
  obtain ⟨p1, q1, e1⟩ := h1.at_
  obtain ⟨p2, q2, e2⟩ := h2.at_
  subst e1 e2
  clear h1 h2 a1 a2
  by_cases r1 : rightL l1 = true
  · by_cases r2 : rightL l2 = true
    · have em : mergeF l1 l2 = if (mergeL l1 l2).length ≤ 64 then (mergeL l1 l2, 0) else ([], 3) := by unfold mergeF; rw [if_pos ⟨r1, r2⟩]
      have hn1 := right_len r1
      have hn2 := right_len r2
      have HG1 := Lib.hid (right_good r1)
      have HG2 := Lib.hid (right_good r2)
      have R1 := Lib.hid r1
      have R2 := Lib.hid r2
      have EM := Lib.hid em
      obtain ⟨i0, hi0, hz0, hz1, hz2⟩ := info_parts infoN
      clear r1 r2 em
      go_enter Try.func9, Try.ntmps9
      go_wp2_with fail
      go_at_call 27
      refine (rright_to H1.out HA1.out R1.out).mono ?_
      rintro e w1 ⟨rfl, hF1⟩
      have HF1 := Lib.hid hF1
      clear hF1
      go_wp2_with fail
      go_at_call 27
      refine (rright_to (H2.out.fr0 HF1.out) HA2.out R2.out).mono ?_
      rintro e w2 ⟨rfl, hF2⟩
      have HF2 := Lib.hid (HF1.out.trans hF2)
      have hz2' := HF2.out.size
      clear hF2
      go_wp2_with (at_builtin; (refine wpList_append_svr _ rfl (.tmp 19) (.tmp 20) 28 rfl 33 i0 (ndV ByteArray.empty 0 0) 3 32 Try.underlying28 hi0 hz0 hz1 hz2 rfl (by decide) w.heap.size (.slice none 0 0) 0 [] rfl (SV.nil _ _ _) ?_ (.slice p1 l1.length q1) l1.length (flat3 l1) rfl (H1.out.fr0 HF2.out) (flat3_one l1) ?_ ?_ ?_); (focus omega); (focus (unfold maxLen; omega)); (focus omega); intro v3 w3 hS3 hF3; simp only [Nat.zero_add, List.nil_append] at hS3; have hF3b : Fr [] w2 w3 := hF3; have HS3 := Lib.hid hS3; have HF3 := Lib.hid (HF2.out.trans hF3b); clear hS3 hF3 hF3b)
      go_loopw [6, 24] (fun x u wr => ∃ j : Nat, j ≤ l2.length ∧ u = .int .i64 j ∧ Hid (SN wr w.heap.size x ((l2.take j).foldl (mrg l1) l1)) ∧ Hid (Fr [] w wr)) (fun _ u _ => l2.length - (intOf u).toNat)
      case atStart => exact ⟨0, by omega, rfl, HS3, HF3⟩
      case round =>
        obtain ⟨j, hj, rfl, HX, HF⟩ := hrel
        have hgf : Good ((l2.take j).foldl (mrg l1) l1) := fold_good HG1.out (fun x hx => HG2.out.sz x (List.mem_of_mem_take hx)) _ HG1.out
        have hlf := fold_len l1 (l2.take j) l1 HG1.out.st
        have HGF := Lib.hid hgf
        have hlt : (l2.take j).length ≤ j := by simp; omega
        obtain ⟨xa, xc, hx⟩ := HX.out.at_
        subst hx
        by_cases hjl : j < l2.length
        · obtain ⟨⟨s, u, d⟩, hj0⟩ : ∃ a, l2[j]? = some a := ⟨_, List.getElem?_eq_getElem hjl⟩
          obtain ⟨g, o, c', he, g1, g2, g3, g4⟩ := (H2.out.fr0 HF.out).cells (by omega)
          simp only [Value.slice.injEq] at he
          obtain ⟨rfl, -, rfl⟩ := he
          have k0 := g4 (j * 3) _ (flat3_get l2 j _ hj0).1
          have k1 := g4 (j * 3 + 1) _ (flat3_get l2 j _ hj0).2.1
          have k2 := g4 (j * 3 + 2) _ (flat3_get l2 j _ hj0).2.2
          rw [← Nat.add_assoc] at k1 k2
          simp only at k0 k1 k2
          have hft := fold_take (a := l1) hj0 l1
          obtain ⟨a, b, hab⟩ : ∃ a b, ofL l1 s = (a, b) := ⟨_, _, rfl⟩
          have hf := find_any (.slice p1 l1.length q1) l1 s _ ((H1.out.fr0 HF.out).fr0 ((Fr.refl [] wr).alloc (.cells #[.string s, .int .u64 u, .int .u64 d] 33)))
          rw [hab] at hf
          have hpe : CC.putR (s, max u a, max d b) false ((l2.take j).foldl (mrg l1) l1) = (l2.take (j + 1)).foldl (mrg l1) l1 := by
            rw [CC.putR_put _ _ HGF.out.st]
            rw [hft]
            unfold mrg
            rw [hab, Int.max_comm u a, Int.max_comm d b]
          have HPE := Lib.hid hpe
          have HFi := Lib.hid hf
          clear hft hab hf hpe g4 hj0 hgf
          go_wp2_with fail
          go_at_call 32
          refine HFi.out.mono ?_
          rintro e w4 ⟨rfl, hF4⟩
          have hb4 := hF4.blk (Blk.new wr #[.string s, .int .u64 u, .int .u64 d] 33) (by simp)
          have hbc4 := hb4.cell
          have hbl4 := hb4.lt
          go_wp2_with fail
          go_at_call 33
          refine (put_any _ ((l2.take j).foldl (mrg l1) l1) s (max u a) (max d b) _ (HX.out.rd.fr0 ((((Fr.refl [] wr).alloc _).trans hF4).alloc _)) (by omega)).mono ?_
          rintro e w5 ⟨v5, rfl, hS5, hF5⟩
          have HS5 := Lib.hid hS5
          have HF5 := Lib.hid hF5
          have hz5 := (((HF.out.alloc _).trans hF4).alloc (.cells #[.string s, .int .u64 a, .int .u64 b] 33)).size
          clear hS5 hF5
          go_wp2_with fail
          go_roundw
          case rel =>
            refine ⟨j + 1, by omega, by go_num, Lib.hid ?_, Lib.hid ((((HF.out.alloc _).trans hF4).alloc _).trans HF5.out)⟩
            have h := HS5.out
            rw [HPE.out] at h
            exact h.base_le hz5
          case measure => simp [intOf]; omega
        · obtain rfl : j = l2.length := by omega
          have HML : Hid (SN wr w.heap.size (.slice xa ((l2.take l2.length).foldl (mrg l1) l1).length xc) (mergeL l1 l2)) := Lib.hid (by have h := HX.out; rw [List.take_length] at h ⊢; exact h)
          have hle : ((l2.take l2.length).foldl (mrg l1) l1).length = (mergeL l1 l2).length := by rw [List.take_length]; rfl
          rw [hle] at HML ⊢
          by_cases hm : (mergeL l1 l2).length ≤ 64
          · have e := EM.out
            rw [if_pos hm] at e
            have E := Lib.hid e
            have hm' : ¬ 64 < ((mergeL l1 l2).length : Int) := by omega
            clear e
            go_wp2_with fail
            go_ret2
            exact MergePost.mk E.out HML.out HF.out
          · have e := EM.out
            rw [if_neg hm] at e
            have E := Lib.hid e
            have hm' : 64 < ((mergeL l1 l2).length : Int) := by omega
            clear e
            go_wp2_with fail
            go_ret2
            exact MergePost.mk E.out (SV.nil _ _ _) HF.out
    · have em : mergeF l1 l2 = ([], 230) := by unfold mergeF; rw [if_neg (fun h => r2 h.2)]
      have R1 := Lib.hid r1
      have R2 := Lib.hid (Bool.eq_false_iff.2 r2)
      have EM := Lib.hid em
      clear r1 r2 em
      go_enter Try.func9, Try.ntmps9
      go_wp2_with fail
      go_at_call 27
      refine (rright_to H1.out HA1.out R1.out).mono ?_
      rintro e w1 ⟨rfl, hF1⟩
      have HF1 := Lib.hid hF1
      clear hF1
      go_wp2_with fail
      go_at_call 27
      refine (rright_to (H2.out.fr0 HF1.out) HA2.out R2.out).mono ?_
      rintro e w2 ⟨rfl, hF2⟩
      go_wp2_with fail
      go_ret2
      exact MergePost.mk EM.out (SV.nil _ _ _) (HF1.out.trans hF2)
  · have em : mergeF l1 l2 = ([], 230) := by unfold mergeF; rw [if_neg (fun h => r1 h.1)]
    have R1 := Lib.hid (Bool.eq_false_iff.2 r1)
    have EM := Lib.hid em
    clear r1 em
    go_enter Try.func9, Try.ntmps9
    go_wp2_with fail
    go_at_call 27
    refine (rright_to H1.out HA1.out R1.out).mono ?_
    rintro e w1 ⟨rfl, hF1⟩
    go_wp2_with fail
    go_ret2
    exact MergePost.mk EM.out (SV.nil _ _ _) hF1
end Go.Proofs.Ytanbfejhhnhabaa
