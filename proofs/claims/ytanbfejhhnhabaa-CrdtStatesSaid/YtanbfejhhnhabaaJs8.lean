/- The order of floats by their bits: plain. -/
import Derived.Test.YtanbfejhhnhabaaJs5
import Derived.Test.YtanbfejhhnhabaaJs7
import Derived.Test.YtanbfejhhnhabaaJs3
import Derived.Test.YtanbfejhhnhabaaRows
/- The reference's put, walked. -/
namespace Go.Proofs.Ytanbfejhhnhabaa
open Go.RowKit Go.Maps Go.Sort
set_option maxRecDepth 100000
set_option linter.unusedVariables false
set_option linter.unusedSimpArgs false
set_option maxHeartbeats 4000000
theorem SV.noblk {w : World} {base size : Nat} {v : Value} {n : Nat} {xs : List Value} (h : SV w base size v n xs) {z : Nat} (hz : z < base ∨ w.heap.size ≤ z) : z ∉ v.ownBlock.toList := fun hm => by
  rw [Option.mem_toList] at hm
  have := h.own hm
  omega
theorem put_any (v : Value) (l : List Nd) (s : ByteArray) (u d : Int) (w : World) (h : RN w v l) (hl : l.length ≤ 4096) :
    Calls Try.prog 33 #[v, ndV s u d] w fun e w' => ∃ v', e = .returned v' ∧ SN w' w.heap.size v' (CC.putR (s, u, d) false l) ∧ Fr [] w w' := by
  have H := Lib.hid h
  obtain ⟨pa, pc, e⟩ := h.at_
  subst e
  clear h
  obtain ⟨i0, hi0, hz0, hz1, hz2⟩ := info_parts infoN
  go_enter Try.func33, Try.ntmps33
  go_wp2_with fail
  go_loopw [5, 6, 11] (fun x5 x6 x11 wr => ∃ (j : Nat) (done : Bool) (out : List Nd), j ≤ l.length ∧ x6 = .bool done ∧ x11 = .int .i64 j ∧ Hid (SN wr (w.heap.size + 1) x5 out) ∧ Hid (out ++ CC.putR (s, u, d) done (l.drop j) = CC.putR (s, u, d) false l) ∧ out.length + (bif done then 0 else 1) ≤ j + 1 ∧ Hid (Fr [] (w.alloc (.cells #[.string s, .int .u64 u, .int .u64 d] 33)) wr)) (fun _ _ u _ => l.length - (intOf u).toNat)
  case atStart => exact ⟨0, false, [], by omega, rfl, rfl, Lib.hid (SV.nil _ _ _), Lib.hid rfl, by simp, Lib.hid (Fr.refl _ _)⟩
  case round =>
    obtain ⟨j, done, out, hj, rfl, rfl, HX, HP, hol, HF⟩ := hrel
    obtain ⟨xa, xc, hx⟩ := HX.out.at_
    subst hx
    have hz0' := HF.out.size
    have hz1' : w.heap.size + 1 ≤ wr.heap.size := by simpa using hz0'
    have hb3 := HF.out.blk (Blk.new w #[.string s, .int .u64 u, .int .u64 d] 33) (by simp)
    have hc3 := hb3.cell
    have hl3 := hb3.lt
    have HB3 := Lib.hid hb3
    clear hb3 hz0'
    by_cases hjl : j < l.length
    · obtain ⟨⟨s', u', d'⟩, hj0⟩ : ∃ a, l[j]? = some a := ⟨_, List.getElem?_eq_getElem hjl⟩
      have hFw : Fr [] w wr := ((Fr.refl [] w).alloc _).trans HF.out
      obtain ⟨g, o, c', he, g1, g2, g3, g4⟩ := (H.out.fr0 hFw).cells (by omega)
      simp only [Value.slice.injEq] at he
      obtain ⟨rfl, -, rfl⟩ := he
      have k0 := g4 (j * 3) _ (flat3_get l j _ hj0).1
      have k1 := g4 (j * 3 + 1) _ (flat3_get l j _ hj0).2.1
      have k2 := g4 (j * 3 + 2) _ (flat3_get l j _ hj0).2.2
      rw [← Nat.add_assoc] at k1 k2
      simp only at k0 k1 k2
      have hdx : l.drop j = (s', u', d') :: l.drop (j + 1) := by
        rw [List.drop_eq_getElem_cons hjl]; congr 1; rw [List.getElem?_eq_getElem hjl] at hj0; exact Option.some.inj hj0
      have HD := Lib.hid hdx
      clear g4 hj0 hFw hdx
      cases done with
      | true =>
        simp only [cond_true] at hol
        by_cases hs : s' = s
        · have hq : (s'.toList == s.toList) = true := by rw [hs]; simp
          have hq2 : s'.toList = s.toList := by rw [hs]
          have HQ : Hid ((out) ++ CC.putR (s, u, d) true (l.drop (j + 1)) = CC.putR (s, u, d) false l) := by
            refine Lib.hid ?_
            rw [← HP.out, HD.out]
            simp [CC.putR, hs]
          clear hs
          go_wp2_with fail
          go_roundw
          case rel => exact ⟨j + 1, true, out, by omega, rfl, by go_num, Lib.hid (HX.out.al _), HQ, by first | (simp; done) | (simp; omega), Lib.hid (HF.out.alloc _)⟩
          case measure => simp [intOf]; omega
        · have hq := ba_beq hs
          have hq2 := ba_ne hs
          have HQ : Hid ((out ++ [(s', u', d')]) ++ CC.putR (s, u, d) true (l.drop (j + 1)) = CC.putR (s, u, d) false l) := by
            refine Lib.hid ?_
            rw [← HP.out, HD.out]
            simp [CC.putR, hs]
          clear hs
          go_wp2_with (at_builtin; (refine wpList_append_sv _ rfl (.tmp 33) (.tmp 35) 28 rfl 33 i0 (ndV ByteArray.empty 0 0) 3 32 Try.underlying28 hi0 hz0 hz1 hz2 rfl (by decide) (w.heap.size + 1) _ out.length _ rfl ((HX.out.al _).al _) ?_ ⟨wr.heap.size + 1, 0, none⟩ 1 1 [.string s', .int .u64 u', .int .u64 d'] rfl rfl (cells_of_blk (t := 33) ?_) ?_ ?_ ?_ ?_); (focus (simp; omega)); (focus (exact Blk.mk0 _ _ _ _ (by simp))); (focus (simp [Value.oneCell'])); (focus (unfold maxLen; omega)); (focus omega); intro v6 w6 hS6 hF6)
          go_roundw
          case rel =>
            refine ⟨j + 1, true, out ++ [(s', u', d')], by omega, rfl, by go_num, Lib.hid ?_, HQ, by first | (simp; done) | (simp; omega), Lib.hid (own_fr ((HF.out.alloc _).alloc _) ((HX.out.al _).al _) hF6 (by simp))⟩
            show SV _ _ _ _ _ _
            rw [flat3_app, List.length_append]
            first | exact hS6 | (rw [flat3_app, List.length_append]; exact hS6) | exact (by simpa [flat3_app] using hS6)
          case measure => simp [intOf]; omega
      | false =>
        simp only [cond_false] at hol
        by_cases hbl : Op.bytesLess s'.toList s.toList = true
        · by_cases hs : s' = s
          · exact absurd hbl (by rw [hs, bytesLess_lt]; simp [bts_irrefl])
          · have hb : Op.bytesLess s'.toList s.toList = true := hbl
            have hq := ba_beq hs
            have hq2 := ba_ne hs
            have HQ : Hid ((out ++ [(s', u', d')]) ++ CC.putR (s, u, d) false (l.drop (j + 1)) = CC.putR (s, u, d) false l) := by
              refine Lib.hid ?_
              rw [← HP.out, HD.out]
              simp [CC.putR, hs, hb]
            clear hs
            go_wp2_with (at_builtin; (refine wpList_append_sv _ rfl (.tmp 33) (.tmp 35) 28 rfl 33 i0 (ndV ByteArray.empty 0 0) 3 32 Try.underlying28 hi0 hz0 hz1 hz2 rfl (by decide) (w.heap.size + 1) _ out.length _ rfl ((HX.out.al _).al _) ?_ ⟨wr.heap.size + 1, 0, none⟩ 1 1 [.string s', .int .u64 u', .int .u64 d'] rfl rfl (cells_of_blk (t := 33) ?_) ?_ ?_ ?_ ?_); (focus (simp; omega)); (focus (exact Blk.mk0 _ _ _ _ (by simp))); (focus (simp [Value.oneCell'])); (focus (unfold maxLen; omega)); (focus omega); intro v6 w6 hS6 hF6)
            go_roundw
            case rel =>
              refine ⟨j + 1, false, out ++ [(s', u', d')], by omega, rfl, by go_num, Lib.hid ?_, HQ, by first | (simp; done) | (simp; omega), Lib.hid (own_fr ((HF.out.alloc _).alloc _) ((HX.out.al _).al _) hF6 (by simp))⟩
              show SV _ _ _ _ _ _
              rw [flat3_app, List.length_append]
              first | exact hS6 | (rw [flat3_app, List.length_append]; exact hS6) | exact (by simpa [flat3_app] using hS6)
            case measure => simp [intOf]; omega
        · by_cases hs : s' = s
          · have hb : Op.bytesLess s'.toList s.toList = false := by simpa using hbl
            have hq : (s'.toList == s.toList) = true := by rw [hs]; simp
            have hq2 : s'.toList = s.toList := by rw [hs]
            have HQ : Hid ((out ++ [(s, u, d)]) ++ CC.putR (s, u, d) true (l.drop (j + 1)) = CC.putR (s, u, d) false l) := by
              refine Lib.hid ?_
              rw [← HP.out, HD.out]
              have hb2 := hb; rw [hs] at hb2; simp [CC.putR, hs, hb2]
            have hb3 := hb
            rw [hs] at hb3
            clear hs
            go_wp2_with (at_builtin; (refine wpList_append_sv _ rfl (.tmp 24) (.tmp 26) 28 rfl 33 i0 (ndV ByteArray.empty 0 0) 3 32 Try.underlying28 hi0 hz0 hz1 hz2 rfl (by decide) (w.heap.size + 1) _ out.length _ rfl ((HX.out.al _).al _) ?_ ⟨wr.heap.size + 1, 0, none⟩ 1 1 [.string s, .int .u64 u, .int .u64 d] rfl rfl (cells_of_blk (t := 33) ?_) ?_ ?_ ?_ ?_); (focus (simp; omega)); (focus (exact Blk.mk0 _ _ _ _ (by simp))); (focus (simp [Value.oneCell'])); (focus (unfold maxLen; omega)); (focus omega); intro v4 w4 hS4 hF4; obtain ⟨va, vc, hv4⟩ := hS4.at_; subst hv4; have hb8 := hF4.blk (Blk.alloc (Blk.new wr #[.string s', .int .u64 u', .int .u64 d'] 33) _) (HX.out.noblk (.inr (Nat.le_refl _))); have hc8 := hb8.cell; have hl8 := hb8.lt; have hb9 := hF4.blk ((HB3.out.alloc _).alloc _) (HX.out.noblk (.inl (by omega))); have hc9 := hb9.cell; have hl9 := hb9.lt; have hF5 := own_fr ((HF.out.alloc _).alloc _) ((HX.out.al _).al _) hF4 (by simp); have HS4 := Lib.hid hS4; have HF5 := Lib.hid hF5; have hz5 := hF5.size; simp only [World.alloc, Array.size_push] at hz5; clear hS4 hF4 hF5 hb8 hb9)
            go_roundw
            case rel => exact ⟨j + 1, true, out ++ [(s, u, d)], by omega, rfl, by go_num, Lib.hid (by have h := HS4.out; show SV _ _ _ _ _ _; rw [flat3_app, List.length_append]; exact h), HQ, by first | (simp; done) | (simp; omega), HF5⟩
            case measure => simp [intOf]; omega
          · have hb : Op.bytesLess s'.toList s.toList = false := by simpa using hbl
            have hq := ba_beq hs
            have hq2 := ba_ne hs
            have HQ : Hid ((out ++ [(s, u, d)] ++ [(s', u', d')]) ++ CC.putR (s, u, d) true (l.drop (j + 1)) = CC.putR (s, u, d) false l) := by
              refine Lib.hid ?_
              rw [← HP.out, HD.out]
              simp [CC.putR, hs, hb]
            clear hs
            go_wp2_with (first | (at_builtin; (refine wpList_append_sv _ rfl (.tmp 33) (.tmp 35) 28 rfl 33 i0 (ndV ByteArray.empty 0 0) 3 32 Try.underlying28 hi0 hz0 hz1 hz2 rfl (by decide) (w.heap.size + 1) _ (out.length + 1) _ rfl (HS4.out.al _) ?_ ⟨w4.heap.size, 0, none⟩ 1 1 [.string s', .int .u64 u', .int .u64 d'] rfl rfl (cells_of_blk (t := 33) ?_) ?_ ?_ ?_ ?_); (focus (simp; omega)); (focus (exact Blk.mk0 _ _ _ _ (by simp))); (focus (simp [Value.oneCell'])); (focus (unfold maxLen; omega)); (focus omega); intro v6 w6 hS6 hF6) | (at_builtin; (refine wpList_append_sv _ rfl (.tmp 24) (.tmp 26) 28 rfl 33 i0 (ndV ByteArray.empty 0 0) 3 32 Try.underlying28 hi0 hz0 hz1 hz2 rfl (by decide) (w.heap.size + 1) _ out.length _ rfl ((HX.out.al _).al _) ?_ ⟨wr.heap.size + 1, 0, none⟩ 1 1 [.string s, .int .u64 u, .int .u64 d] rfl rfl (cells_of_blk (t := 33) ?_) ?_ ?_ ?_ ?_); (focus (simp; omega)); (focus (exact Blk.mk0 _ _ _ _ (by simp))); (focus (simp [Value.oneCell'])); (focus (unfold maxLen; omega)); (focus omega); intro v4 w4 hS4 hF4; obtain ⟨va, vc, hv4⟩ := hS4.at_; subst hv4; have hb8 := hF4.blk (Blk.alloc (Blk.new wr #[.string s', .int .u64 u', .int .u64 d'] 33) _) (HX.out.noblk (.inr (Nat.le_refl _))); have hc8 := hb8.cell; have hl8 := hb8.lt; have hb9 := hF4.blk ((HB3.out.alloc _).alloc _) (HX.out.noblk (.inl (by omega))); have hc9 := hb9.cell; have hl9 := hb9.lt; have hF5 := own_fr ((HF.out.alloc _).alloc _) ((HX.out.al _).al _) hF4 (by simp); have HS4 := Lib.hid hS4; have HF5 := Lib.hid hF5; have hz5 := hF5.size; simp only [World.alloc, Array.size_push] at hz5; clear hS4 hF4 hF5 hb8 hb9))
            go_roundw
            case rel =>
              refine ⟨j + 1, true, out ++ [(s, u, d)] ++ [(s', u', d')], by omega, rfl, by go_num, Lib.hid ?_, HQ, by first | (simp; done) | (simp; omega), Lib.hid (own_fr (HF5.out.alloc _) (HS4.out.al _) hF6 (by simp))⟩
              show SV _ _ _ _ _ _
              rw [flat3_app, List.length_append]
              first | exact hS6 | (rw [flat3_app, List.length_append]; exact hS6) | exact (by simpa [flat3_app] using hS6)
            case measure => simp [intOf]; omega
    · obtain rfl : j = l.length := by omega
      have hq := HP.out
      rw [List.drop_length] at hq
      cases done with
      | true =>
        simp only [cond_true] at hol
        have e : out = CC.putR (s, u, d) false l := by rw [← hq]; simp [CC.putR]
        have E := Lib.hid e
        clear hq e
        go_wp2_with fail
        go_ret
        refine ⟨_, rfl, ?_, ((Fr.refl [] w).alloc _).trans HF.out⟩
        rw [← E.out]
        exact HX.out.base_le (by omega)
      | false =>
        simp only [cond_false] at hol
        have e : out ++ [(s, u, d)] = CC.putR (s, u, d) false l := by rw [← hq]; simp [CC.putR]
        have E := Lib.hid e
        clear hq e
        go_wp2_with (at_builtin; (refine wpList_append_sv _ rfl (.tmp 40) (.tmp 42) 28 rfl 33 i0 (ndV ByteArray.empty 0 0) 3 32 Try.underlying28 hi0 hz0 hz1 hz2 rfl (by decide) (w.heap.size + 1) _ out.length _ rfl (HX.out.al _) ?_ ⟨wr.heap.size, 0, none⟩ 1 1 [.string s, .int .u64 u, .int .u64 d] rfl rfl (cells_of_blk (t := 33) ?_) ?_ ?_ ?_ ?_); (focus (simp; omega)); (focus (exact Blk.mk0 _ _ _ _ (by simp))); (focus (simp [Value.oneCell'])); (focus (unfold maxLen; omega)); (focus omega); intro v4 w4 hS4 hF4)
        go_ret
        refine ⟨_, rfl, ?_, ((Fr.refl [] w).alloc _).trans (own_fr (HF.out.alloc _) (HX.out.al _) hF4 (by simp))⟩
        rw [← E.out]
        show SV _ _ _ _ _ _
        rw [flat3_app, List.length_append]
        exact hS4.base_le (by omega)
end Go.Proofs.Ytanbfejhhnhabaa

/- The reference's Merge. -/
namespace Go.Proofs.Ytanbfejhhnhabaa
open Go.RowKit Go.Maps Go.Sort
set_option maxRecDepth 100000
set_option linter.unusedVariables false
set_option linter.unusedSimpArgs false
set_option maxHeartbeats 4000000
theorem rmerge_any (v1 v2 : Value) (l1 l2 : List Nd) (w : World) (h1 : RN w v1 l1) (h2 : RN w v2 l2) (a1 : Arg l1) (a2 : Arg l2) :
    Calls Try.prog 9 #[v1, v2] w (MergePost l1 l2 w) := by
  have H1 := Lib.hid h1
  have H2 := Lib.hid h2
  have HA1 := Lib.hid a1
  have HA2 := Lib.hid a2
  obtain ⟨p1, q1, e1⟩ := h1.at_
  obtain ⟨p2, q2, e2⟩ := h2.at_
  subst e1 e2
  clear h1 h2 a1 a2
  by_cases r1 : rightL l1 = true
  · by_cases r2 : rightL l2 = true
    · have em : mergeF l1 l2 = if (mergeL l1 l2).length ≤ 64 then (mergeL l1 l2, 0) else ([], 3) := by unfold mergeF; rw [if_pos ⟨r1, r2⟩]
      have hn1 := right_len r1
      have hn2 := right_len r2
      have HG1 := Lib.hid (right_good r1)
      have HG2 := Lib.hid (right_good r2)
      have R1 := Lib.hid r1
      have R2 := Lib.hid r2
      have EM := Lib.hid em
      obtain ⟨i0, hi0, hz0, hz1, hz2⟩ := info_parts infoN
      clear r1 r2 em
      go_enter Try.func9, Try.ntmps9
      go_wp2_with fail
      go_at_call 27
      refine (rright_to H1.out HA1.out R1.out).mono ?_
      rintro e w1 ⟨rfl, hF1⟩
      have HF1 := Lib.hid hF1
      clear hF1
      go_wp2_with fail
      go_at_call 27
      refine (rright_to (H2.out.fr0 HF1.out) HA2.out R2.out).mono ?_
      rintro e w2 ⟨rfl, hF2⟩
      have HF2 := Lib.hid (HF1.out.trans hF2)
      have hz2' := HF2.out.size
      clear hF2
      go_wp2_with (at_builtin; (refine wpList_append_svr _ rfl (.tmp 19) (.tmp 20) 28 rfl 33 i0 (ndV ByteArray.empty 0 0) 3 32 Try.underlying28 hi0 hz0 hz1 hz2 rfl (by decide) w.heap.size (.slice none 0 0) 0 [] rfl (SV.nil _ _ _) ?_ (.slice p1 l1.length q1) l1.length (flat3 l1) rfl (H1.out.fr0 HF2.out) (flat3_one l1) ?_ ?_ ?_); (focus omega); (focus (unfold maxLen; omega)); (focus omega); intro v3 w3 hS3 hF3; simp only [Nat.zero_add, List.nil_append] at hS3; have hF3b : Fr [] w2 w3 := hF3; have HS3 := Lib.hid hS3; have HF3 := Lib.hid (HF2.out.trans hF3b); clear hS3 hF3 hF3b)
      go_loopw [6, 24] (fun x u wr => ∃ j : Nat, j ≤ l2.length ∧ u = .int .i64 j ∧ Hid (SN wr w.heap.size x ((l2.take j).foldl (mrg l1) l1)) ∧ Hid (Fr [] w wr)) (fun _ u _ => l2.length - (intOf u).toNat)
      case atStart => exact ⟨0, by omega, rfl, HS3, HF3⟩
      case round =>
        obtain ⟨j, hj, rfl, HX, HF⟩ := hrel
        have hgf : Good ((l2.take j).foldl (mrg l1) l1) := fold_good HG1.out (fun x hx => HG2.out.sz x (List.mem_of_mem_take hx)) _ HG1.out
        have hlf := fold_len l1 (l2.take j) l1 HG1.out.st
        have HGF := Lib.hid hgf
        have hlt : (l2.take j).length ≤ j := by simp; omega
        obtain ⟨xa, xc, hx⟩ := HX.out.at_
        subst hx
        by_cases hjl : j < l2.length
        · obtain ⟨⟨s, u, d⟩, hj0⟩ : ∃ a, l2[j]? = some a := ⟨_, List.getElem?_eq_getElem hjl⟩
          obtain ⟨g, o, c', he, g1, g2, g3, g4⟩ := (H2.out.fr0 HF.out).cells (by omega)
          simp only [Value.slice.injEq] at he
          obtain ⟨rfl, -, rfl⟩ := he
          have k0 := g4 (j * 3) _ (flat3_get l2 j _ hj0).1
          have k1 := g4 (j * 3 + 1) _ (flat3_get l2 j _ hj0).2.1
          have k2 := g4 (j * 3 + 2) _ (flat3_get l2 j _ hj0).2.2
          rw [← Nat.add_assoc] at k1 k2
          simp only at k0 k1 k2
          have hft := fold_take (a := l1) hj0 l1
          obtain ⟨a, b, hab⟩ : ∃ a b, ofL l1 s = (a, b) := ⟨_, _, rfl⟩
          have hf := find_any (.slice p1 l1.length q1) l1 s _ ((H1.out.fr0 HF.out).fr0 ((Fr.refl [] wr).alloc (.cells #[.string s, .int .u64 u, .int .u64 d] 33)))
          rw [hab] at hf
          have hpe : CC.putR (s, max u a, max d b) false ((l2.take j).foldl (mrg l1) l1) = (l2.take (j + 1)).foldl (mrg l1) l1 := by
            rw [CC.putR_put _ _ HGF.out.st]
            rw [hft]
            unfold mrg
            rw [hab, Int.max_comm u a, Int.max_comm d b]
          have HPE := Lib.hid hpe
          have HFi := Lib.hid hf
          clear hft hab hf hpe g4 hj0 hgf
          go_wp2_with fail
          go_at_call 32
          refine HFi.out.mono ?_
          rintro e w4 ⟨rfl, hF4⟩
          have hb4 := hF4.blk (Blk.new wr #[.string s, .int .u64 u, .int .u64 d] 33) (by simp)
          have hbc4 := hb4.cell
          have hbl4 := hb4.lt
          go_wp2_with fail
          go_at_call 33
          refine (put_any _ ((l2.take j).foldl (mrg l1) l1) s (max u a) (max d b) _ (HX.out.rd.fr0 ((((Fr.refl [] wr).alloc _).trans hF4).alloc _)) (by omega)).mono ?_
          rintro e w5 ⟨v5, rfl, hS5, hF5⟩
          have HS5 := Lib.hid hS5
          have HF5 := Lib.hid hF5
          have hz5 := (((HF.out.alloc _).trans hF4).alloc (.cells #[.string s, .int .u64 a, .int .u64 b] 33)).size
          clear hS5 hF5
          go_wp2_with fail
          go_roundw
          case rel =>
            refine ⟨j + 1, by omega, by go_num, Lib.hid ?_, Lib.hid ((((HF.out.alloc _).trans hF4).alloc _).trans HF5.out)⟩
            have h := HS5.out
            rw [HPE.out] at h
            exact h.base_le hz5
          case measure => simp [intOf]; omega
        · obtain rfl : j = l2.length := by omega
          have HML : Hid (SN wr w.heap.size (.slice xa ((l2.take l2.length).foldl (mrg l1) l1).length xc) (mergeL l1 l2)) := Lib.hid (by have h := HX.out; rw [List.take_length] at h ⊢; exact h)
          have hle : ((l2.take l2.length).foldl (mrg l1) l1).length = (mergeL l1 l2).length := by rw [List.take_length]; rfl
          rw [hle] at HML ⊢
          by_cases hm : (mergeL l1 l2).length ≤ 64
          · have e := EM.out
            rw [if_pos hm] at e
            have E := Lib.hid e
            have hm' : ¬ 64 < ((mergeL l1 l2).length : Int) := by omega
            clear e
            go_wp2_with fail
            go_ret2
            exact MergePost.mk E.out HML.out HF.out
          · have e := EM.out
            rw [if_neg hm] at e
            have E := Lib.hid e
            have hm' : 64 < ((mergeL l1 l2).length : Int) := by omega
            clear e
            go_wp2_with fail
            go_ret2
            exact MergePost.mk E.out (SV.nil _ _ _) HF.out
    · have em : mergeF l1 l2 = ([], 230) := by unfold mergeF; rw [if_neg (fun h => r2 h.2)]
      have R1 := Lib.hid r1
      have R2 := Lib.hid (Bool.eq_false_iff.2 r2)
      have EM := Lib.hid em
      clear r1 r2 em
      go_enter Try.func9, Try.ntmps9
      go_wp2_with fail
      go_at_call 27
      refine (rright_to H1.out HA1.out R1.out).mono ?_
      rintro e w1 ⟨rfl, hF1⟩
      have HF1 := Lib.hid hF1
      clear hF1
      go_wp2_with fail
      go_at_call 27
      refine (rright_to (H2.out.fr0 HF1.out) HA2.out R2.out).mono ?_
      rintro e w2 ⟨rfl, hF2⟩
      go_wp2_with fail
      go_ret2
      exact MergePost.mk EM.out (SV.nil _ _ _) (HF1.out.trans hF2)
  · have em : mergeF l1 l2 = ([], 230) := by unfold mergeF; rw [if_neg (fun h => r1 h.1)]
    have R1 := Lib.hid (Bool.eq_false_iff.2 r1)
    have EM := Lib.hid em
    clear r1 em
    go_enter Try.func9, Try.ntmps9
    go_wp2_with fail
    go_at_call 27
    refine (rright_to H1.out HA1.out R1.out).mono ?_
    rintro e w1 ⟨rfl, hF1⟩
    go_wp2_with fail
    go_ret2
    exact MergePost.mk EM.out (SV.nil _ _ _) hF1
end Go.Proofs.Ytanbfejhhnhabaa

namespace Go.Proofs.Ytanbfejhhnhabaa
set_option linter.unusedVariables false
set_option linter.unusedSimpArgs false
abbrev ordF (a b : Nat) : Option Ordering := FloatKind.f64.format.order a b
/-- A float's place, sign apart. -/
abbrev rgF (a : Nat) : Nat := a % 9223372036854775808
def infR : Nat := 9218868437227405312
def keyF (a : Nat) : Int := if 9223372036854775808 ≤ a then -(rgF a : Int) else (rgF a : Int)
theorem two52 : (2 : Nat) ^ 52 = 4503599627370496 := by decide
/-- Magnitudes go by places. -/
theorem mag_lt {e1 m1 e2 m2 : Nat} (b1 : m1 < 2 ^ 53) (b2 : m2 < 2 ^ 53) (c1 : 0 < e1 → 2 ^ 52 ≤ m1) (c2 : 0 < e2 → 2 ^ 52 ≤ m2) :
    (m1 * 2 ^ (e1 - min e1 e2) < m2 * 2 ^ (e2 - min e1 e2) ↔ e1 * 2 ^ 52 + m1 < e2 * 2 ^ 52 + m2) ∧ (m1 * 2 ^ (e1 - min e1 e2) = m2 * 2 ^ (e2 - min e1 e2) ↔ e1 * 2 ^ 52 + m1 = e2 * 2 ^ 52 + m2) := by
  have key : ∀ {e1 m1 e2 m2 : Nat}, m1 < 2 ^ 53 → (0 < e2 → 2 ^ 52 ≤ m2) → e1 < e2 → m1 * 2 ^ (e1 - min e1 e2) < m2 * 2 ^ (e2 - min e1 e2) ∧ e1 * 2 ^ 52 + m1 < e2 * 2 ^ 52 + m2 := by
    intro e1 m1 e2 m2 b1 c2 h
    have h2 := c2 (by omega)
    rw [Nat.min_eq_left (by omega), Nat.sub_self, Nat.pow_zero, Nat.mul_one]
    obtain ⟨k, hk⟩ : ∃ k, e2 - e1 = k + 1 := ⟨e2 - e1 - 1, by omega⟩
    refine ⟨?_, ?_⟩
    · rw [hk, Nat.pow_succ]
      have h3 : 1 ≤ 2 ^ k := Nat.one_le_two_pow
      have h4 : 2 ^ 52 * (1 * 2) ≤ m2 * (2 ^ k * 2) := Nat.mul_le_mul h2 (Nat.mul_le_mul_right 2 h3)
      have h5 : (2 : Nat) ^ 53 = 2 ^ 52 * (1 * 2) := by decide
      omega
    · obtain ⟨d, rfl⟩ : ∃ d, e2 = e1 + 1 + d := ⟨e2 - e1 - 1, by omega⟩
      have h5 : (2 : Nat) ^ 53 = 2 ^ 52 + 2 ^ 52 := by decide
      rw [Nat.add_mul, Nat.add_mul, Nat.one_mul]
      omega
  rcases Nat.lt_trichotomy e1 e2 with h | h | h
  · obtain ⟨k1, k2⟩ := key b1 c2 h
    omega
  · subst h
    rw [Nat.min_self, Nat.sub_self, Nat.pow_zero, Nat.mul_one, Nat.mul_one]
    omega
  · obtain ⟨k1, k2⟩ := key (e1 := e2) (m1 := m2) (e2 := e1) (m2 := m1) b2 c1 h
    rw [Nat.min_comm e2 e1] at k1
    omega
theorem read_eq (a : Nat) : FloatKind.f64.format.read a = if rgF a < 4503599627370496 then .number (a / 9223372036854775808 % 2 == 1) (rgF a) (-1074)
    else if rgF a < infR then .number (a / 9223372036854775808 % 2 == 1) (4503599627370496 + rgF a % 4503599627370496) (-1074 + ((rgF a / 4503599627370496 - 1 : Nat) : Int))
    else if rgF a = infR then .infinity (a / 9223372036854775808 % 2 == 1) else .nan (a / 9223372036854775808 % 2 == 1) (rgF a - infR) := by
  have s1 : Ieee.double.signWeight = 9223372036854775808 := by decide
  have s2 : Ieee.double.binade = 4503599627370496 := by decide
  have s3 : Ieee.double.infRung = infR := by decide
  have s4 : Ieee.double.leastPlace = -1074 := by decide
  show Ieee.Format.read Ieee.double a = _
  simp only [Ieee.Format.read, s1, s2, s3, s4]
theorem neg_eq {a : Nat} (ha : a < 18446744073709551616) : (a / 9223372036854775808 % 2 == 1) = decide (9223372036854775808 ≤ a) := by
  by_cases hc : 9223372036854775808 ≤ a
  · have : a / 9223372036854775808 = 1 := by omega
    rw [this]; simp [hc]
  · have : a / 9223372036854775808 = 0 := by omega
    rw [this]; simp [hc]
/-- What a float's bits are read as. -/
theorem read_fin {a : Nat} (ha : a < 18446744073709551616) (h : rgF a < infR) : ∃ e m, FloatKind.f64.format.read a = .number (decide (9223372036854775808 ≤ a)) m (-1074 + (e : Nat)) ∧ m < 2 ^ 53 ∧ (0 < e → 2 ^ 52 ≤ m) ∧ rgF a = e * 2 ^ 52 + m := by
  rw [read_eq, neg_eq ha]
  by_cases c : rgF a < 4503599627370496
  · rw [if_pos c]
    exact ⟨0, rgF a, by simp, by omega, by omega, by omega⟩
  · rw [if_neg c, if_pos h]
    have hm : rgF a % 4503599627370496 < 4503599627370496 := Nat.mod_lt _ (by decide)
    have hd := Nat.div_add_mod (rgF a) 4503599627370496
    have hq : 1 ≤ rgF a / 4503599627370496 := (Nat.le_div_iff_mul_le (by decide)).2 (by omega)
    refine ⟨rgF a / 4503599627370496 - 1, 4503599627370496 + rgF a % 4503599627370496, rfl, ?_, ?_, ?_⟩
    · have : (2 : Nat) ^ 53 = 9007199254740992 := by decide
      omega
    · intro _; rw [two52]; omega
    · rw [two52]
      omega
theorem read_inf {a : Nat} (ha : a < 18446744073709551616) (h : rgF a = infR) : FloatKind.f64.format.read a = .infinity (decide (9223372036854775808 ≤ a)) := by
  rw [read_eq, neg_eq ha, h, if_neg (by decide), if_neg (by decide), if_pos rfl]
theorem read_nan {a : Nat} (h : infR < rgF a) : ∃ s t, FloatKind.f64.format.read a = .nan s t := by
  have hi : (4503599627370496 : Nat) < infR := by decide
  rw [read_eq, if_neg (by omega), if_neg (by omega), if_neg (by omega)]
  exact ⟨_, _, rfl⟩
theorem cmp_int (a b : Int) : compare a b = if a < b then .lt else if a = b then .eq else .gt := rfl
theorem cmp_nat (a b : Nat) : compare a b = if a < b then .lt else if a = b then .eq else .gt := rfl
theorem ord_nan_l {a b : Nat} (h : infR < rgF a) : ordF a b = none := by
  obtain ⟨s, t, e⟩ := read_nan h
  show ((FloatKind.f64.format.read a).order (FloatKind.f64.format.read b)) = none
  rw [e]; rfl
theorem ord_nan_r {a b : Nat} (h : infR < rgF b) : ordF a b = none := by
  obtain ⟨s, t, e⟩ := read_nan h
  show ((FloatKind.f64.format.read a).order (FloatKind.f64.format.read b)) = none
  rw [e]
  cases FloatKind.f64.format.read a <;> rfl
theorem sgn_eq (s : Bool) (m k : Nat) : Ieee.signed s m k = if s = true then -((m * 2 ^ k : Nat) : Int) else ((m * 2 ^ k : Nat) : Int) := by
  unfold Ieee.signed
  simp only [Nat.shiftLeft_eq]
theorem ord_key {a b : Nat} (ha : a < 18446744073709551616) (hb : b < 18446744073709551616) (h1 : rgF a ≤ infR) (h2 : rgF b ≤ infR) : ordF a b = some (compare (keyF a) (keyF b)) := by
  have hi : infR = 9218868437227405312 := rfl
  show ((FloatKind.f64.format.read a).order (FloatKind.f64.format.read b)) = _
  rcases Nat.lt_or_eq_of_le h1 with h1 | h1 <;> rcases Nat.lt_or_eq_of_le h2 with h2 | h2
  · obtain ⟨e1, m1, r1, b1, c1, p1⟩ := read_fin ha h1
    obtain ⟨e2, m2, r2, b2, c2, p2⟩ := read_fin hb h2
    rw [r1, r2]
    obtain ⟨k1, k2⟩ := mag_lt b1 b2 c1 c2
    simp only [Ieee.Datum.order]
    have q1 : (-1074 + (e1 : Int) - min (-1074 + (e1 : Int)) (-1074 + (e2 : Int))).toNat = e1 - min e1 e2 := by omega
    have q2 : (-1074 + (e2 : Int) - min (-1074 + (e1 : Int)) (-1074 + (e2 : Int))).toNat = e2 - min e1 e2 := by omega
    rw [q1, q2, sgn_eq, sgn_eq, cmp_int, cmp_int]
    rw [← p1, ← p2] at k1 k2
    have z1 : m1 * 2 ^ (e1 - min e1 e2) = 0 ↔ rgF a = 0 := by
      rw [Nat.mul_eq_zero]
      have := Nat.one_le_two_pow (n := e1 - min e1 e2)
      constructor
      · rintro (h | h)
        · have : e1 = 0 := by
            rcases Nat.eq_zero_or_pos e1 with e | e
            · exact e
            · have := c1 e; have : (0 : Nat) < 2 ^ 52 := by decide
              omega
          rw [p1, this, h]
        · omega
      · intro h; left; omega
    have z2 : m2 * 2 ^ (e2 - min e1 e2) = 0 ↔ rgF b = 0 := by
      rw [Nat.mul_eq_zero]
      have := Nat.one_le_two_pow (n := e2 - min e1 e2)
      constructor
      · rintro (h | h)
        · have : e2 = 0 := by
            rcases Nat.eq_zero_or_pos e2 with e | e
            · exact e
            · have := c2 e; have : (0 : Nat) < 2 ^ 52 := by decide
              omega
          rw [p2, this, h]
        · omega
      · intro h; left; omega
    unfold keyF
    generalize m1 * 2 ^ (e1 - min e1 e2) = M1 at k1 k2 z1 ⊢
    generalize m2 * 2 ^ (e2 - min e1 e2) = M2 at k1 k2 z2 ⊢
    generalize rgF a = A at k1 k2 z1 ⊢
    generalize rgF b = B at k1 k2 z2 ⊢
    clear p1 p2 h1 h2 r1 r2
    by_cases s1 : 9223372036854775808 ≤ a <;> by_cases s2 : 9223372036854775808 ≤ b
    all_goals simp only [s1, s2, decide_true, decide_false, if_true, if_false, Bool.false_eq_true]
    all_goals congr 1
    all_goals (repeat' split)
    all_goals (first | rfl | omega)
  · obtain ⟨e1, m1, r1, b1, c1, p1⟩ := read_fin ha h1
    rw [r1, read_inf hb h2]
    simp only [Ieee.Datum.order]
    rw [cmp_int]
    unfold keyF
    by_cases s1 : 9223372036854775808 ≤ a <;> by_cases s2 : 9223372036854775808 ≤ b
    all_goals simp only [s1, s2, decide_true, decide_false, if_true, if_false, Bool.false_eq_true]
    all_goals congr 1
    all_goals (repeat' split)
    all_goals (first | rfl | omega)
  · obtain ⟨e2, m2, r2, b2, c2, p2⟩ := read_fin hb h2
    rw [r2, read_inf ha h1]
    simp only [Ieee.Datum.order]
    rw [cmp_int]
    unfold keyF
    by_cases s1 : 9223372036854775808 ≤ a <;> by_cases s2 : 9223372036854775808 ≤ b
    all_goals simp only [s1, s2, decide_true, decide_false, if_true, if_false, Bool.false_eq_true]
    all_goals congr 1
    all_goals (repeat' split)
    all_goals (first | rfl | omega)
  · rw [read_inf ha h1, read_inf hb h2]
    simp only [Ieee.Datum.order]
    rw [cmp_int, cmp_nat]
    unfold keyF
    rw [h1, h2, hi]
    by_cases s1 : 9223372036854775808 ≤ a <;> by_cases s2 : 9223372036854775808 ≤ b
    all_goals simp only [s1, s2, decide_true, decide_false, if_true, if_false, Bool.false_eq_true]
    all_goals simp
/-- Does a float stand above another one? As the program reckons it, and as the reference does. -/
def aboveF (a b : Nat) : Bool :=
  if (ordF a a != some .eq) = true then false else if (ordF b b != some .eq) = true then true else (ordF a b == some .gt) || ((ordF a b == some .eq) && (decide (9223372036854775808 ≤ b) && !decide (9223372036854775808 ≤ a)))
def rankF (a : Nat) : Nat := if 9223372036854775808 ≤ a then 18446744073709551615 - a else a + 9223372036854775808
def raboveF (a b : Nat) : Bool :=
  if (ordF a a != some .eq) = true then false else if (ordF b b != some .eq) = true then true else decide (rankF b < rankF a)
theorem nan_iff {a : Nat} (ha : a < 18446744073709551616) : (ordF a a != some .eq) = decide (infR < rgF a) := by
  by_cases h : infR < rgF a
  · rw [ord_nan_l h]; simp [h]
  · rw [ord_key ha ha (by omega) (by omega), cmp_int, if_neg (by omega), if_pos rfl]; simp [h]
theorem above_rank {a b : Nat} (ha : a < 18446744073709551616) (hb : b < 18446744073709551616) : aboveF a b = raboveF a b := by
  unfold aboveF raboveF
  rw [nan_iff ha, nan_iff hb]
  by_cases n1 : infR < rgF a
  · simp [n1]
  · by_cases n2 : infR < rgF b
    · simp [n1, n2]
    · simp only [n1, n2, decide_false, Bool.false_eq_true, if_false]
      rw [ord_key ha hb (by omega) (by omega), cmp_int]
      have g1 : (9223372036854775808 ≤ a → rgF a = a - 9223372036854775808) ∧ (a < 9223372036854775808 → rgF a = a) := by constructor <;> intro h <;> show a % 9223372036854775808 = _ <;> omega
      have g2 : (9223372036854775808 ≤ b → rgF b = b - 9223372036854775808) ∧ (b < 9223372036854775808 → rgF b = b) := by constructor <;> intro h <;> show b % 9223372036854775808 = _ <;> omega
      unfold keyF rankF
      by_cases s1 : 9223372036854775808 ≤ a <;> by_cases s2 : 9223372036854775808 ≤ b
      all_goals simp only [s1, s2, decide_true, decide_false, if_true, if_false, Bool.and_true, Bool.and_false, Bool.not_true, Bool.not_false, Bool.or_false]
      all_goals (split)
      all_goals (try split)
      all_goals simp
      all_goals omega
theorem rg_of (a : Nat) (ha : a < 18446744073709551616) : rgF a < 9223372036854775808 := Nat.mod_lt _ (by decide)
end Go.Proofs.Ytanbfejhhnhabaa
