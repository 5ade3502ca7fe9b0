/- The reference's Value. -/
import Derived.Test.YtanbfejhhnhabaaJs6
import Derived.Test.YtanbfejhhnhabaaJs5
import Derived.Test.YtanbfejhhnhabaaJs4
/- The reference's Below. -/
namespace Go.Proofs.Ytanbfejhhnhabaa
open Go.RowKit Go.Maps Go.Sort
set_option maxRecDepth 100000
set_option linter.unusedVariables false
set_option linter.unusedSimpArgs false
set_option maxHeartbeats 4000000
theorem rright_to {v : Value} {l : List Nd} {b : Bool} {w : World} (h : RN w v l) (a : Arg l) (e : rightL l = b) :
    Calls Try.prog 27 #[v] w fun e w' => e = .returned (.bool b) ∧ Fr [] w w' := by
  have := right_any v l w h a.sz a.pos a.len
  rwa [e] at this
theorem rbelow2_any (v1 v2 : Value) (l1 l2 : List Nd) (w : World) (h1 : RN w v1 l1) (h2 : RN w v2 l2) (a1 : Arg l1) (a2 : Arg l2) :
    Calls Try.prog 17 #[v1, v2] w fun e w' => e = .returned (.tuple #[.bool (belowF l1 l2).1, .int .i64 (belowF l1 l2).2]) ∧ Fr [] w w' := by
  have H1 := Lib.hid h1
  have H2 := Lib.hid h2
  have HA1 := Lib.hid a1
  have HA2 := Lib.hid a2
  obtain ⟨p1, q1, e1⟩ := h1.at_
  obtain ⟨p2, q2, e2⟩ := h2.at_
  subst e1 e2
  clear h1 h2 a1 a2
  by_cases r1 : rightL l1 = true
  · by_cases r2 : rightL l2 = true
    · have em : belowF l1 l2 = (l1.all (hasL l2), 0) := by unfold belowF; rw [if_pos ⟨r1, r2⟩]
      have hn := right_len r1
      have R1 := Lib.hid r1
      have R2 := Lib.hid r2
      have EM := Lib.hid em
      clear r1 r2 em
      go_enter Try.func17, Try.ntmps17
      go_wp2_with fail
      go_at_call 27
      refine (rright_to H1.out HA1.out R1.out).mono ?_
      rintro e w1 ⟨rfl, hF1⟩
      have HF1 := Lib.hid hF1
      clear hF1
      go_wp2_with fail
      go_at_call 27
      refine (rright_to (H2.out.fr0 HF1.out) HA2.out R2.out).mono ?_
      rintro e w2 ⟨rfl, hF2⟩
      have HF2 := Lib.hid (HF1.out.trans hF2)
      clear hF2
      go_wp2_with fail
      go_loopw [18] (fun u wr => ∃ j : Nat, j ≤ l1.length ∧ u = .int .i64 j ∧ Hid ((l1.take j).all (hasL l2) = true) ∧ Hid (Fr [] w wr)) (fun u _ => l1.length - (intOf u).toNat)
      case atStart => exact ⟨0, by omega, rfl, Lib.hid rfl, HF2⟩
      case round =>
        obtain ⟨j, hj, rfl, HK, HF⟩ := hrel
        by_cases hjl : j < l1.length
        · obtain ⟨⟨s, u, d⟩, hj0⟩ : ∃ a, l1[j]? = some a := ⟨_, List.getElem?_eq_getElem hjl⟩
          obtain ⟨g, o, c', he, g1, g2, g3, g4⟩ := (H1.out.fr0 HF.out).cells (by omega)
          simp only [Value.slice.injEq] at he
          obtain ⟨rfl, -, rfl⟩ := he
          have k0 := g4 (j * 3) _ (flat3_get l1 j _ hj0).1
          have k1 := g4 (j * 3 + 1) _ (flat3_get l1 j _ hj0).2.1
          have k2 := g4 (j * 3 + 2) _ (flat3_get l1 j _ hj0).2.2
          rw [← Nat.add_assoc] at k1 k2
          simp only at k0 k1 k2
          have HJ := Lib.hid hj0
          have hb := rbelow_any _ l2 s u d _ ((H2.out.fr0 HF.out).fr0 ((Fr.refl [] wr).alloc (.cells #[.string s, .int .u64 u, .int .u64 d] 33)))
          clear g4 hj0
          cases hh : hasL l2 (s, u, d) with
          | true =>
            rw [hh] at hb
            have HB := Lib.hid hb
            have HH := Lib.hid hh
            clear hb hh
            go_wp2_with ((go_at_call 39); (with_reducible refine HB.out.mono ?_); rintro e w3 ⟨rfl, hF3⟩)
            go_roundw
            case rel => exact ⟨j + 1, by omega, by go_num, Lib.hid (by rw [take_snoc HJ.out, List.all_append, HK.out]; simp [HH.out]), Lib.hid ((HF.out.alloc _).trans hF3)⟩
            case measure => simp [intOf]; omega
          | false =>
            rw [hh] at hb
            have e : belowF l1 l2 = (false, 0) := by
              rw [EM.out, Prod.mk.injEq]
              refine ⟨?_, rfl⟩
              rw [List.all_eq_false]
              exact ⟨_, List.mem_of_getElem? HJ.out, by simp [hh]⟩
            have HB := Lib.hid hb
            have E := Lib.hid e
            clear hb hh e
            go_wp2_with ((go_at_call 39); (with_reducible refine HB.out.mono ?_); rintro e w3 ⟨rfl, hF3⟩)
            go_ret2
            exact ⟨by rw [E.out]; rfl, (HF.out.alloc _).trans hF3⟩
        · obtain rfl : j = l1.length := by omega
          have hk := HK.out
          rw [List.take_length] at hk
          have E := Lib.hid hk
          clear hk
          go_wp2
          go_ret2
          exact ⟨by rw [EM.out, E.out]; rfl, HF.out⟩
    · have em : belowF l1 l2 = (false, 230) := by unfold belowF; rw [if_neg (fun h => r2 h.2)]
      have R1 := Lib.hid r1
      have R2 := Lib.hid (Bool.eq_false_iff.2 r2)
      have EM := Lib.hid em
      clear r1 r2 em
      go_enter Try.func17, Try.ntmps17
      go_wp2_with fail
      go_at_call 27
      refine (rright_to H1.out HA1.out R1.out).mono ?_
      rintro e w1 ⟨rfl, hF1⟩
      have HF1 := Lib.hid hF1
      clear hF1
      go_wp2_with fail
      go_at_call 27
      refine (rright_to (H2.out.fr0 HF1.out) HA2.out R2.out).mono ?_
      rintro e w2 ⟨rfl, hF2⟩
      go_wp2_with fail
      go_ret2
      exact ⟨by rw [EM.out]; rfl, HF1.out.trans hF2⟩
  · have em : belowF l1 l2 = (false, 230) := by unfold belowF; rw [if_neg (fun h => r1 h.1)]
    have R1 := Lib.hid (Bool.eq_false_iff.2 r1)
    have EM := Lib.hid em
    clear r1 em
    go_enter Try.func17, Try.ntmps17
    go_wp2_with fail
    go_at_call 27
    refine (rright_to H1.out HA1.out R1.out).mono ?_
    rintro e w1 ⟨rfl, hF1⟩
    go_wp2_with fail
    go_ret2
    exact ⟨by rw [EM.out]; rfl, hF1⟩
end Go.Proofs.Ytanbfejhhnhabaa

/- The reference's Delta; the law's copied. -/
namespace Go.Proofs.Ytanbfejhhnhabaa
open Go.RowKit Go.Maps Go.Sort
set_option maxRecDepth 100000
set_option linter.unusedVariables false
set_option linter.unusedSimpArgs false
set_option maxHeartbeats 4000000
theorem copied_any (v : Value) (l : List Nd) (w : World) (h : RN w v l) (hl : l.length ≤ 4398046511104) :
    Calls Try.prog 23 #[v] w fun e w' => ∃ v', e = .returned v' ∧ SN w' w.heap.size v' l ∧ Fr [] w w' := by
  have H := Lib.hid h
  obtain ⟨p1, q1, e1⟩ := h.at_
  subst e1
  clear h
  obtain ⟨i0, hi0, hz0, hz1, hz2⟩ := info_parts infoN
  go_enter Try.func23, Try.ntmps23
  go_wp2_with (at_builtin; (refine wpList_append_svr _ rfl (.tmp 4) (.tmp 5) 28 rfl 33 i0 (ndV ByteArray.empty 0 0) 3 32 Try.underlying28 hi0 hz0 hz1 hz2 rfl (by decide) w.heap.size (.slice none 0 0) 0 [] rfl (SV.nil _ _ _) ?_ (.slice p1 l.length q1) l.length (flat3 l) rfl H.out (flat3_one l) ?_ ?_ ?_); (focus omega); (focus (unfold maxLen; omega)); (focus omega); intro v3 w3 hS3 hF3; simp only [Nat.zero_add, List.nil_append] at hS3; have hF3b : Fr [] w w3 := hF3)
  go_ret
  exact ⟨_, rfl, hS3, hF3b⟩
theorem filter_take {l : List Nd} {p : Nd → Bool} {j : Nat} {x : Nd} (h : l[j]? = some x) : (l.take (j + 1)).filter p = (l.take j).filter p ++ (if p x = true then [x] else []) := by
  rw [take_snoc h, List.filter_append]
  congr 1
  simp only [List.filter_cons, List.filter_nil]
theorem rdelta_any (v1 v2 : Value) (l1 l2 : List Nd) (w : World) (h1 : RN w v1 l1) (h2 : RN w v2 l2) (a1 : Arg l1) (a2 : Arg l2) :
    Calls Try.prog 25 #[v1, v2] w (DeltaPost l1 l2 w) := by
  have H1 := Lib.hid h1
  have H2 := Lib.hid h2
  have HA1 := Lib.hid a1
  have HA2 := Lib.hid a2
  obtain ⟨p1, q1, e1⟩ := h1.at_
  obtain ⟨p2, q2, e2⟩ := h2.at_
  subst e1 e2
  clear h1 h2 a1 a2
  by_cases r1 : rightL l1 = true
  · by_cases r2 : rightL l2 = true
    · have em : deltaF l1 l2 = (l1.filter (fun x => !hasL l2 x), 0) := by unfold deltaF; rw [if_pos ⟨r1, r2⟩]
      have hn1 := right_len r1
      have R1 := Lib.hid r1
      have R2 := Lib.hid r2
      have EM := Lib.hid em
      obtain ⟨i0, hi0, hz0, hz1, hz2⟩ := info_parts infoN
      clear r1 r2 em
      go_enter Try.func25, Try.ntmps25
      go_wp2_with fail
      go_at_call 27
      refine (rright_to H1.out HA1.out R1.out).mono ?_
      rintro e w1 ⟨rfl, hF1⟩
      have HF1 := Lib.hid hF1
      clear hF1
      go_wp2_with fail
      go_at_call 27
      refine (rright_to (H2.out.fr0 HF1.out) HA2.out R2.out).mono ?_
      rintro e w2 ⟨rfl, hF2⟩
      have HF2 := Lib.hid (HF1.out.trans hF2)
      clear hF2
      go_wp2_with fail
      go_loopw [6, 19] (fun x u wr => ∃ j : Nat, j ≤ l1.length ∧ u = .int .i64 j ∧ Hid (SN wr w.heap.size x ((l1.take j).filter (fun x => !hasL l2 x))) ∧ Hid (Fr [] w wr)) (fun _ u _ => l1.length - (intOf u).toNat)
      case atStart => exact ⟨0, by omega, rfl, Lib.hid (SV.nil _ _ _), HF2⟩
      case round =>
        obtain ⟨j, hj, rfl, HX, HF⟩ := hrel
        have hlt : ((l1.take j).filter (fun x => !hasL l2 x)).length ≤ j := Nat.le_trans (List.length_filter_le _ _) (by simp; omega)
        obtain ⟨xa, xc, hx⟩ := HX.out.at_
        subst hx
        by_cases hjl : j < l1.length
        · obtain ⟨⟨s, u, d⟩, hj0⟩ : ∃ a, l1[j]? = some a := ⟨_, List.getElem?_eq_getElem hjl⟩
          obtain ⟨g, o, c', he, g1, g2, g3, g4⟩ := (H1.out.fr0 HF.out).cells (by omega)
          simp only [Value.slice.injEq] at he
          obtain ⟨rfl, -, rfl⟩ := he
          have k0 := g4 (j * 3) _ (flat3_get l1 j _ hj0).1
          have k1 := g4 (j * 3 + 1) _ (flat3_get l1 j _ hj0).2.1
          have k2 := g4 (j * 3 + 2) _ (flat3_get l1 j _ hj0).2.2
          rw [← Nat.add_assoc] at k1 k2
          simp only at k0 k1 k2
          have hft := filter_take (p := fun x => !hasL l2 x) hj0
          have hF0 : Fr [] wr (wr.alloc (.cells #[.string s, .int .u64 u, .int .u64 d] 33)) := (Fr.refl _ _).alloc _
          have hbel := rbelow_any (.slice p2 l2.length q2) l2 s u d _ ((H2.out.fr0 HF.out).fr0 hF0)
          by_cases hp : hasL l2 (s, u, d) = true
          · rw [hp] at hbel
            rw [if_neg (by simp [hp]), List.append_nil] at hft
            have HFT := Lib.hid hft
            have HBel := Lib.hid hbel
            clear hft hbel hp g4 hj0
            go_wp2_with fail
            go_at_call 39
            refine HBel.out.mono ?_
            rintro e w4 ⟨rfl, hF4⟩
            go_wp2_with fail
            go_roundw
            case rel =>
              refine ⟨j + 1, by omega, by go_num, Lib.hid ?_, Lib.hid ((HF.out.trans hF0).trans hF4)⟩
              rw [HFT.out]
              exact (HX.out.fr0 hF0).fr0 hF4
            case measure => simp [intOf]; omega
          · have hp' : hasL l2 (s, u, d) = false := Bool.eq_false_iff.2 hp
            rw [hp'] at hbel
            rw [if_pos (by simp [hp'])] at hft
            have HFT := Lib.hid hft
            have HBel := Lib.hid hbel
            clear hft hbel hp hp' g4 hj0
            go_wp2_with fail
            go_at_call 39
            refine HBel.out.mono ?_
            rintro e w4 ⟨rfl, hF4⟩
            have hb4 := hF4.blk (Blk.new wr #[.string s, .int .u64 u, .int .u64 d] 33) (by simp)
            have hbc4 := hb4.cell
            have hbl4 := hb4.lt
            have HS4 := Lib.hid ((HX.out.fr0 hF0).fr0 hF4)
            have HF4 := Lib.hid ((HF.out.trans hF0).trans hF4)
            have hz4 := HF4.out.size
            obtain ⟨m, hm⟩ : ∃ m, ((l1.take j).filter (fun x => !hasL l2 x)).length = m := ⟨_, rfl⟩
            have hX2 : SV w4 w.heap.size 3 (.slice xa m xc) m (flat3 ((l1.take j).filter (fun x => !hasL l2 x))) := by
              have h : SV w4 w.heap.size 3 (.slice xa ((l1.take j).filter (fun x => !hasL l2 x)).length xc) ((l1.take j).filter (fun x => !hasL l2 x)).length (flat3 ((l1.take j).filter (fun x => !hasL l2 x))) := HS4.out
              rwa [hm] at h
            have HS5 := Lib.hid hX2
            have HM := Lib.hid hm
            rw [hm] at hlt
            simp only [hm]
            clear hF4 hF0 hX2 HX HS4 hm
            go_wp2_with (at_builtin; (refine wpList_append_sv _ rfl (.tmp 27) (.tmp 29) 28 rfl 33 i0 (ndV ByteArray.empty 0 0) 3 32 Try.underlying28 hi0 hz0 hz1 hz2 rfl (by decide) w.heap.size (.slice xa m xc) m (flat3 ((l1.take j).filter (fun x => !hasL l2 x))) ?_ ?_ ?_ ⟨w4.heap.size, 0, none⟩ 1 1 [.string s, .int .u64 u, .int .u64 d] rfl rfl (cells_of_blk (t := 33) (Blk.new _ _ _)) ?_ ?_ ?_ ?_); (focus rfl); (focus (exact HS5.out.al _)); (focus (simp; omega)); (focus (simp [Value.oneCell'])); (focus (unfold maxLen; omega)); (focus omega); intro v5 w5 hS5 hF5)
            go_roundw
            case rel =>
              refine ⟨j + 1, by omega, by go_num, Lib.hid ?_, Lib.hid (own_fr (HF4.out.alloc _) (HS5.out.al _) hF5 (Nat.le_refl _))⟩
              rw [HFT.out]
              show SV _ _ _ _ _ _
              rw [List.length_append, flat3_app, HM.out]
              exact hS5
            case measure => simp [intOf]; omega
        · obtain rfl : j = l1.length := by omega
          have HML := Lib.hid HX.out
          have hd := HX.out
          rw [List.take_length] at hd
          have HD := Lib.hid hd
          have hle : (l1.take l1.length).filter (fun x => !hasL l2 x) = l1.filter (fun x => !hasL l2 x) := by rw [List.take_length]
          rw [hle] at HML ⊢
          clear hd
          go_wp2_with fail
          go_ret2
          exact DeltaPost.mk EM.out HML.out HF.out
    · have em : deltaF l1 l2 = ([], 230) := by unfold deltaF; rw [if_neg (fun h => r2 h.2)]
      have R1 := Lib.hid r1
      have R2 := Lib.hid (Bool.eq_false_iff.2 r2)
      have EM := Lib.hid em
      clear r1 r2 em
      go_enter Try.func25, Try.ntmps25
      go_wp2_with fail
      go_at_call 27
      refine (rright_to H1.out HA1.out R1.out).mono ?_
      rintro e w1 ⟨rfl, hF1⟩
      have HF1 := Lib.hid hF1
      clear hF1
      go_wp2_with fail
      go_at_call 27
      refine (rright_to (H2.out.fr0 HF1.out) HA2.out R2.out).mono ?_
      rintro e w2 ⟨rfl, hF2⟩
      go_wp2_with fail
      go_ret2
      exact DeltaPost.mk EM.out (SV.nil _ _ _) (HF1.out.trans hF2)
  · have em : deltaF l1 l2 = ([], 230) := by unfold deltaF; rw [if_neg (fun h => r1 h.1)]
    have R1 := Lib.hid (Bool.eq_false_iff.2 r1)
    have EM := Lib.hid em
    clear r1 em
    go_enter Try.func25, Try.ntmps25
    go_wp2_with fail
    go_at_call 27
    refine (rright_to H1.out HA1.out R1.out).mono ?_
    rintro e w1 ⟨rfl, hF1⟩
    go_wp2_with fail
    go_ret2
    exact DeltaPost.mk EM.out (SV.nil _ _ _) hF1
end Go.Proofs.Ytanbfejhhnhabaa

namespace Go.Proofs.Ytanbfejhhnhabaa
open Go.RowKit Go.Maps Go.Sort
set_option maxRecDepth 100000
set_option linter.unusedVariables false
set_option linter.unusedSimpArgs false
set_option maxHeartbeats 4000000
theorem rvalue_any (v : Value) (l : List Nd) (w : World) (h : RN w v l) (a : Arg l) :
    Calls Try.prog 16 #[v] w fun e w' => e = .returned (.tuple #[.int .i64 (valueF l).1, .int .i64 (valueF l).2]) ∧ Fr [] w w' := by
  obtain ⟨A, c, rfl⟩ := h.at_
  have H := Lib.hid h
  have HA := Lib.hid a
  clear h a
  by_cases r : rightL l = true
  · have em : valueF l = (valL l, 0) := by unfold valueF; rw [if_pos r]
    have hl := right_len r
    have hb := right_bnd r HA.out.pos
    have HB := Lib.hid hb
    have R := Lib.hid r
    have EM := Lib.hid em
    clear r em hb
    go_enter Try.func16, Try.ntmps16
    go_wp2_with fail
    go_at_call 27
    refine (rright_to H.out HA.out R.out).mono ?_
    rintro e w1 ⟨rfl, hF1⟩
    have HF1 := Lib.hid hF1
    clear hF1
    go_wp2_with fail
    go_loopw [4, 12] (fun x u wr => ∃ j : Nat, j ≤ l.length ∧ u = .int .i64 j ∧ x = .int .i64 (valL (l.take j)) ∧ Fr [] w wr) (fun _ u _ => l.length - (intOf u).toNat)
    case atStart => exact ⟨0, by omega, rfl, rfl, HF1.out⟩
    case round =>
      obtain ⟨j, hj, rfl, rfl, hF⟩ := hrel
      by_cases hjl : j < l.length
      · obtain ⟨⟨s, u, d⟩, hj0⟩ : ∃ a, l[j]? = some a := ⟨_, List.getElem?_eq_getElem hjl⟩
        obtain ⟨g, o, c', he, g1, g2, g3, g4⟩ := (H.out.fr0 hF).cells (by omega)
        simp only [Value.slice.injEq] at he
        obtain ⟨rfl, -, rfl⟩ := he
        have k0 := g4 (j * 3) _ (flat3_get l j _ hj0).1
        have k1 := g4 (j * 3 + 1) _ (flat3_get l j _ hj0).2.1
        have k2 := g4 (j * 3 + 2) _ (flat3_get l j _ hj0).2.2
        rw [← Nat.add_assoc] at k1 k2
        have hbd := HB.out _ (List.mem_of_getElem? hj0)
        obtain ⟨hu0, hu1, hd0, hd1⟩ := hbd
        simp only at k0 k1 k2 hu0 hu1 hd0 hd1
        have hv := valL_bd (l.take j) (fun x hx => HB.out x (List.mem_of_mem_take hx))
        have hlt : (l.take j).length = j := by simp; omega
        rw [hlt] at hv
        obtain ⟨x, hx⟩ : ∃ x, x = valL (l.take j) := ⟨_, rfl⟩
        have hnew : valL (l.take (j + 1)) = x + (u - d) := by rw [take_snoc hj0, valL_snoc, hx]
        rw [← hx] at hv ⊢
        have hx1 : -4611686018427387904 ≤ x := by omega
        have hx2 : x ≤ 4611686018427387904 := by omega
        have HN := Lib.hid hnew
        have hb := Blk.new wr #[.string s, .int .u64 u, .int .u64 d] 33
        have hbc := hb.cell
        have hbl := hb.lt
        clear hx hnew g4 hj0 hv hlt
        go_wp2
        go_roundw
        case rel => exact ⟨j + 1, by omega, by go_num, by rw [HN.out], hF.alloc _⟩
        case measure => simp [intOf]; omega
      · obtain rfl : j = l.length := by omega
        rw [List.take_length]
        go_wp2
        go_ret2
        exact ⟨by rw [EM.out]; rfl, hF⟩
  · have em : valueF l = (0, 230) := by unfold valueF; rw [if_neg r]
    have R := Lib.hid (Bool.eq_false_iff.2 r)
    have EM := Lib.hid em
    clear r em
    go_enter Try.func16, Try.ntmps16
    go_wp2_with fail
    go_at_call 27
    refine (rright_to H.out HA.out R.out).mono ?_
    rintro e w1 ⟨rfl, hF1⟩
    go_wp2_with fail
    go_ret2
    exact ⟨by rw [EM.out]; rfl, hF1⟩
end Go.Proofs.Ytanbfejhhnhabaa
