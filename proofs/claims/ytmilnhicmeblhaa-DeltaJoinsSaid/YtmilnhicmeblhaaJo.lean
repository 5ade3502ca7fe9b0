/- The package delta: Join. -/
import Derived.Test.YtmilnhicmeblhaaDi
import Derived.Test.YtmilnhicmeblhaaPj
namespace Go.Proofs.Ytmilnhicmeblhaa
open Go.RowKit Go.Shelf Go.Sort
set_option maxRecDepth 100000
set_option linter.unusedVariables false
set_option linter.unusedSimpArgs false
set_option maxHeartbeats 4000000
attribute [local go_sem] Oper.semAt_some
theorem join_no (va vb : Value) (A B : List Ch) (w : World) (hA : RH w va A) (hB : RH w vb B) (mA : A.length ≤ 9223372036854775806) (mB : B.length ≤ 9223372036854775806) (h : ¬ (rightH A = true ∧ rightH B = true)) :
    Calls Try.prog 38 #[va, vb] w (EPost 4 (joinE A B).1.length (flat4 (joinE A B).1) (joinE A B).2 w) := by
  have e : joinE A B = ([], 240) := by unfold joinE; rw [if_neg h]
  rw [e]
  obtain ⟨aa, ac, ea⟩ := hA.at_
  obtain ⟨ba, bc, eb⟩ := hB.at_
  subst ea eb
  have HA := Lib.hid hA
  have HB := Lib.hid hB
  clear hA hB
  clear e
  cases hra : rightH A with
  | false =>
    refine (callsIn_wide (n := 4)).1 (callsIn_of_wp_marks Try.func38 rfl trivial ?_ rfl)
    simp only [Try.ntmps38, List.size_toArray, List.length_cons, List.length_nil, Nat.reduceAdd, Nat.reduceSub, Array.replicate_succ, Array.replicate_zero, List.push_toArray, List.append_toArray, List.nil_append, List.cons_append]
    refine (wpIn_wide (n := 4)).2 ?_
    go_wp2_with (first | ((go_at_call 18); (with_reducible refine (rightH_any _ A _ HA.out (by omega)).mono ?_); rw [hra]; rintro e w1 ⟨rfl, hF1⟩))

    refine ⟨.tuple #[.slice none 0 0, .int .i64 240], by simp [results, Try.results38, go_sem], ?_⟩
    exact EPost.mk (SV.nil _ _ _) hF1
  | true =>
    have hrb : rightH B = false := by
      cases hb : rightH B with
      | false => rfl
      | true => exact absurd ⟨hra, hb⟩ h
    clear h
    refine (callsIn_wide (n := 4)).1 (callsIn_of_wp_marks Try.func38 rfl trivial ?_ rfl)
    simp only [Try.ntmps38, List.size_toArray, List.length_cons, List.length_nil, Nat.reduceAdd, Nat.reduceSub, Array.replicate_succ, Array.replicate_zero, List.push_toArray, List.append_toArray, List.nil_append, List.cons_append]
    refine (wpIn_wide (n := 4)).2 ?_
    go_wp2_with (first | ((go_at_call 18); (with_reducible refine (rightH_any _ A _ HA.out (by omega)).mono ?_); rw [hra]; rintro e w1 ⟨rfl, hF1⟩) | ((go_at_call 18); (with_reducible refine (rightH_any _ B _ (HB.out.fr0 hF1) (by omega)).mono ?_); rw [hrb]; rintro e w2 ⟨rfl, hF2⟩))

    refine ⟨.tuple #[.slice none 0 0, .int .i64 240], by simp [results, Try.results38, go_sem], ?_⟩
    exact EPost.mk (SV.nil _ _ _) (hF1.trans hF2)
theorem join_yes (va vb : Value) (A B : List Ch) (w : World) (hA : RH w va A) (hB : RH w vb B) (mA : A.length ≤ 4096) (mB : B.length ≤ 4096) (hra : rightH A = true) (hrb : rightH B = true) :
    Calls Try.prog 38 #[va, vb] w (EPost 4 (cutE (made joinF A B)).1.length (flat4 (cutE (made joinF A B)).1) (cutE (made joinF A B)).2 w) := by
  obtain ⟨aa, ac, ea⟩ := hA.at_
  obtain ⟨ba, bc, eb⟩ := hB.at_
  subst ea eb
  have HA := Lib.hid hA
  have HB := Lib.hid hB
  clear hA hB
  obtain ⟨i0, hi0, hz0, hz1, hz2⟩ := info_parts infoH
  refine (callsIn_wide (n := 4)).1 (callsIn_of_wp_marks Try.func38 rfl trivial ?_ rfl)
  simp only [Try.ntmps38, List.size_toArray, List.length_cons, List.length_nil, Nat.reduceAdd, Nat.reduceSub, Array.replicate_succ, Array.replicate_zero, List.push_toArray, List.append_toArray, List.nil_append, List.cons_append]
  refine (wpIn_wide (n := 4)).2 ?_
  go_wp2_with (first | ((go_at_call 18); (with_reducible refine (rightH_any _ A _ HA.out (by omega)).mono ?_); rw [hra]; rintro e w1 ⟨rfl, hF1⟩) | ((go_at_call 18); (with_reducible refine (rightH_any _ B _ (HB.out.fr0 hF1) (by omega)).mono ?_); rw [hrb]; rintro e w2 ⟨rfl, hF2⟩) | ((go_at_call 58); (with_reducible refine (pairsHH_any _ _ _ _ _ _ _).mono ?_); rintro e w3 ⟨rfl, hw3⟩))
  clear hw3 w3
  generalize hW0 : ((((w2.alloc (.cells #[.slice none 0 0] 26)).alloc (.cells #[.slice aa A.length ac] 26)).alloc (.cells #[.slice ba B.length bc] 26)).alloc (.cells #[.func (.func 59) #[] #[]] 119)).alloc (.cells #[.func (.func 59) #[] #[]] 119) = W0
  have hz : W0.heap.size = w2.heap.size + 5 := by rw [← hW0]; simp
  have bo : Blk W0 w2.heap.size #[.slice none 0 0] 26 := by rw [← hW0]; exact ((((Blk.new _ _ _).alloc _).alloc _).alloc _).alloc _
  have b1 : Blk W0 (w2.heap.size + 1) #[.slice aa A.length ac] 26 := by rw [← hW0]; exact (((Blk.mk0 _ _ _ _ (by simp)).alloc _).alloc _).alloc _
  have b2 : Blk W0 (w2.heap.size + 1 + 1) #[.slice ba B.length bc] 26 := by rw [← hW0]; exact ((Blk.mk0 _ _ _ _ (by simp)).alloc _).alloc _
  have b3 : Blk W0 (w2.heap.size + 1 + 2) #[.func (.func 59) #[] #[]] 119 := by rw [← hW0]; exact (Blk.mk0 _ _ _ _ (by simp)).alloc _
  have b4 : Blk W0 (w2.heap.size + 1 + 3) #[.func (.func 59) #[] #[]] 119 := by rw [← hW0]; exact Blk.mk0 _ _ _ _ (by simp)
  have F2 : Fr [] w2 W0 := by rw [← hW0]; exact (((((Fr.refl _ _).alloc _).alloc _).alloc _).alloc _).alloc _
  have F02 : Fr [] w w2 := hF1.trans hF2
  have F0 : Fr [] w W0 := F02.trans F2
  have hws : w.heap.size ≤ w2.heap.size := F02.size
  have hnA : 0 < A.length → ∀ g, (Value.slice aa A.length ac).ownBlock = some g → g < w2.heap.size := fun h g hg => Nat.lt_of_lt_of_le (HA.out.own h hg) hws
  have hnB : 0 < B.length → ∀ g, (Value.slice ba B.length bc).ownBlock = some g → g < w2.heap.size := fun h g hg => Nat.lt_of_lt_of_le (HB.out.own h hg) hws
  have RA := Lib.hid (HA.out.fr0 F0)
  have RB := Lib.hid (HB.out.fr0 F0)
  have HF0 := Lib.hid F0
  clear hW0 HA HB hF1 hF2 F0 F2 F02
  refine (wpIn_wide (n := 4)).1 ?_
  refine wpIn_rangeFunc_ownH rfl (by decide) (gf := 72) (lb := #[.pointer (some ⟨w2.heap.size + 1, 0, none⟩), .pointer (some ⟨w2.heap.size + 1 + 1, 0, none⟩), .pointer (some ⟨w2.heap.size + 1 + 2, 0, none⟩), .pointer (some ⟨w2.heap.size + 1 + 3, 0, none⟩)]) rfl trivial
    (enters_of Try.func72 (by kernel_rfl) rfl)
    (pairsHH_stops 3 (w2.heap.size + 1) (w2.heap.size + 1 + 1) (w2.heap.size + 1 + 2) (w2.heap.size + 1 + 3) w2.heap.size A B _ _ W0 (by omega) RA.out RB.out b1 b2 b3 b4 hnA hnB) KB.trans (KB.put (by omega) (by simp; omega)) (Below.refl _ _) (fun _ => rfl)
    (fun (pre : List (ItZ A B)) W => OI W0 w2.heap.size 26 4 (outZ joinF pre).length (flat4 (outZ joinF pre)) W) (fun _ _ _ => False) (OI.own (by decide) _ _) (fun _ _ _ _ _ hs _ _ => hs)
    ⟨⟨_, bo, SV.nil _ _ _, .inl rfl⟩, Fr.refl _ _⟩
    (fun (x : ItZ A B) a' W => ∃ Bx, W0.heap.size ≤ Bx ∧ Blk W Bx #[adr (.slice aa A.length ac) 4 x.1.2.1, adr (.slice ba B.length bc) 4 x.1.2.2] 122 ∧ a' = { tmps := #[.slice aa A.length ac, .slice ba B.length bc, undef, undef, .slice none 0 0, .int .i64 0, .pointer (some ⟨w2.heap.size, 0, none⟩), .string x.1.1, .pointer (some ⟨Bx, 0, none⟩), undef, .slice aa A.length ac, .bool true, .bool false, .bool false, .slice ba B.length bc, .bool true, .bool false, .bool false, .slice aa A.length ac, .slice ba B.length bc, .func (.func 72) #[] #[.pointer (some ⟨w2.heap.size + 1, 0, none⟩), .pointer (some ⟨w2.heap.size + 1 + 1, 0, none⟩), .pointer (some ⟨w2.heap.size + 1 + 2, 0, none⟩), .pointer (some ⟨w2.heap.size + 1 + 3, 0, none⟩)], .string x.1.1, .agg #[adr (.slice aa A.length ac) 4 x.1.2.1, adr (.slice ba B.length bc) 4 x.1.2.2], undef, undef, undef, undef, undef, undef, undef, undef, undef, undef, undef, undef, undef, undef, undef, undef, undef, undef, undef, undef, undef, undef, undef, undef, undef, undef, undef, undef, undef, undef, undef, undef, undef, undef, undef, undef, undef, undef, undef, undef, undef, undef, undef, undef, undef, undef, undef, undef, undef, undef, undef, undef, undef, undef, undef, undef, undef, undef, undef, undef, undef, undef, undef, undef, undef, undef, undef, undef, undef, undef, undef, undef, undef, undef, undef, undef, undef], defers := [] })
    (fun x a' _ W W' row hs hg hr => by obtain ⟨Bx, h1, h2, h3⟩ := hs; exact ⟨Bx, h1, h2.own_ hg (fun r e => (hr r e).2), h3⟩) ?assign ?body ?done ?stop
  case assign =>
    intro l pre x W K hI hK
    have hsz := hI.fr.size
    obtain ⟨p1, hp1⟩ := adr_ptr (.slice aa A.length ac) 4 x.1.2.1
    obtain ⟨p2, hp2⟩ := adr_ptr (.slice ba B.length bc) 4 x.1.2.2
    simp only [hp1, hp2] at hK ⊢
    clear hp1 hp2
    gi_wp2
    refine hK _ _ (KeepsFrom.of_fr ((Fr.refl [] W).alloc _) (by simp)) (KB.of_fr ((Fr.refl [] W).alloc _) (by simp)) (OI.own (by decide) _ _ _ _ _ none hI (World.grownBy_alloc W _ none) (fun r e => by cases e)) ⟨W.heap.size, hsz, Blk.new _ _ _, rfl⟩
  case body =>
    rintro l pre x a' W hl ⟨r0, hr0⟩ hI ⟨Bx, hBx, bX, rfl⟩ hlt
    obtain ⟨⟨v, hv, hsv, hnil⟩, hf⟩ := hI
    have hol := outZ_len joinF pre
    have hBo : w2.heap.size < W0.heap.size := by omega
    have hsz := hf.size
    have RAW := Lib.hid (RA.out.frp hf (fun g hg h0 hm => by simp at hm; have := hnA h0 g hg; omega))
    have RBW := Lib.hid (RB.out.frp hf (fun g hg h0 hm => by simp at hm; have := hnB h0 g hg; omega))
    have HV := Lib.hid hv
    have HSV := Lib.hid hsv
    have HN := Lib.hid hnil
    have HF := Lib.hid hf
    have vc := hv.cell
    have vf := hv.free
    have vl := hv.lt
    clear hv hsv hnil hf hr0 hl hnA hnB b1 b2 b3 b4 bo RA RB
    have hat := x.at_
    have hxm : valV A B x.1 ∈ zipR A B := by rw [← zipP_val]; exact List.mem_map.2 ⟨x.1, x.2, rfl⟩
    have HXM := Lib.hid hxm
    clear hxm
    obtain ⟨⟨s, oa, ob⟩, hx⟩ := x
    simp only at hat bX HXM ⊢
    rcases hat with ⟨i, a, e1, e2, hi⟩ | ⟨k, b, e1, e2, hk⟩ | ⟨i, k, a, b, e1, e2, hi, hk⟩
    · subst e1 e2
      obtain ⟨x, xr, xg⟩ := a
      have hAl := (List.getElem?_eq_some_iff.1 hi).1
      obtain ⟨g, o, c, he, g1, g2, g3, g4⟩ := RAW.out.cells (by omega)
      simp only [Value.slice.injEq] at he
      obtain ⟨rfl, -, rfl⟩ := he
      have ak0 := g4 (i * 4) _ (flat4_get A i _ hi).1
      have ak1 := g4 (i * 4 + 1) _ (flat4_get A i _ hi).2.1
      have ak2 := g4 (i * 4 + 2) _ (flat4_get A i _ hi).2.2.1
      have ak3 := g4 (i * 4 + 3) _ (flat4_get A i _ hi).2.2.2
      rw [← Nat.add_assoc] at ak1 ak2 ak3
      clear g4
      simp only [adr, add_none] at bX ak0 ak1 ak2 ak3 ⊢
      have xc := bX.cell
      have xl := bX.lt
      gi_upto_region 16 with fail
      refine round_list (by kernel_rfl) (fun ⟨_, _, h⟩ => h) ?_
      refine wpList_named ?_
      intro wx hwx
      have HFx := Lib.hid (show Fr [] W wx from by rw [← hwx]; repeat' (first | (with_reducible exact Fr.refl _ _) | (with_reducible refine Fr.drew ?_) | (with_reducible refine Fr.drN ?_ _) | (with_reducible refine Fr.alloc ?_ _) | (with_reducible refine Fr.set ?_ ?_ _) | (left; simp; done) | (right; simp; done) | (right; simp; omega)))
      have HCx := Lib.hid (show Blk wx W.heap.size #[.string s, .int .u64 (x), .bool xr, .bool xg] 34 from by rw [← hwx]; first | (exact Blk.new _ _ _) | (repeat' (first | ((with_reducible refine Blk.mk0 _ _ _ _ ?_); first | (simp; done) | (simp; omega)) | (with_reducible refine Blk.drew ?_) | (with_reducible refine Blk.drN ?_ _) | (with_reducible refine Blk.set ?_ _ _) | (with_reducible refine Blk.other ?_ ?_ _) | (with_reducible refine Blk.alloc ?_ _) | (simp; done) | (simp; omega))))
      clear hwx
      have hd5 : joinF s (valV A B (s, some i, none)).2.1 (valV A B (s, some i, none)).2.2 = some (x, xr, xg) := by rw [val_a (A := A) (B := B) (x := (s, some i, none)) rfl hi, val_b0 (A := A) (B := B) (x := (s, some i, none)) rfl]; rfl
      have HD5 := Lib.hid hd5
      clear hd5
      have cx := HCx.out.cell
      have cl := HCx.out.lt
      have vcx := (HFx.out.blk HV.out (by simp)).cell
      have vlx := (HFx.out.blk HV.out (by simp)).lt
      clear vc vf vl xc xl 
      go_wp2_with (at_builtin; (refine wpList_append_svo _ rfl (.tmp 92) (.tmp 94) 26 rfl 34 i0 (chV ByteArray.empty 0 false false) 4 32 Try.underlying26 hi0 hz0 hz1 hz2 rfl (by decide) W0.heap.size v _ _ rfl ((HSV.out.fr0 HFx.out).al _) ?_ ⟨wx.heap.size, 0, none⟩ 1 1 [.string s, .int .u64 (x), .bool xr, .bool xg] rfl rfl (cells_of_blk (t := 34) ?_) ?_ ?_ ?_ ?_); (focus (have := HFx.out.size; simp; omega)); (focus (exact Blk.new _ _ _)); (focus (simp [Value.oneCell'])); (focus (unfold maxLen; omega)); (focus omega); intro v6 w6 hS6 hF6 hO6; have hb6 := hF6.blk ((HFx.out.blk HV.out (by simp)).alloc _) (by intro hm; simp at hm; have := (HSV.out.own hm).1; omega); have c6 := hb6.cell; have f6 := hb6.free; have l6 := hb6.lt; have HS6 := Lib.hid hS6; have HF6 := Lib.hid hF6; obtain ⟨a6, q6, e6⟩ := hS6.at_; subst e6; clear hS6 hF6 hO6 hb6 cx cl vcx vlx)
      gi_wp2
      have hst := OI.step (by decide) hBo HV.out HSV.out HN.out HF.out (HFx.out.alloc _) HS6.out HF6.out (by decide)
      refine ⟨hst.2.1, KB.of_fr hst.2.2 ?_, OI.cast hst.1 (by rw [outZ_some HD5.out]; simp) (by rw [outZ_some HD5.out, flat4_app]; rfl)⟩
      intro q hq
      rcases List.mem_cons.1 hq with rfl | hq
      · simp <;> omega
      · simp at hq
        have := (HSV.out.own hq).1
        simp
        omega
    · subst e1 e2
      obtain ⟨y, yr, yg⟩ := b
      have hBl := (List.getElem?_eq_some_iff.1 hk).1
      obtain ⟨g', o', c', he, g1', g2', g3', g4'⟩ := RBW.out.cells (by omega)
      simp only [Value.slice.injEq] at he
      obtain ⟨rfl, -, rfl⟩ := he
      have bk0 := g4' (k * 4) _ (flat4_get B k _ hk).1
      have bk1 := g4' (k * 4 + 1) _ (flat4_get B k _ hk).2.1
      have bk2 := g4' (k * 4 + 2) _ (flat4_get B k _ hk).2.2.1
      have bk3 := g4' (k * 4 + 3) _ (flat4_get B k _ hk).2.2.2
      rw [← Nat.add_assoc] at bk1 bk2 bk3
      clear g4'
      simp only [adr, add_none] at bX bk0 bk1 bk2 bk3 ⊢
      have xc := bX.cell
      have xl := bX.lt
      gi_upto_region 16 with fail
      refine round_list (by kernel_rfl) (fun ⟨_, _, h⟩ => h) ?_
      refine wpList_named ?_
      intro wx hwx
      have HFx := Lib.hid (show Fr [] W wx from by rw [← hwx]; repeat' (first | (with_reducible exact Fr.refl _ _) | (with_reducible refine Fr.drew ?_) | (with_reducible refine Fr.drN ?_ _) | (with_reducible refine Fr.alloc ?_ _) | (with_reducible refine Fr.set ?_ ?_ _) | (left; simp; done) | (right; simp; done) | (right; simp; omega)))
      have HCx := Lib.hid (show Blk wx W.heap.size #[.string s, .int .u64 (y), .bool yr, .bool yg] 34 from by rw [← hwx]; first | (exact Blk.new _ _ _) | (repeat' (first | ((with_reducible refine Blk.mk0 _ _ _ _ ?_); first | (simp; done) | (simp; omega)) | (with_reducible refine Blk.drew ?_) | (with_reducible refine Blk.drN ?_ _) | (with_reducible refine Blk.set ?_ _ _) | (with_reducible refine Blk.other ?_ ?_ _) | (with_reducible refine Blk.alloc ?_ _) | (simp; done) | (simp; omega))))
      clear hwx
      have hd5 : joinF s (valV A B (s, none, some k)).2.1 (valV A B (s, none, some k)).2.2 = some (y, yr, yg) := by rw [val_a0 (A := A) (B := B) (x := (s, none, some k)) rfl, val_b (A := A) (B := B) (x := (s, none, some k)) rfl hk]; rfl
      have HD5 := Lib.hid hd5
      clear hd5
      have cx := HCx.out.cell
      have cl := HCx.out.lt
      have vcx := (HFx.out.blk HV.out (by simp)).cell
      have vlx := (HFx.out.blk HV.out (by simp)).lt
      clear vc vf vl xc xl 
      go_wp2_with (at_builtin; (refine wpList_append_svo _ rfl (.tmp 92) (.tmp 94) 26 rfl 34 i0 (chV ByteArray.empty 0 false false) 4 32 Try.underlying26 hi0 hz0 hz1 hz2 rfl (by decide) W0.heap.size v _ _ rfl ((HSV.out.fr0 HFx.out).al _) ?_ ⟨wx.heap.size, 0, none⟩ 1 1 [.string s, .int .u64 (y), .bool yr, .bool yg] rfl rfl (cells_of_blk (t := 34) ?_) ?_ ?_ ?_ ?_); (focus (have := HFx.out.size; simp; omega)); (focus (exact Blk.new _ _ _)); (focus (simp [Value.oneCell'])); (focus (unfold maxLen; omega)); (focus omega); intro v6 w6 hS6 hF6 hO6; have hb6 := hF6.blk ((HFx.out.blk HV.out (by simp)).alloc _) (by intro hm; simp at hm; have := (HSV.out.own hm).1; omega); have c6 := hb6.cell; have f6 := hb6.free; have l6 := hb6.lt; have HS6 := Lib.hid hS6; have HF6 := Lib.hid hF6; obtain ⟨a6, q6, e6⟩ := hS6.at_; subst e6; clear hS6 hF6 hO6 hb6 cx cl vcx vlx)
      gi_wp2
      have hst := OI.step (by decide) hBo HV.out HSV.out HN.out HF.out (HFx.out.alloc _) HS6.out HF6.out (by decide)
      refine ⟨hst.2.1, KB.of_fr hst.2.2 ?_, OI.cast hst.1 (by rw [outZ_some HD5.out]; simp) (by rw [outZ_some HD5.out, flat4_app]; rfl)⟩
      intro q hq
      rcases List.mem_cons.1 hq with rfl | hq
      · simp <;> omega
      · simp at hq
        have := (HSV.out.own hq).1
        simp
        omega
    · subst e1 e2
      obtain ⟨x, xr, xg⟩ := a
      obtain ⟨y, yr, yg⟩ := b
      have hAl := (List.getElem?_eq_some_iff.1 hi).1
      obtain ⟨g, o, c, he, g1, g2, g3, g4⟩ := RAW.out.cells (by omega)
      simp only [Value.slice.injEq] at he
      obtain ⟨rfl, -, rfl⟩ := he
      have ak0 := g4 (i * 4) _ (flat4_get A i _ hi).1
      have ak1 := g4 (i * 4 + 1) _ (flat4_get A i _ hi).2.1
      have ak2 := g4 (i * 4 + 2) _ (flat4_get A i _ hi).2.2.1
      have ak3 := g4 (i * 4 + 3) _ (flat4_get A i _ hi).2.2.2
      rw [← Nat.add_assoc] at ak1 ak2 ak3
      clear g4
      have hBl := (List.getElem?_eq_some_iff.1 hk).1
      obtain ⟨g', o', c', he, g1', g2', g3', g4'⟩ := RBW.out.cells (by omega)
      simp only [Value.slice.injEq] at he
      obtain ⟨rfl, -, rfl⟩ := he
      have bk0 := g4' (k * 4) _ (flat4_get B k _ hk).1
      have bk1 := g4' (k * 4 + 1) _ (flat4_get B k _ hk).2.1
      have bk2 := g4' (k * 4 + 2) _ (flat4_get B k _ hk).2.2.1
      have bk3 := g4' (k * 4 + 3) _ (flat4_get B k _ hk).2.2.2
      rw [← Nat.add_assoc] at bk1 bk2 bk3
      clear g4'
      simp only [adr, add_none] at bX ak0 ak1 ak2 ak3 bk0 bk1 bk2 bk3 ⊢
      have xc := bX.cell
      have xl := bX.lt
      have hva := val_a (A := A) (B := B) (x := (s, some i, some k)) rfl hi
      have hvb := val_b (A := A) (B := B) (x := (s, some i, some k)) rfl hk
      have HVA := Lib.hid hva
      have HVB := Lib.hid hvb
      have HBX := Lib.hid bX
      clear hva hvb bX hi hk
      cases yg with
      | true =>
        gi_upto_region 16 with fail
        refine round_list (by kernel_rfl) (fun ⟨_, _, h⟩ => h) ?_
        refine wpList_named ?_
        intro wx hwx
        have HFx := Lib.hid (show Fr [] W wx from by rw [← hwx]; repeat' (first | (with_reducible exact Fr.refl _ _) | (with_reducible refine Fr.drew ?_) | (with_reducible refine Fr.drN ?_ _) | (with_reducible refine Fr.alloc ?_ _) | (with_reducible refine Fr.set ?_ ?_ _) | (left; simp; done) | (right; simp; done) | (right; simp; omega)))
        have HCx := Lib.hid (show Blk wx W.heap.size #[.string s, .int .u64 (y), .bool yr, .bool true] 34 from by rw [← hwx]; first | (exact Blk.new _ _ _) | (repeat' (first | ((with_reducible refine Blk.mk0 _ _ _ _ ?_); first | (simp; done) | (simp; omega)) | (with_reducible refine Blk.drew ?_) | (with_reducible refine Blk.drN ?_ _) | (with_reducible refine Blk.set ?_ _ _) | (with_reducible refine Blk.other ?_ ?_ _) | (with_reducible refine Blk.alloc ?_ _) | (simp; done) | (simp; omega))))
        clear hwx
        have hd5 : joinF s (valV A B (s, some i, some k)).2.1 (valV A B (s, some i, some k)).2.2 = some (y, yr, true) := by rw [HVA.out, HVB.out]; exact joinF_over s _ y yr true (.inr rfl)
        have HD5 := Lib.hid hd5
        clear hd5
        have cx := HCx.out.cell
        have cl := HCx.out.lt
        have vcx := (HFx.out.blk HV.out (by simp)).cell
        have vlx := (HFx.out.blk HV.out (by simp)).lt
        clear vc vf vl xc xl 
        go_wp2_with (at_builtin; (refine wpList_append_svo _ rfl (.tmp 92) (.tmp 94) 26 rfl 34 i0 (chV ByteArray.empty 0 false false) 4 32 Try.underlying26 hi0 hz0 hz1 hz2 rfl (by decide) W0.heap.size v _ _ rfl ((HSV.out.fr0 HFx.out).al _) ?_ ⟨wx.heap.size, 0, none⟩ 1 1 [.string s, .int .u64 (y), .bool yr, .bool true] rfl rfl (cells_of_blk (t := 34) ?_) ?_ ?_ ?_ ?_); (focus (have := HFx.out.size; simp; omega)); (focus (exact Blk.new _ _ _)); (focus (simp [Value.oneCell'])); (focus (unfold maxLen; omega)); (focus omega); intro v6 w6 hS6 hF6 hO6; have hb6 := hF6.blk ((HFx.out.blk HV.out (by simp)).alloc _) (by intro hm; simp at hm; have := (HSV.out.own hm).1; omega); have c6 := hb6.cell; have f6 := hb6.free; have l6 := hb6.lt; have HS6 := Lib.hid hS6; have HF6 := Lib.hid hF6; obtain ⟨a6, q6, e6⟩ := hS6.at_; subst e6; clear hS6 hF6 hO6 hb6 cx cl vcx vlx)
        gi_wp2
        have hst := OI.step (by decide) hBo HV.out HSV.out HN.out HF.out (HFx.out.alloc _) HS6.out HF6.out (by decide)
        refine ⟨hst.2.1, KB.of_fr hst.2.2 ?_, OI.cast hst.1 (by rw [outZ_some HD5.out]; simp) (by rw [outZ_some HD5.out, flat4_app]; rfl)⟩
        intro q hq
        rcases List.mem_cons.1 hq with rfl | hq
        · simp <;> omega
        · simp at hq
          have := (HSV.out.own hq).1
          simp
          omega
      | false =>
        cases yr with
        | true =>
          gi_upto_region 16 with fail
          refine round_list (by kernel_rfl) (fun ⟨_, _, h⟩ => h) ?_
          refine wpList_named ?_
          intro wx hwx
          have HFx := Lib.hid (show Fr [] W wx from by rw [← hwx]; repeat' (first | (with_reducible exact Fr.refl _ _) | (with_reducible refine Fr.drew ?_) | (with_reducible refine Fr.drN ?_ _) | (with_reducible refine Fr.alloc ?_ _) | (with_reducible refine Fr.set ?_ ?_ _) | (left; simp; done) | (right; simp; done) | (right; simp; omega)))
          have HCx := Lib.hid (show Blk wx W.heap.size #[.string s, .int .u64 (y), .bool true, .bool false] 34 from by rw [← hwx]; first | (exact Blk.new _ _ _) | (repeat' (first | ((with_reducible refine Blk.mk0 _ _ _ _ ?_); first | (simp; done) | (simp; omega)) | (with_reducible refine Blk.drew ?_) | (with_reducible refine Blk.drN ?_ _) | (with_reducible refine Blk.set ?_ _ _) | (with_reducible refine Blk.other ?_ ?_ _) | (with_reducible refine Blk.alloc ?_ _) | (simp; done) | (simp; omega))))
          clear hwx
          have hd5 : joinF s (valV A B (s, some i, some k)).2.1 (valV A B (s, some i, some k)).2.2 = some (y, true, false) := by rw [HVA.out, HVB.out]; exact joinF_over s _ y true false (.inl rfl)
          have HD5 := Lib.hid hd5
          clear hd5
          have cx := HCx.out.cell
          have cl := HCx.out.lt
          have vcx := (HFx.out.blk HV.out (by simp)).cell
          have vlx := (HFx.out.blk HV.out (by simp)).lt
          clear vc vf vl xc xl 
          go_wp2_with (at_builtin; (refine wpList_append_svo _ rfl (.tmp 92) (.tmp 94) 26 rfl 34 i0 (chV ByteArray.empty 0 false false) 4 32 Try.underlying26 hi0 hz0 hz1 hz2 rfl (by decide) W0.heap.size v _ _ rfl ((HSV.out.fr0 HFx.out).al _) ?_ ⟨wx.heap.size, 0, none⟩ 1 1 [.string s, .int .u64 (y), .bool true, .bool false] rfl rfl (cells_of_blk (t := 34) ?_) ?_ ?_ ?_ ?_); (focus (have := HFx.out.size; simp; omega)); (focus (exact Blk.new _ _ _)); (focus (simp [Value.oneCell'])); (focus (unfold maxLen; omega)); (focus omega); intro v6 w6 hS6 hF6 hO6; have hb6 := hF6.blk ((HFx.out.blk HV.out (by simp)).alloc _) (by intro hm; simp at hm; have := (HSV.out.own hm).1; omega); have c6 := hb6.cell; have f6 := hb6.free; have l6 := hb6.lt; have HS6 := Lib.hid hS6; have HF6 := Lib.hid hF6; obtain ⟨a6, q6, e6⟩ := hS6.at_; subst e6; clear hS6 hF6 hO6 hb6 cx cl vcx vlx)
          gi_wp2
          have hst := OI.step (by decide) hBo HV.out HSV.out HN.out HF.out (HFx.out.alloc _) HS6.out HF6.out (by decide)
          refine ⟨hst.2.1, KB.of_fr hst.2.2 ?_, OI.cast hst.1 (by rw [outZ_some HD5.out]; simp) (by rw [outZ_some HD5.out, flat4_app]; rfl)⟩
          intro q hq
          rcases List.mem_cons.1 hq with rfl | hq
          · simp <;> omega
          · simp at hq
            have := (HSV.out.own hq).1
            simp
            omega
        | false =>
          cases xg with
          | true =>
            gi_upto_region 16 with fail
            refine round_list (by kernel_rfl) (fun ⟨_, _, h⟩ => h) ?_
            refine wpList_named ?_
            intro wx hwx
            have HFx := Lib.hid (show Fr [] W wx from by rw [← hwx]; repeat' (first | (with_reducible exact Fr.refl _ _) | (with_reducible refine Fr.drew ?_) | (with_reducible refine Fr.drN ?_ _) | (with_reducible refine Fr.alloc ?_ _) | (with_reducible refine Fr.set ?_ ?_ _) | (left; simp; done) | (right; simp; done) | (right; simp; omega)))
            have HCx := Lib.hid (show Blk wx W.heap.size #[.string s, .int .u64 (y), .bool true, .bool false] 34 from by rw [← hwx]; first | (exact Blk.new _ _ _) | (repeat' (first | ((with_reducible refine Blk.mk0 _ _ _ _ ?_); first | (simp; done) | (simp; omega)) | (with_reducible refine Blk.drew ?_) | (with_reducible refine Blk.drN ?_ _) | (with_reducible refine Blk.set ?_ _ _) | (with_reducible refine Blk.other ?_ ?_ _) | (with_reducible refine Blk.alloc ?_ _) | (simp; done) | (simp; omega))))
            clear hwx
            have hd5 : joinF s (valV A B (s, some i, some k)).2.1 (valV A B (s, some i, some k)).2.2 = some (y, true, false) := by rw [HVA.out, HVB.out]; exact joinF_gone s x y xr
            have HD5 := Lib.hid hd5
            clear hd5
            have cx := HCx.out.cell
            have cl := HCx.out.lt
            have vcx := (HFx.out.blk HV.out (by simp)).cell
            have vlx := (HFx.out.blk HV.out (by simp)).lt
            clear vc vf vl xc xl 
            go_wp2_with (at_builtin; (refine wpList_append_svo _ rfl (.tmp 92) (.tmp 94) 26 rfl 34 i0 (chV ByteArray.empty 0 false false) 4 32 Try.underlying26 hi0 hz0 hz1 hz2 rfl (by decide) W0.heap.size v _ _ rfl ((HSV.out.fr0 HFx.out).al _) ?_ ⟨wx.heap.size, 0, none⟩ 1 1 [.string s, .int .u64 (y), .bool true, .bool false] rfl rfl (cells_of_blk (t := 34) ?_) ?_ ?_ ?_ ?_); (focus (have := HFx.out.size; simp; omega)); (focus (exact Blk.new _ _ _)); (focus (simp [Value.oneCell'])); (focus (unfold maxLen; omega)); (focus omega); intro v6 w6 hS6 hF6 hO6; have hb6 := hF6.blk ((HFx.out.blk HV.out (by simp)).alloc _) (by intro hm; simp at hm; have := (HSV.out.own hm).1; omega); have c6 := hb6.cell; have f6 := hb6.free; have l6 := hb6.lt; have HS6 := Lib.hid hS6; have HF6 := Lib.hid hF6; obtain ⟨a6, q6, e6⟩ := hS6.at_; subst e6; clear hS6 hF6 hO6 hb6 cx cl vcx vlx)
            gi_wp2
            have hst := OI.step (by decide) hBo HV.out HSV.out HN.out HF.out (HFx.out.alloc _) HS6.out HF6.out (by decide)
            refine ⟨hst.2.1, KB.of_fr hst.2.2 ?_, OI.cast hst.1 (by rw [outZ_some HD5.out]; simp) (by rw [outZ_some HD5.out, flat4_app]; rfl)⟩
            intro q hq
            rcases List.mem_cons.1 hq with rfl | hq
            · simp <;> omega
            · simp at hq
              have := (HSV.out.own hq).1
              simp
              omega
          | false =>
            obtain ⟨z, hz5⟩ : ∃ z, IntKind.u64.wrap (x + y) = z := ⟨_, rfl⟩
            have hj : joinF s (some (x, xr, false)) (some (y, false, false)) = if z = 0 ∧ xr = false then none else some (z, xr, false) := by
              simp [joinF, hz5]
            have HJ := Lib.hid hj
            clear hj
            have HA1 := Lib.hid ak1
            have HA2 := Lib.hid ak2
            have HB1 := Lib.hid bk1
            gi_upto_region 8 with fail
            refine wpIn_named ?_
            intro wq hwq
            have HFq := Lib.hid (show Fr [] W wq from by rw [← hwq]; repeat' (first | (with_reducible exact Fr.refl _ _) | (with_reducible refine Fr.drew ?_) | (with_reducible refine Fr.drN ?_ _) | (with_reducible refine Fr.alloc ?_ _) | (with_reducible refine Fr.set ?_ ?_ _) | (left; simp; done) | (right; simp; done) | (right; simp; omega)))
            have HCq := Lib.hid (show Blk wq W.heap.size #[.string ByteArray.empty, .int .u64 0, .bool false, .bool false] 34 from by rw [← hwq]; exact Blk.new _ _ _)
            clear hwq xc xl
            have aq1 := HFq.out.cl HA1.out
            have aq2 := HFq.out.cl HA2.out
            have bq1 := HFq.out.cl HB1.out
            have xq := (HFq.out.blk HBX.out (by simp)).cell
            have xlq := (HFq.out.blk HBX.out (by simp)).lt
            have cq := HCq.out.cell
            have cfq := HCq.out.free
            have clq := HCq.out.lt
            clear ak0 ak1 ak2 ak3 bk0 bk1 bk2 bk3
            refine round_tail 18 (by kernel_rfl) (by kernel_rfl) (fun ⟨_, _, h⟩ => h) (by kernel_rfl) ?_
            simp only [List.take_succ_cons, List.take_zero, List.drop_succ_cons, List.drop_zero]
            repeat still_step
            try refine wpStill_nil ?_
            by_cases h0 : z = 0
            · subst h0
              cases xr with
              | true =>
                go_wp2
                clear hz5
                gi_upto_region 16 with fail
                refine round_list (by kernel_rfl) (fun ⟨_, _, h⟩ => h) ?_
                refine wpList_named ?_
                intro wx hwx
                have HFx := Lib.hid (show Fr [] W wx from by rw [← hwx]; repeat' (first | (with_reducible exact HFq.out) | (with_reducible refine Fr.drew ?_) | (with_reducible refine Fr.drN ?_ _) | (with_reducible refine Fr.alloc ?_ _) | (with_reducible refine Fr.set ?_ ?_ _) | (left; simp; done) | (right; simp; done) | (right; simp; omega)))
                have HCx := Lib.hid (show Blk wx W.heap.size #[.string s, .int .u64 (0), .bool true, .bool false] 34 from by rw [← hwx]; exact Blk.cast (cs := ((((#[.string ByteArray.empty, .int .u64 0, .bool false, .bool false] : Array Value).setIfInBounds 0 (.string s)).setIfInBounds 1 (.int .u64 (0))).setIfInBounds 2 (.bool true)).setIfInBounds 3 (.bool false)) (by repeat' (first | (with_reducible exact HCq.out) | (with_reducible refine Blk.drew ?_) | (with_reducible refine Blk.drN ?_ _) | (with_reducible refine Blk.set ?_ _ _) | (with_reducible refine Blk.other ?_ ?_ _) | (with_reducible refine Blk.alloc ?_ _) | (simp; done) | (simp; omega))) (by simp))
                clear hwx
                have hd5 : joinF s (valV A B (s, some i, some k)).2.1 (valV A B (s, some i, some k)).2.2 = some (0, true, false) := by rw [HVA.out, HVB.out, HJ.out]; simp
                have HD5 := Lib.hid hd5
                clear hd5
                have cx := HCx.out.cell
                have cl := HCx.out.lt
                have vcx := (HFx.out.blk HV.out (by simp)).cell
                have vlx := (HFx.out.blk HV.out (by simp)).lt
                clear vc vf vl  
                go_wp2_with (at_builtin; (refine wpList_append_svo _ rfl (.tmp 92) (.tmp 94) 26 rfl 34 i0 (chV ByteArray.empty 0 false false) 4 32 Try.underlying26 hi0 hz0 hz1 hz2 rfl (by decide) W0.heap.size v _ _ rfl ((HSV.out.fr0 HFx.out).al _) ?_ ⟨wx.heap.size, 0, none⟩ 1 1 [.string s, .int .u64 (0), .bool true, .bool false] rfl rfl (cells_of_blk (t := 34) ?_) ?_ ?_ ?_ ?_); (focus (have := HFx.out.size; simp; omega)); (focus (exact Blk.new _ _ _)); (focus (simp [Value.oneCell'])); (focus (unfold maxLen; omega)); (focus omega); intro v6 w6 hS6 hF6 hO6; have hb6 := hF6.blk ((HFx.out.blk HV.out (by simp)).alloc _) (by intro hm; simp at hm; have := (HSV.out.own hm).1; omega); have c6 := hb6.cell; have f6 := hb6.free; have l6 := hb6.lt; have HS6 := Lib.hid hS6; have HF6 := Lib.hid hF6; obtain ⟨a6, q6, e6⟩ := hS6.at_; subst e6; clear hS6 hF6 hO6 hb6 cx cl vcx vlx)
                gi_wp2
                have hst := OI.step (by decide) hBo HV.out HSV.out HN.out HF.out (HFx.out.alloc _) HS6.out HF6.out (by decide)
                refine ⟨hst.2.1, KB.of_fr hst.2.2 ?_, OI.cast hst.1 (by rw [outZ_some HD5.out]; simp) (by rw [outZ_some HD5.out, flat4_app]; rfl)⟩
                intro q hq
                rcases List.mem_cons.1 hq with rfl | hq
                · simp <;> omega
                · simp at hq
                  have := (HSV.out.own hq).1
                  simp
                  omega
              | false =>
                go_wp2
                clear hz5
                gi_wp2
                refine ownPost_named ?_
                intro wy hwy
                have HFy := Lib.hid (show Fr [] W wy from by rw [← hwy]; repeat' (first | (with_reducible exact HFq.out) | (with_reducible refine Fr.drew ?_) | (with_reducible refine Fr.drN ?_ _) | (with_reducible refine Fr.alloc ?_ _) | (with_reducible refine Fr.set ?_ ?_ _) | (left; simp; done) | (right; simp; done) | (right; simp; omega)))
                clear hwy
                refine ⟨KeepsFrom.of_fr HFy.out (by simp), KB.of_fr HFy.out (by simp), ?_⟩
                have hd5 : joinF s (valV A B (s, some i, some k)).2.1 (valV A B (s, some i, some k)).2.2 = none := by rw [HVA.out, HVB.out, HJ.out]; simp
                exact OI.cast ⟨⟨v, HFy.out.blk HV.out (by simp), HSV.out.fr0 HFy.out, HN.out⟩, HF.out.trans (HFy.out.mono (by simp))⟩ (by rw [outZ_none hd5]) (by rw [outZ_none hd5])
            · have h0b : (z == 0) = false := by simpa using h0
              go_wp2
              clear hz5
              gi_upto_region 16 with fail
              refine round_list (by kernel_rfl) (fun ⟨_, _, h⟩ => h) ?_
              refine wpList_named ?_
              intro wx hwx
              have HFx := Lib.hid (show Fr [] W wx from by rw [← hwx]; repeat' (first | (with_reducible exact HFq.out) | (with_reducible refine Fr.drew ?_) | (with_reducible refine Fr.drN ?_ _) | (with_reducible refine Fr.alloc ?_ _) | (with_reducible refine Fr.set ?_ ?_ _) | (left; simp; done) | (right; simp; done) | (right; simp; omega)))
              have HCx := Lib.hid (show Blk wx W.heap.size #[.string s, .int .u64 (z), .bool xr, .bool false] 34 from by rw [← hwx]; exact Blk.cast (cs := ((((#[.string ByteArray.empty, .int .u64 0, .bool false, .bool false] : Array Value).setIfInBounds 0 (.string s)).setIfInBounds 1 (.int .u64 (z))).setIfInBounds 2 (.bool xr)).setIfInBounds 3 (.bool false)) (by repeat' (first | (with_reducible exact HCq.out) | (with_reducible refine Blk.drew ?_) | (with_reducible refine Blk.drN ?_ _) | (with_reducible refine Blk.set ?_ _ _) | (with_reducible refine Blk.other ?_ ?_ _) | (with_reducible refine Blk.alloc ?_ _) | (simp; done) | (simp; omega))) (by simp))
              clear hwx
              have hd5 : joinF s (valV A B (s, some i, some k)).2.1 (valV A B (s, some i, some k)).2.2 = some (z, xr, false) := by rw [HVA.out, HVB.out, HJ.out, if_neg (fun h => h0 h.1)]
              have HD5 := Lib.hid hd5
              clear hd5
              have cx := HCx.out.cell
              have cl := HCx.out.lt
              have vcx := (HFx.out.blk HV.out (by simp)).cell
              have vlx := (HFx.out.blk HV.out (by simp)).lt
              clear vc vf vl  h0b
              go_wp2_with (at_builtin; (refine wpList_append_svo _ rfl (.tmp 92) (.tmp 94) 26 rfl 34 i0 (chV ByteArray.empty 0 false false) 4 32 Try.underlying26 hi0 hz0 hz1 hz2 rfl (by decide) W0.heap.size v _ _ rfl ((HSV.out.fr0 HFx.out).al _) ?_ ⟨wx.heap.size, 0, none⟩ 1 1 [.string s, .int .u64 (z), .bool xr, .bool false] rfl rfl (cells_of_blk (t := 34) ?_) ?_ ?_ ?_ ?_); (focus (have := HFx.out.size; simp; omega)); (focus (exact Blk.new _ _ _)); (focus (simp [Value.oneCell'])); (focus (unfold maxLen; omega)); (focus omega); intro v6 w6 hS6 hF6 hO6; have hb6 := hF6.blk ((HFx.out.blk HV.out (by simp)).alloc _) (by intro hm; simp at hm; have := (HSV.out.own hm).1; omega); have c6 := hb6.cell; have f6 := hb6.free; have l6 := hb6.lt; have HS6 := Lib.hid hS6; have HF6 := Lib.hid hF6; obtain ⟨a6, q6, e6⟩ := hS6.at_; subst e6; clear hS6 hF6 hO6 hb6 cx cl vcx vlx)
              gi_wp2
              have hst := OI.step (by decide) hBo HV.out HSV.out HN.out HF.out (HFx.out.alloc _) HS6.out HF6.out (by decide)
              refine ⟨hst.2.1, KB.of_fr hst.2.2 ?_, OI.cast hst.1 (by rw [outZ_some HD5.out]; simp) (by rw [outZ_some HD5.out, flat4_app]; rfl)⟩
              intro q hq
              rcases List.mem_cons.1 hq with rfl | hq
              · simp <;> omega
              · simp at hq
                have := (HSV.out.own hq).1
                simp
                omega
  case done =>
    rintro D ys W hD hys hI hK
    obtain ⟨⟨v, hv, hsv, hnil⟩, hf⟩ := hI
    rw [outZ_all joinF hys] at hsv hnil
    obtain ⟨va, vq, ev⟩ := hsv.at_
    subst ev
    have hnil5 := hnil
    have HSV := Lib.hid hsv
    have HF := Lib.hid hf
    have HV := Lib.hid hv
    have vc := hv.cell
    have vl := hv.lt
    have hml := made_len joinF A B
    have HKD := Lib.hid hK
    have hDs : w.heap.size ≤ D := by omega
    have hFw : Fr [] w W := ((HF0.out.mono (T := [w2.heap.size]) (by simp)).trans HF.out).weaken (by intro k hk; simp at hk; subst hk; right; omega)
    have HFD := Lib.hid (show Fr [] w (W.putObj D (.deferred none)) from ((hFw.mono (T := [D]) (by simp)).trans (Fr.of_grownBy (grownBy_putObj' W D (.deferred none)))).weaken (by intro k hk; simp at hk; subst hk; right; omega))
    have HSD := Lib.hid (SV.own_ HSV.out hnil5 (by decide) (grownBy_putObj' W D (.deferred none)) (fun r e => by cases e; exact ⟨_, HKD.out, rfl⟩))
    clear hFw hv hsv hnil hnil5 hf hK RA RB b1 b2 b3 b4 bo hnA hnB hys
    by_cases hm : (made joinF A B).length ≤ 4096
    · have hmi : ¬ 4096 < ((made joinF A B).length : Int) := by omega
      have e : cutE (made joinF A B) = (made joinF A B, 0) := by unfold cutE; rw [if_pos hm]
      rw [e]
      go_wp2
      refine ⟨by simp, .inl ⟨_, _, rfl, run_takeDeferred HKD.out, ?_⟩⟩
      refine ⟨.tuple #[.slice va (made joinF A B).length vq, .int .i64 0], by simp [results, Try.results38, go_sem], ?_⟩
      try rw [e]
      exact EPost.mk (HSD.out.base_le (by omega)) HFD.out
    · have hmi : 4096 < ((made joinF A B).length : Int) := by omega
      have e : cutE (made joinF A B) = ([], 3) := by unfold cutE; rw [if_neg hm]
      rw [e]
      go_wp2
      refine ⟨by simp, .inl ⟨_, _, rfl, run_takeDeferred HKD.out, ?_⟩⟩
      refine ⟨.tuple #[.slice none 0 0, .int .i64 3], by simp [results, Try.results38, go_sem], ?_⟩
      try rw [e]
      exact EPost.mk (SV.nil _ _ _) HFD.out
  case stop =>
    rintro D c pre W _ _ h _
    exact h.elim
theorem join_any (va vb : Value) (A B : List Ch) (w : World) (hA : RH w va A) (hB : RH w vb B) (mA : A.length ≤ 9223372036854775806) (mB : B.length ≤ 9223372036854775806) :
    Calls Try.prog 38 #[va, vb] w (EPost 4 (joinE A B).1.length (flat4 (joinE A B).1) (joinE A B).2 w) := by
  by_cases h : rightH A = true ∧ rightH B = true
  · have e : joinE A B = cutE (made joinF A B) := by unfold joinE; rw [if_pos h]
    rw [e]
    exact join_yes va vb A B w hA hB (rightH_iff.1 h.1).2.2.2 (rightH_iff.1 h.2).2.2.2 h.1 h.2
  · exact join_no va vb A B w hA hB mA mB h
end Go.Proofs.Ytmilnhicmeblhaa
