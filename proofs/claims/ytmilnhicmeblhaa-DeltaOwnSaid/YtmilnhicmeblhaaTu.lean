/- The package delta: Apply and Add: turned. -/
import Derived.Test.YtmilnhicmeblhaaDi
namespace Go.Proofs.Ytmilnhicmeblhaa
open Go.RowKit Go.Shelf Go.Sort
set_option maxRecDepth 100000
set_option linter.unusedVariables false
set_option linter.unusedSimpArgs false
set_option maxHeartbeats 4000000
attribute [local go_sem] Oper.semAt_some
/-- No key so far was gone that was not there. -/
def GoodTo (adds : Bool) (A : List Ct) (B : List Ch) (pre : List (ItZ A B)) : Prop := adds = false → ∀ z ∈ pre, badZ (valV A B z.1) = false
def BadNow (adds : Bool) (A : List Ct) (B : List Ch) : Prop := adds = false ∧ (zipR A B).any badZ = true
theorem GoodTo.step {A : List Ct} {B : List Ch} {adds : Bool} {pre : List (ItZ A B)} {x : ItZ A B} (h : GoodTo adds A B pre) (hx : adds = false → badZ (valV A B x.1) = false) : GoodTo adds A B (pre ++ [x]) := by
  intro ha z hz
  rcases List.mem_append.1 hz with hz | hz
  · exact h ha z hz
  · simp at hz
    subst hz
    exact hx ha
/-- How a round that has found one leaves. -/
structure TY (adds : Bool) (A : List Ct) (B : List Ch) (c : Code) : Prop where
  c : c = .ret
  bad : BadNow adds A B
theorem bad_a {z : ByteArray × Option Int × Option Cv} {a : Int} (h : z.2.1 = some a) : badZ z = false := by simp [badZ, h]
theorem bad_b {z : ByteArray × Option Int × Option Cv} {n : Int} {r g : Bool} (h1 : z.2.1 = none) (h2 : z.2.2 = some (n, r, g)) : badZ z = g := by simp [badZ, h1, h2]
theorem bad_all {A : List Ct} {B : List Ch} {adds : Bool} {ys : List (ItZ A B)} (h : GoodTo adds A B ys) (hys : ys.map (·.1) = zipP (A.map (·.1)) (B.map (·.1)) 0 0) : ¬ (adds = false ∧ (zipR A B).any badZ = true) := by
  rintro ⟨ha, hb⟩
  obtain ⟨z, hz, hbz⟩ := List.any_eq_true.1 hb
  rw [← zipP_val, ← hys] at hz
  obtain ⟨it, hit, rfl⟩ := List.mem_map.1 hz
  obtain ⟨y, hy, rfl⟩ := List.mem_map.1 hit
  rw [h ha y hy] at hbz
  cases hbz
/-- The body has returned: the results' cells. -/
structure TX (W0 : World) (Bo R6 R7 : Nat) (W : World) : Prop where
  fr : Fr [Bo, R6, R7] W0 W
  c6 : Blk W R6 #[.slice none 0 0] 24
  c7 : Blk W R7 #[.int .i64 240] 27
theorem TX.own {β : Type} (W0 : World) (Bo R6 R7 : Nat) : OwnFrom W0.heap.size (fun (_ : β) W => TX W0 Bo R6 R7 W) := by
  intro s W W' row h hg hr
  have hr2 : ∀ r, row = some r → ∃ o : Obj, W.heap[r]? = some o ∧ o.isCells = false := fun r e => (hr r e).2
  refine ⟨?_, h.c6.own_ hg hr2, h.c7.own_ hg hr2⟩
  refine ((h.fr.mono (T := [Bo, R6, R7] ++ row.toList) (fun k hk => List.mem_append_left _ hk)).trans ((Fr.of_grownBy hg).mono (fun k hk => List.mem_append_right _ hk))).weaken ?_
  intro k hk
  rcases List.mem_append.1 hk with hk | hk
  · exact .inl hk
  · cases row with
    | none => simp at hk
    | some r => simp at hk; subst hk; exact .inr (hr _ rfl).1
theorem bodyM_named {F : Fence} {n : Nat} {P : Program} {fn : Func} {R : Ending → World → Prop} {e : Exit} {a : Act} {w : World} (h : ∀ wx, w = wx → bodyPostM F n P fn R e a wx) : bodyPostM F n P fn R e a w := h w rfl
theorem turn_no (va vb : Value) (A : List Ct) (B : List Ch) (adds : Bool) (w : World) (hA : RC w va A) (hB : RH w vb B) (mA : A.length ≤ 9223372036854775806) (mB : B.length ≤ 9223372036854775806) (h : ¬ (rightC A = true ∧ rightH B = true)) :
    Calls Try.prog 47 #[va, vb, .bool adds] w (EPost 2 (turnE adds A B).1.length (flat2 (turnE adds A B).1) (turnE adds A B).2 w) := by
  have e : turnE adds A B = ([], 240) := by unfold turnE; rw [if_neg h]
  rw [e]
  obtain ⟨aa, ac, ea⟩ := hA.at_
  obtain ⟨ba, bc, eb⟩ := hB.at_
  subst ea eb
  have HA := Lib.hid hA
  have HB := Lib.hid hB
  clear hA hB
  clear e
  have G0 := Lib.hid ((((Fr.refl [] w).alloc (.cells #[.bool adds] 4)).alloc (.cells #[.slice none 0 0] 24)).alloc (.cells #[.int .i64 0] 27))
  have g6 : Blk (((w.alloc (.cells #[.bool adds] 4)).alloc (.cells #[.slice none 0 0] 24)).alloc (.cells #[.int .i64 0] 27)) (w.heap.size + 1) #[.slice none 0 0] 24 := (Blk.mk0 _ _ _ _ (by simp)).alloc _
  have g7 : Blk (((w.alloc (.cells #[.bool adds] 4)).alloc (.cells #[.slice none 0 0] 24)).alloc (.cells #[.int .i64 0] 27)) (w.heap.size + 1 + 1) #[.int .i64 0] 27 := Blk.mk0 _ _ _ _ (by simp)
  have g5 : Blk (((w.alloc (.cells #[.bool adds] 4)).alloc (.cells #[.slice none 0 0] 24)).alloc (.cells #[.int .i64 0] 27)) w.heap.size #[.bool adds] 4 := ((Blk.new _ _ _).alloc _).alloc _
  have K5 := Lib.hid g5
  have K6 := Lib.hid g6
  have K7 := Lib.hid g7
  clear g5 g6 g7
  cases hra : rightC A with
  | false =>
    refine (callsIn_wide (n := 4)).1 (callsIn_of_wp_marks Try.func47 rfl trivial ?_ rfl)
    simp only [Try.ntmps47, List.size_toArray, List.length_cons, List.length_nil, Nat.reduceAdd, Nat.reduceSub, Array.replicate_succ, Array.replicate_zero, List.push_toArray, List.append_toArray, List.nil_append, List.cons_append]
    refine (wpIn_wide (n := 4)).2 ?_
    go_wp2_with (first | ((go_at_call 14); (with_reducible refine (right_any _ A _ (HA.out.fr0 G0.out) (by omega)).mono ?_); rw [hra]; rintro e w1 ⟨rfl, hF1⟩; have b6 := (hF1.blk K6.out (by simp)); have b7 := (hF1.blk K7.out (by simp)); have q6c := b6.cell; have q6f := b6.free; have q6l := b6.lt; have q7c := b7.cell; have q7f := b7.free; have q7l := b7.lt))

    refine ⟨.tuple #[.slice none 0 0, .int .i64 240], by simp [results, Try.results47, go_sem, q6c, q7c, *], ?_⟩
    exact EPost.mk (SV.nil _ _ _) (by repeat' (first | (with_reducible exact G0.out.trans hF1) | (with_reducible refine Fr.drew ?_) | (with_reducible refine Fr.drN ?_ _) | (with_reducible refine Fr.alloc ?_ _) | (with_reducible refine Fr.set ?_ ?_ _) | (left; simp; done) | (right; simp; done) | (right; simp; omega)))
  | true =>
    have hrb : rightH B = false := by
      cases hb : rightH B with
      | false => rfl
      | true => exact absurd ⟨hra, hb⟩ h
    clear h
    refine (callsIn_wide (n := 4)).1 (callsIn_of_wp_marks Try.func47 rfl trivial ?_ rfl)
    simp only [Try.ntmps47, List.size_toArray, List.length_cons, List.length_nil, Nat.reduceAdd, Nat.reduceSub, Array.replicate_succ, Array.replicate_zero, List.push_toArray, List.append_toArray, List.nil_append, List.cons_append]
    refine (wpIn_wide (n := 4)).2 ?_
    go_wp2_with (first | ((go_at_call 14); (with_reducible refine (right_any _ A _ (HA.out.fr0 G0.out) (by omega)).mono ?_); rw [hra]; rintro e w1 ⟨rfl, hF1⟩) | ((go_at_call 18); (with_reducible refine (rightH_any _ B _ ((HB.out.fr0 G0.out).fr0 hF1) (by omega)).mono ?_); rw [hrb]; rintro e w2 ⟨rfl, hF2⟩; have b6 := ((hF1.trans hF2).blk K6.out (by simp)); have b7 := ((hF1.trans hF2).blk K7.out (by simp)); have q6c := b6.cell; have q6f := b6.free; have q6l := b6.lt; have q7c := b7.cell; have q7f := b7.free; have q7l := b7.lt))

    refine ⟨.tuple #[.slice none 0 0, .int .i64 240], by simp [results, Try.results47, go_sem, q6c, q7c, *], ?_⟩
    exact EPost.mk (SV.nil _ _ _) (by repeat' (first | (with_reducible exact (G0.out.trans hF1).trans hF2) | (with_reducible refine Fr.drew ?_) | (with_reducible refine Fr.drN ?_ _) | (with_reducible refine Fr.alloc ?_ _) | (with_reducible refine Fr.set ?_ ?_ _) | (left; simp; done) | (right; simp; done) | (right; simp; omega)))
theorem turn_yes (va vb : Value) (A : List Ct) (B : List Ch) (adds : Bool) (w : World) (hA : RC w va A) (hB : RH w vb B) (mA : A.length ≤ 4096) (mB : B.length ≤ 4096) (hra : rightC A = true) (hrb : rightH B = true) (wb : WH B) :
    Calls Try.prog 47 #[va, vb, .bool adds] w (EPost 2 (if adds = false ∧ (zipR A B).any badZ = true then (([] : List Ct), (240 : Int)) else cutE (made (turnF adds) A B)).1.length (flat2 (if adds = false ∧ (zipR A B).any badZ = true then (([] : List Ct), (240 : Int)) else cutE (made (turnF adds) A B)).1) (if adds = false ∧ (zipR A B).any badZ = true then (([] : List Ct), (240 : Int)) else cutE (made (turnF adds) A B)).2 w) := by
  generalize hRR : (if adds = false ∧ (zipR A B).any badZ = true then (([] : List Ct), (240 : Int)) else cutE (made (turnF adds) A B)) = RR
  have HRR := Lib.hid hRR
  clear hRR
  obtain ⟨aa, ac, ea⟩ := hA.at_
  obtain ⟨ba, bc, eb⟩ := hB.at_
  subst ea eb
  have HA := Lib.hid hA
  have HB := Lib.hid hB
  clear hA hB
  obtain ⟨i0, hi0, hz0, hz1, hz2⟩ := info_parts infoC
  have G0 := Lib.hid ((((Fr.refl [] w).alloc (.cells #[.bool adds] 4)).alloc (.cells #[.slice none 0 0] 24)).alloc (.cells #[.int .i64 0] 27))
  have g6 : Blk (((w.alloc (.cells #[.bool adds] 4)).alloc (.cells #[.slice none 0 0] 24)).alloc (.cells #[.int .i64 0] 27)) (w.heap.size + 1) #[.slice none 0 0] 24 := (Blk.mk0 _ _ _ _ (by simp)).alloc _
  have g7 : Blk (((w.alloc (.cells #[.bool adds] 4)).alloc (.cells #[.slice none 0 0] 24)).alloc (.cells #[.int .i64 0] 27)) (w.heap.size + 1 + 1) #[.int .i64 0] 27 := Blk.mk0 _ _ _ _ (by simp)
  have g5 : Blk (((w.alloc (.cells #[.bool adds] 4)).alloc (.cells #[.slice none 0 0] 24)).alloc (.cells #[.int .i64 0] 27)) w.heap.size #[.bool adds] 4 := ((Blk.new _ _ _).alloc _).alloc _
  have K5 := Lib.hid g5
  have K6 := Lib.hid g6
  have K7 := Lib.hid g7
  clear g5 g6 g7
  refine (callsIn_wide (n := 4)).1 (callsIn_of_wp_marks Try.func47 rfl trivial ?_ rfl)
  simp only [Try.ntmps47, List.size_toArray, List.length_cons, List.length_nil, Nat.reduceAdd, Nat.reduceSub, Array.replicate_succ, Array.replicate_zero, List.push_toArray, List.append_toArray, List.nil_append, List.cons_append]
  refine (wpIn_wide (n := 4)).2 ?_
  go_wp2_with (first | ((go_at_call 14); (with_reducible refine (right_any _ A _ (HA.out.fr0 G0.out) (by omega)).mono ?_); rw [hra]; rintro e w1 ⟨rfl, hF1⟩) | ((go_at_call 18); (with_reducible refine (rightH_any _ B _ ((HB.out.fr0 G0.out).fr0 hF1) (by omega)).mono ?_); rw [hrb]; rintro e w2 ⟨rfl, hF2⟩) | ((go_at_call 67); (with_reducible refine (pairsCH_any _ _ _ _ _ _ _).mono ?_); rintro e w3 ⟨rfl, hw3⟩))
  clear hw3 w3
  generalize hW0 : ((((w2.alloc (.cells #[.slice none 0 0] 24)).alloc (.cells #[.slice aa A.length ac] 24)).alloc (.cells #[.slice ba B.length bc] 26)).alloc (.cells #[.func (.func 45) #[] #[]] 91)).alloc (.cells #[.func (.func 59) #[] #[]] 119) = W0
  have hz : w2.heap.size + 5 ≤ W0.heap.size := by rw [← hW0]; simp
  have bo : Blk W0 w2.heap.size #[.slice none 0 0] 24 := by rw [← hW0]; exact ((((Blk.new _ _ _).alloc _).alloc _).alloc _).alloc _
  have b1 : Blk W0 (w2.heap.size + 1) #[.slice aa A.length ac] 24 := by rw [← hW0]; exact (((Blk.mk0 _ _ _ _ (by simp)).alloc _).alloc _).alloc _
  have b2 : Blk W0 (w2.heap.size + 1 + 1) #[.slice ba B.length bc] 26 := by rw [← hW0]; exact ((Blk.mk0 _ _ _ _ (by simp)).alloc _).alloc _
  have b3 : Blk W0 (w2.heap.size + 1 + 2) #[.func (.func 45) #[] #[]] 91 := by rw [← hW0]; exact (Blk.mk0 _ _ _ _ (by simp)).alloc _
  have b4 : Blk W0 (w2.heap.size + 1 + 3) #[.func (.func 59) #[] #[]] 119 := by rw [← hW0]; exact Blk.mk0 _ _ _ _ (by simp)
  have F2 : Fr [] w2 W0 := by rw [← hW0]; exact (((((Fr.refl _ _).alloc _).alloc _).alloc _).alloc _).alloc _
  have F02 : Fr [] w w2 := (G0.out.trans hF1).trans hF2
  have F0 : Fr [] w W0 := F02.trans F2
  have hws : w.heap.size ≤ w2.heap.size := F02.size
  have hnA : 0 < A.length → ∀ g, (Value.slice aa A.length ac).ownBlock = some g → g < w2.heap.size := fun h g hg => Nat.lt_of_lt_of_le (HA.out.own h hg) hws
  have hnB : 0 < B.length → ∀ g, (Value.slice ba B.length bc).ownBlock = some g → g < w2.heap.size := fun h g hg => Nat.lt_of_lt_of_le (HB.out.own h hg) hws
  have RA := Lib.hid (HA.out.fr0 F0)
  have RB := Lib.hid (HB.out.fr0 F0)
  have HF0 := Lib.hid F0
  have FG := (hF1.trans hF2).trans F2
  have hws3 : w.heap.size + 3 ≤ w2.heap.size := by have := (hF1.trans hF2).size; simp at this; omega
  replace K5 := Lib.hid (FG.blk K5.out (by simp))
  replace K6 := Lib.hid (FG.blk K6.out (by simp))
  replace K7 := Lib.hid (FG.blk K7.out (by simp))
  clear hW0 HA HB hF1 hF2 F0 F2 F02 FG G0
  refine (wpIn_wide (n := 4)).1 ?_
  refine wpIn_rangeFunc_ownH rfl (by decide) (gf := 73) (lb := #[.pointer (some ⟨w2.heap.size + 1, 0, none⟩), .pointer (some ⟨w2.heap.size + 1 + 1, 0, none⟩), .pointer (some ⟨w2.heap.size + 1 + 2, 0, none⟩), .pointer (some ⟨w2.heap.size + 1 + 3, 0, none⟩)]) rfl trivial
    (enters_of Try.func73 (by kernel_rfl) rfl)
    (pairsCH_stops 3 (w2.heap.size + 1) (w2.heap.size + 1 + 1) (w2.heap.size + 1 + 2) (w2.heap.size + 1 + 3) w2.heap.size A B _ _ W0 (by omega) RA.out RB.out b1 b2 b3 b4 hnA hnB) KB.trans (KB.put (by omega) (by simp; omega)) (Below.refl _ _) (fun _ => rfl)
    (fun (pre : List (ItZ A B)) W => OI W0 w2.heap.size 24 2 (outZ (turnF adds) pre).length (flat2 (outZ (turnF adds) pre)) W ∧ GoodTo adds A B pre) (fun c _ W => TY adds A B c ∧ TX W0 w2.heap.size (w.heap.size + 1) (w.heap.size + 1 + 1) W) (OwnFrom.and (OI.own (size := 2) (by decide) _ _) (ownFrom_pure _ _)) (fun c => OwnFrom.and (ownFrom_pure _ _) (TX.own _ _ _ _))
    ⟨⟨⟨_, bo, SV.nil _ _ _, .inl rfl⟩, Fr.refl _ _⟩, fun _ z hz => by cases hz⟩
    (fun (x : ItZ A B) a' W => ∃ Bx, W0.heap.size ≤ Bx ∧ Blk W Bx #[adr (.slice aa A.length ac) 2 x.1.2.1, adr (.slice ba B.length bc) 4 x.1.2.2] 134 ∧ a' = { tmps := #[.slice aa A.length ac, .slice ba B.length bc, .bool adds, undef, undef, .pointer (some ⟨w.heap.size, 0, none⟩), .pointer (some ⟨w.heap.size + 1, 0, none⟩), .pointer (some ⟨w.heap.size + 1 + 1, 0, none⟩), .pointer (some ⟨w2.heap.size, 0, none⟩), .string x.1.1, .pointer (some ⟨Bx, 0, none⟩), undef, .slice aa A.length ac, .bool true, .bool false, .bool false, .slice ba B.length bc, .bool true, .bool false, .bool false, .slice aa A.length ac, .slice ba B.length bc, .func (.func 73) #[] #[.pointer (some ⟨w2.heap.size + 1, 0, none⟩), .pointer (some ⟨w2.heap.size + 1 + 1, 0, none⟩), .pointer (some ⟨w2.heap.size + 1 + 2, 0, none⟩), .pointer (some ⟨w2.heap.size + 1 + 3, 0, none⟩)], .string x.1.1, .agg #[adr (.slice aa A.length ac) 2 x.1.2.1, adr (.slice ba B.length bc) 4 x.1.2.2], undef, undef, undef, undef, undef, undef, undef, undef, undef, undef, undef, undef, undef, undef, undef, undef, undef, undef, undef, undef, undef, undef, undef, undef, undef, undef, undef, undef, undef, undef, undef, undef, undef, undef, undef, undef, undef, undef, undef, undef, undef, undef, undef, undef, undef, undef, undef, undef, undef, undef, undef, undef, undef, undef, undef, undef, undef, undef, undef, undef, undef, undef, undef, undef, undef, undef], defers := [] })
    (fun x a' _ W W' row hs hg hr => by obtain ⟨Bx, h1, h2, h3⟩ := hs; exact ⟨Bx, h1, h2.own_ hg (fun r e => (hr r e).2), h3⟩) ?assign ?body ?done ?stop
  case assign =>
    intro l pre x W K hI hK
    have hsz := hI.1.fr.size
    obtain ⟨p1, hp1⟩ := adr_ptr (.slice aa A.length ac) 2 x.1.2.1
    obtain ⟨p2, hp2⟩ := adr_ptr (.slice ba B.length bc) 4 x.1.2.2
    simp only [hp1, hp2] at hK ⊢
    clear hp1 hp2
    gi_wp2
    refine hK _ _ (KeepsFrom.of_fr ((Fr.refl [] W).alloc _) (by simp)) (KB.of_fr ((Fr.refl [] W).alloc _) (by simp)) (⟨OI.own (by decide) _ _ _ _ _ none hI.1 (World.grownBy_alloc W _ none) (fun r e => by cases e), hI.2⟩) ⟨W.heap.size, hsz, Blk.new _ _ _, rfl⟩
  case body =>
    rintro l pre x a' W hl ⟨r0, hr0⟩ hI ⟨Bx, hBx, bX, rfl⟩ hlt
    obtain ⟨⟨⟨v, hv, hsv, hnil⟩, hf⟩, hbi⟩ := hI
    have HBI := Lib.hid hbi
    clear hbi
    have hol := outZ_len (turnF adds) pre
    have hBo : w2.heap.size < W0.heap.size := by omega
    have hsz := hf.size
    have RAW := Lib.hid (RA.out.frp hf (fun g hg h0 hm => by simp at hm; have := hnA h0 g hg; omega))
    have RBW := Lib.hid (RB.out.frp hf (fun g hg h0 hm => by simp at hm; have := hnB h0 g hg; omega))
    have HV := Lib.hid hv
    have HSV := Lib.hid hsv
    have HN := Lib.hid hnil
    have HF := Lib.hid hf
    have K5W := Lib.hid (hf.blk K5.out (by simp; omega))
    have K6W := Lib.hid (hf.blk K6.out (by simp; omega))
    have K7W := Lib.hid (hf.blk K7.out (by simp; omega))
    have q5c := K5W.out.cell
    have q5l := K5W.out.lt
    clear K5 K6 K7
    have vc := hv.cell
    have vf := hv.free
    have vl := hv.lt
    clear hv hsv hnil hf hr0 hl hnA hnB b1 b2 b3 b4 bo RA RB
    have hat := x.at_
    have hxm : valV A B x.1 ∈ zipR A B := by rw [← zipP_val]; exact List.mem_map.2 ⟨x.1, x.2, rfl⟩
    have HXM := Lib.hid hxm
    clear hxm
    obtain ⟨⟨s, oa, ob⟩, hx⟩ := x
    simp only at hat bX HXM ⊢
    rcases hat with ⟨i, a, e1, e2, hi⟩ | ⟨k, b, e1, e2, hk⟩ | ⟨i, k, a, b, e1, e2, hi, hk⟩
    · subst e1 e2
      have hAl := (List.getElem?_eq_some_iff.1 hi).1
      obtain ⟨g, o, c, he, g1, g2, g3, g4⟩ := RAW.out.cells (by omega)
      simp only [Value.slice.injEq] at he
      obtain ⟨rfl, -, rfl⟩ := he
      have ak0 := g4 (i * 2) _ (flat2_get A i _ hi).1
      have ak1 := g4 (i * 2 + 1) _ (flat2_get A i _ hi).2
      rw [← Nat.add_assoc] at ak1
      clear g4
      simp only [adr, add_none] at bX ak0 ak1 ⊢
      have xc := bX.cell
      have xl := bX.lt
      gi_upto_region 19 with fail
      refine round_list (by kernel_rfl) (fun ⟨_, _, h⟩ => h) ?_
      refine wpList_named ?_
      intro wx hwx
      have HFx := Lib.hid (show Fr [] W wx from by rw [← hwx]; repeat' (first | (with_reducible exact Fr.refl _ _) | (with_reducible refine Fr.drew ?_) | (with_reducible refine Fr.drN ?_ _) | (with_reducible refine Fr.alloc ?_ _) | (with_reducible refine Fr.set ?_ ?_ _) | (left; simp; done) | (right; simp; done) | (right; simp; omega)))
      have HCx := Lib.hid (show Blk wx W.heap.size #[.string s, .int .u64 (a)] 38 from by rw [← hwx]; first | (exact Blk.new _ _ _) | (repeat' (first | ((with_reducible refine Blk.mk0 _ _ _ _ ?_); first | (simp; done) | (simp; omega)) | (with_reducible refine Blk.drew ?_) | (with_reducible refine Blk.drN ?_ _) | (with_reducible refine Blk.set ?_ _ _) | (with_reducible refine Blk.other ?_ ?_ _) | (with_reducible refine Blk.alloc ?_ _) | (simp; done) | (simp; omega))))
      clear hwx
      have hd5 : (turnF adds) s (valV A B (s, some i, none)).2.1 (valV A B (s, some i, none)).2.2 = some a := by rw [val_a (A := A) (B := B) (x := (s, some i, none)) rfl hi, val_b0 (A := A) (B := B) (x := (s, some i, none)) rfl]; rfl
      have HD5 := Lib.hid hd5
      clear hd5
      have cx := HCx.out.cell
      have cl := HCx.out.lt
      have vcx := (HFx.out.blk HV.out (by simp)).cell
      have vlx := (HFx.out.blk HV.out (by simp)).lt
      clear vc vf vl xc xl q5c q5l
      go_wp2_with (at_builtin; (refine wpList_append_svo _ rfl (.tmp 83) (.tmp 85) 24 rfl 38 i0 (ctV ByteArray.empty 0) 2 24 Try.underlying24 hi0 hz0 hz1 hz2 rfl (by decide) W0.heap.size v _ _ rfl ((HSV.out.fr0 HFx.out).al _) ?_ ⟨wx.heap.size, 0, none⟩ 1 1 [.string s, .int .u64 (a)] rfl rfl (cells_of_blk (t := 38) ?_) ?_ ?_ ?_ ?_); (focus (have := HFx.out.size; simp; omega)); (focus (exact Blk.new _ _ _)); (focus (simp [Value.oneCell'])); (focus (unfold maxLen; omega)); (focus omega); intro v6 w6 hS6 hF6 hO6; have hb6 := hF6.blk ((HFx.out.blk HV.out (by simp)).alloc _) (by intro hm; simp at hm; have := (HSV.out.own hm).1; omega); have c6 := hb6.cell; have f6 := hb6.free; have l6 := hb6.lt; have HS6 := Lib.hid hS6; have HF6 := Lib.hid hF6; obtain ⟨a6, q6, e6⟩ := hS6.at_; subst e6; clear hS6 hF6 hO6 hb6 cx cl vcx vlx)
      gi_wp2
      have hst := OI.step (by decide) hBo HV.out HSV.out HN.out HF.out (HFx.out.alloc _) HS6.out HF6.out (by decide)
      refine ⟨hst.2.1, KB.of_fr hst.2.2 ?_, ⟨OI.cast hst.1 (by rw [outZ_some HD5.out]; simp) (by rw [outZ_some HD5.out, flat2_app]; rfl), GoodTo.step HBI.out (fun _ => bad_a (val_a (A := A) (B := B) (x := (s, some i, none)) rfl hi))⟩⟩
      intro q hq
      rcases List.mem_cons.1 hq with rfl | hq
      · simp <;> omega
      · simp at hq
        have := (HSV.out.own hq).1
        simp
        omega
    · subst e1 e2
      obtain ⟨n, r, gn⟩ := b
      have hBl := (List.getElem?_eq_some_iff.1 hk).1
      obtain ⟨g', o', c', he, g1', g2', g3', g4'⟩ := RBW.out.cells (by omega)
      simp only [Value.slice.injEq] at he
      obtain ⟨rfl, -, rfl⟩ := he
      have bk0 := g4' (k * 4) _ (flat4_get B k _ hk).1
      have bk1 := g4' (k * 4 + 1) _ (flat4_get B k _ hk).2.1
      have bk2 := g4' (k * 4 + 2) _ (flat4_get B k _ hk).2.2.1
      have bk3 := g4' (k * 4 + 3) _ (flat4_get B k _ hk).2.2.2
      rw [← Nat.add_assoc] at bk1 bk2 bk3
      clear g4'
      simp only [adr, add_none] at bX bk0 bk1 bk2 bk3 ⊢
      have xc := bX.cell
      have xl := bX.lt
      have HBX := Lib.hid bX
      have HB1 := Lib.hid bk1
      have iw := wb _ (List.mem_of_getElem? hk)
      unfold inW at iw
      simp only at iw
      have HVA := Lib.hid (val_a0 (A := A) (B := B) (x := (s, none, some k)) rfl)
      have HVB := Lib.hid (val_b (A := A) (B := B) (x := (s, none, some k)) rfl hk)
      clear hk bX
      cases gn with
      | true =>
        cases adds with
        | true =>
          gi_wp2
          refine ownPost_named ?_
          intro wy hwy
          have HFy := Lib.hid (show Fr [] W wy from by rw [← hwy]; repeat' (first | (with_reducible exact Fr.refl _ _) | (with_reducible refine Fr.drew ?_) | (with_reducible refine Fr.drN ?_ _) | (with_reducible refine Fr.alloc ?_ _) | (with_reducible refine Fr.set ?_ ?_ _) | (left; simp; done) | (right; simp; done) | (right; simp; omega)))
          clear hwy
          have hd5 : turnF true s (valV A B (s, none, some k)).2.1 (valV A B (s, none, some k)).2.2 = none := by rw [HVA.out, HVB.out]; rfl
          refine ⟨KeepsFrom.of_fr HFy.out (by simp), KB.of_fr HFy.out (by simp), ?_, GoodTo.step HBI.out (fun h => by cases h)⟩
          exact OI.cast ⟨⟨v, HFy.out.blk HV.out (by simp), HSV.out.fr0 HFy.out, HN.out⟩, HF.out.trans (HFy.out.mono (by simp))⟩ (by rw [outZ_none hd5]) (by rw [outZ_none hd5])
        | false =>
          have q6c := K6W.out.cell
          have q6f := K6W.out.free
          have q6l := K6W.out.lt
          have q7c := K7W.out.cell
          have q7f := K7W.out.free
          have q7l := K7W.out.lt
          gi_wp2
          refine ownPost_named ?_
          intro wy hwy
          have HFy := Lib.hid (show Fr [w.heap.size + 1, w.heap.size + 1 + 1] W wy from by rw [← hwy]; repeat' (first | (with_reducible exact Fr.refl _ _) | (with_reducible refine Fr.drew ?_) | (with_reducible refine Fr.drN ?_ _) | (with_reducible refine Fr.alloc ?_ _) | (with_reducible refine Fr.set ?_ ?_ _) | (left; simp; done) | (right; simp; done) | (right; simp; omega)))
          have HC6 := Lib.hid (show Blk wy (w.heap.size + 1) #[.slice none 0 0] 24 from by rw [← hwy]; exact Blk.cast (cs := (#[.slice none 0 0] : Array Value).setIfInBounds 0 (.slice none 0 0)) (by repeat' (first | (with_reducible exact K6W.out) | (with_reducible refine Blk.drew ?_) | (with_reducible refine Blk.drN ?_ _) | (with_reducible refine Blk.set ?_ _ _) | (with_reducible refine Blk.other ?_ ?_ _) | (with_reducible refine Blk.alloc ?_ _) | (simp; done) | (simp; omega))) (by simp))
          have HC7 := Lib.hid (show Blk wy (w.heap.size + 1 + 1) #[.int .i64 240] 27 from by rw [← hwy]; exact Blk.cast (cs := (#[.int .i64 0] : Array Value).setIfInBounds 0 (.int .i64 240)) (by repeat' (first | (with_reducible exact K7W.out) | (with_reducible refine Blk.drew ?_) | (with_reducible refine Blk.drN ?_ _) | (with_reducible refine Blk.set ?_ _ _) | (with_reducible refine Blk.other ?_ ?_ _) | (with_reducible refine Blk.alloc ?_ _) | (simp; done) | (simp; omega))) (by simp))
          clear hwy
          refine ⟨KeepsFrom.of_fr HFy.out (by intro q hq; simp at hq; left; omega), ⟨rfl, rfl, List.any_eq_true.2 ⟨_, HXM.out, bad_b HVA.out HVB.out⟩⟩, ?_, HC6.out, HC7.out⟩
          exact (HF.out.mono (by intro q hq; simp at hq; simp [hq])).trans (HFy.out.mono (by intro q hq; simp at hq; simp; omega))
      | false =>
        cases r with
        | true =>
          cases adds with
          | false =>
            gi_upto_region 19 with fail
            refine round_list (by kernel_rfl) (fun ⟨_, _, h⟩ => h) ?_
            refine wpList_named ?_
            intro wx hwx
            have HFx := Lib.hid (show Fr [] W wx from by rw [← hwx]; repeat' (first | (with_reducible exact Fr.refl _ _) | (with_reducible refine Fr.drew ?_) | (with_reducible refine Fr.drN ?_ _) | (with_reducible refine Fr.alloc ?_ _) | (with_reducible refine Fr.set ?_ ?_ _) | (left; simp; done) | (right; simp; done) | (right; simp; omega)))
            have HCx := Lib.hid (show Blk wx W.heap.size #[.string s, .int .u64 (n)] 38 from by rw [← hwx]; first | (exact Blk.new _ _ _) | (repeat' (first | ((with_reducible refine Blk.mk0 _ _ _ _ ?_); first | (simp; done) | (simp; omega)) | (with_reducible refine Blk.drew ?_) | (with_reducible refine Blk.drN ?_ _) | (with_reducible refine Blk.set ?_ _ _) | (with_reducible refine Blk.other ?_ ?_ _) | (with_reducible refine Blk.alloc ?_ _) | (simp; done) | (simp; omega))))
            clear hwx
            have hd5 : (turnF false) s (valV A B (s, none, some k)).2.1 (valV A B (s, none, some k)).2.2 = some n := by rw [HVA.out, HVB.out]; rfl
            have HD5 := Lib.hid hd5
            clear hd5
            have cx := HCx.out.cell
            have cl := HCx.out.lt
            have vcx := (HFx.out.blk HV.out (by simp)).cell
            have vlx := (HFx.out.blk HV.out (by simp)).lt
            clear vc vf vl xc xl q5c q5l
            go_wp2_with (at_builtin; (refine wpList_append_svo _ rfl (.tmp 83) (.tmp 85) 24 rfl 38 i0 (ctV ByteArray.empty 0) 2 24 Try.underlying24 hi0 hz0 hz1 hz2 rfl (by decide) W0.heap.size v _ _ rfl ((HSV.out.fr0 HFx.out).al _) ?_ ⟨wx.heap.size, 0, none⟩ 1 1 [.string s, .int .u64 (n)] rfl rfl (cells_of_blk (t := 38) ?_) ?_ ?_ ?_ ?_); (focus (have := HFx.out.size; simp; omega)); (focus (exact Blk.new _ _ _)); (focus (simp [Value.oneCell'])); (focus (unfold maxLen; omega)); (focus omega); intro v6 w6 hS6 hF6 hO6; have hb6 := hF6.blk ((HFx.out.blk HV.out (by simp)).alloc _) (by intro hm; simp at hm; have := (HSV.out.own hm).1; omega); have c6 := hb6.cell; have f6 := hb6.free; have l6 := hb6.lt; have HS6 := Lib.hid hS6; have HF6 := Lib.hid hF6; obtain ⟨a6, q6, e6⟩ := hS6.at_; subst e6; clear hS6 hF6 hO6 hb6 cx cl vcx vlx)
            gi_wp2
            have hst := OI.step (by decide) hBo HV.out HSV.out HN.out HF.out (HFx.out.alloc _) HS6.out HF6.out (by decide)
            refine ⟨hst.2.1, KB.of_fr hst.2.2 ?_, ⟨OI.cast hst.1 (by rw [outZ_some HD5.out]; simp) (by rw [outZ_some HD5.out, flat2_app]; rfl), GoodTo.step HBI.out (fun _ => bad_b HVA.out HVB.out)⟩⟩
            intro q hq
            rcases List.mem_cons.1 hq with rfl | hq
            · simp <;> omega
            · simp at hq
              have := (HSV.out.own hq).1
              simp
              omega
          | true =>
            have hsum : IntKind.u64.wrap (0 + n) = n := by rw [IntKind.wrap_u64]; omega
            have HSUM := Lib.hid (show IntKind.u64.wrap n = n by rw [IntKind.wrap_u64]; omega)
            gi_upto_region 11 with fail
            refine wpIn_named ?_
            intro wq hwq
            have HFq := Lib.hid (show Fr [] W wq from by rw [← hwq]; repeat' (first | (with_reducible exact Fr.refl _ _) | (with_reducible refine Fr.drew ?_) | (with_reducible refine Fr.drN ?_ _) | (with_reducible refine Fr.alloc ?_ _) | (with_reducible refine Fr.set ?_ ?_ _) | (left; simp; done) | (right; simp; done) | (right; simp; omega)))
            have HCq := Lib.hid (show Blk wq W.heap.size #[.string s, .int .u64 0] 38 from by rw [← hwq]; first | (exact Blk.new _ _ _) | (repeat' (first | ((with_reducible refine Blk.mk0 _ _ _ _ ?_); first | (simp; done) | (simp; omega)) | (with_reducible refine Blk.drew ?_) | (with_reducible refine Blk.drN ?_ _) | (with_reducible refine Blk.set ?_ _ _) | (with_reducible refine Blk.other ?_ ?_ _) | (with_reducible refine Blk.alloc ?_ _) | (simp; done) | (simp; omega))))
            clear hwq xc xl
            have bq1 := HFq.out.cl HB1.out
            have xq := (HFq.out.blk HBX.out (by simp)).cell
            have xlq := (HFq.out.blk HBX.out (by simp)).lt
            have cq := HCq.out.cell
            have cfq := HCq.out.free
            have clq := HCq.out.lt
            refine round_tail 9 (by kernel_rfl) (by kernel_rfl) (fun ⟨_, _, h⟩ => h) (by kernel_rfl) ?_
            simp only [List.take_succ_cons, List.take_zero, List.drop_succ_cons, List.drop_zero]
            repeat still_step
            try refine wpStill_nil ?_
            go_wp2
            clear hsum
            gi_upto_region 19 with fail
            refine round_list (by kernel_rfl) (fun ⟨_, _, h⟩ => h) ?_
            refine wpList_named ?_
            intro wx hwx
            have HFx := Lib.hid (show Fr [] W wx from by rw [← hwx]; repeat' (first | (with_reducible exact HFq.out) | (with_reducible refine Fr.drew ?_) | (with_reducible refine Fr.drN ?_ _) | (with_reducible refine Fr.alloc ?_ _) | (with_reducible refine Fr.set ?_ ?_ _) | (left; simp; done) | (right; simp; done) | (right; simp; omega)))
            have HCx := Lib.hid (show Blk wx W.heap.size #[.string s, .int .u64 (n)] 38 from by rw [← hwx]; exact Blk.cast (cs := ((#[.string s, .int .u64 0] : Array Value).setIfInBounds 1 (.int .u64 (n)))) (by repeat' (first | (with_reducible exact HCq.out) | (with_reducible refine Blk.drew ?_) | (with_reducible refine Blk.drN ?_ _) | (with_reducible refine Blk.set ?_ _ _) | (with_reducible refine Blk.other ?_ ?_ _) | (with_reducible refine Blk.alloc ?_ _) | (simp; done) | (simp; omega))) (by simp))
            clear hwx
            have hd5 : (turnF true) s (valV A B (s, none, some k)).2.1 (valV A B (s, none, some k)).2.2 = some n := by rw [HVA.out, HVB.out]; simp [turnF, HSUM.out]
            have HD5 := Lib.hid hd5
            clear hd5
            have cx := HCx.out.cell
            have cl := HCx.out.lt
            have vcx := (HFx.out.blk HV.out (by simp)).cell
            have vlx := (HFx.out.blk HV.out (by simp)).lt
            clear vc vf vl  q5c q5l
            go_wp2_with (at_builtin; (refine wpList_append_svo _ rfl (.tmp 83) (.tmp 85) 24 rfl 38 i0 (ctV ByteArray.empty 0) 2 24 Try.underlying24 hi0 hz0 hz1 hz2 rfl (by decide) W0.heap.size v _ _ rfl ((HSV.out.fr0 HFx.out).al _) ?_ ⟨wx.heap.size, 0, none⟩ 1 1 [.string s, .int .u64 (n)] rfl rfl (cells_of_blk (t := 38) ?_) ?_ ?_ ?_ ?_); (focus (have := HFx.out.size; simp; omega)); (focus (exact Blk.new _ _ _)); (focus (simp [Value.oneCell'])); (focus (unfold maxLen; omega)); (focus omega); intro v6 w6 hS6 hF6 hO6; have hb6 := hF6.blk ((HFx.out.blk HV.out (by simp)).alloc _) (by intro hm; simp at hm; have := (HSV.out.own hm).1; omega); have c6 := hb6.cell; have f6 := hb6.free; have l6 := hb6.lt; have HS6 := Lib.hid hS6; have HF6 := Lib.hid hF6; obtain ⟨a6, q6, e6⟩ := hS6.at_; subst e6; clear hS6 hF6 hO6 hb6 cx cl vcx vlx)
            gi_wp2
            have hst := OI.step (by decide) hBo HV.out HSV.out HN.out HF.out (HFx.out.alloc _) HS6.out HF6.out (by decide)
            refine ⟨hst.2.1, KB.of_fr hst.2.2 ?_, ⟨OI.cast hst.1 (by rw [outZ_some HD5.out]; simp) (by rw [outZ_some HD5.out, flat2_app]; rfl), GoodTo.step HBI.out (fun _ => bad_b HVA.out HVB.out)⟩⟩
            intro q hq
            rcases List.mem_cons.1 hq with rfl | hq
            · simp <;> omega
            · simp at hq
              have := (HSV.out.own hq).1
              simp
              omega
        | false =>
          have hsum : IntKind.u64.wrap (0 + n) = n := by rw [IntKind.wrap_u64]; omega
          have HSUM := Lib.hid (show IntKind.u64.wrap n = n by rw [IntKind.wrap_u64]; omega)
          gi_upto_region 11 with fail
          refine wpIn_named ?_
          intro wq hwq
          have HFq := Lib.hid (show Fr [] W wq from by rw [← hwq]; repeat' (first | (with_reducible exact Fr.refl _ _) | (with_reducible refine Fr.drew ?_) | (with_reducible refine Fr.drN ?_ _) | (with_reducible refine Fr.alloc ?_ _) | (with_reducible refine Fr.set ?_ ?_ _) | (left; simp; done) | (right; simp; done) | (right; simp; omega)))
          have HCq := Lib.hid (show Blk wq W.heap.size #[.string s, .int .u64 0] 38 from by rw [← hwq]; first | (exact Blk.new _ _ _) | (repeat' (first | ((with_reducible refine Blk.mk0 _ _ _ _ ?_); first | (simp; done) | (simp; omega)) | (with_reducible refine Blk.drew ?_) | (with_reducible refine Blk.drN ?_ _) | (with_reducible refine Blk.set ?_ _ _) | (with_reducible refine Blk.other ?_ ?_ _) | (with_reducible refine Blk.alloc ?_ _) | (simp; done) | (simp; omega))))
          clear hwq xc xl
          have bq1 := HFq.out.cl HB1.out
          have xq := (HFq.out.blk HBX.out (by simp)).cell
          have xlq := (HFq.out.blk HBX.out (by simp)).lt
          have cq := HCq.out.cell
          have cfq := HCq.out.free
          have clq := HCq.out.lt
          refine round_tail 9 (by kernel_rfl) (by kernel_rfl) (fun ⟨_, _, h⟩ => h) (by kernel_rfl) ?_
          simp only [List.take_succ_cons, List.take_zero, List.drop_succ_cons, List.drop_zero]
          repeat still_step
          try refine wpStill_nil ?_
          go_wp2
          clear hsum
          gi_upto_region 19 with fail
          refine round_list (by kernel_rfl) (fun ⟨_, _, h⟩ => h) ?_
          refine wpList_named ?_
          intro wx hwx
          have HFx := Lib.hid (show Fr [] W wx from by rw [← hwx]; repeat' (first | (with_reducible exact HFq.out) | (with_reducible refine Fr.drew ?_) | (with_reducible refine Fr.drN ?_ _) | (with_reducible refine Fr.alloc ?_ _) | (with_reducible refine Fr.set ?_ ?_ _) | (left; simp; done) | (right; simp; done) | (right; simp; omega)))
          have HCx := Lib.hid (show Blk wx W.heap.size #[.string s, .int .u64 (n)] 38 from by rw [← hwx]; exact Blk.cast (cs := ((#[.string s, .int .u64 0] : Array Value).setIfInBounds 1 (.int .u64 (n)))) (by repeat' (first | (with_reducible exact HCq.out) | (with_reducible refine Blk.drew ?_) | (with_reducible refine Blk.drN ?_ _) | (with_reducible refine Blk.set ?_ _ _) | (with_reducible refine Blk.other ?_ ?_ _) | (with_reducible refine Blk.alloc ?_ _) | (simp; done) | (simp; omega))) (by simp))
          clear hwx
          have hd5 : (turnF adds) s (valV A B (s, none, some k)).2.1 (valV A B (s, none, some k)).2.2 = some n := by rw [HVA.out, HVB.out]; simp [turnF, HSUM.out]
          have HD5 := Lib.hid hd5
          clear hd5
          have cx := HCx.out.cell
          have cl := HCx.out.lt
          have vcx := (HFx.out.blk HV.out (by simp)).cell
          have vlx := (HFx.out.blk HV.out (by simp)).lt
          clear vc vf vl  q5c q5l
          go_wp2_with (at_builtin; (refine wpList_append_svo _ rfl (.tmp 83) (.tmp 85) 24 rfl 38 i0 (ctV ByteArray.empty 0) 2 24 Try.underlying24 hi0 hz0 hz1 hz2 rfl (by decide) W0.heap.size v _ _ rfl ((HSV.out.fr0 HFx.out).al _) ?_ ⟨wx.heap.size, 0, none⟩ 1 1 [.string s, .int .u64 (n)] rfl rfl (cells_of_blk (t := 38) ?_) ?_ ?_ ?_ ?_); (focus (have := HFx.out.size; simp; omega)); (focus (exact Blk.new _ _ _)); (focus (simp [Value.oneCell'])); (focus (unfold maxLen; omega)); (focus omega); intro v6 w6 hS6 hF6 hO6; have hb6 := hF6.blk ((HFx.out.blk HV.out (by simp)).alloc _) (by intro hm; simp at hm; have := (HSV.out.own hm).1; omega); have c6 := hb6.cell; have f6 := hb6.free; have l6 := hb6.lt; have HS6 := Lib.hid hS6; have HF6 := Lib.hid hF6; obtain ⟨a6, q6, e6⟩ := hS6.at_; subst e6; clear hS6 hF6 hO6 hb6 cx cl vcx vlx)
          gi_wp2
          have hst := OI.step (by decide) hBo HV.out HSV.out HN.out HF.out (HFx.out.alloc _) HS6.out HF6.out (by decide)
          refine ⟨hst.2.1, KB.of_fr hst.2.2 ?_, ⟨OI.cast hst.1 (by rw [outZ_some HD5.out]; simp) (by rw [outZ_some HD5.out, flat2_app]; rfl), GoodTo.step HBI.out (fun _ => bad_b HVA.out HVB.out)⟩⟩
          intro q hq
          rcases List.mem_cons.1 hq with rfl | hq
          · simp <;> omega
          · simp at hq
            have := (HSV.out.own hq).1
            simp
            omega
    · subst e1 e2
      obtain ⟨n, r, gn⟩ := b
      have hAl := (List.getElem?_eq_some_iff.1 hi).1
      obtain ⟨g, o, c, he, g1, g2, g3, g4⟩ := RAW.out.cells (by omega)
      simp only [Value.slice.injEq] at he
      obtain ⟨rfl, -, rfl⟩ := he
      have ak0 := g4 (i * 2) _ (flat2_get A i _ hi).1
      have ak1 := g4 (i * 2 + 1) _ (flat2_get A i _ hi).2
      rw [← Nat.add_assoc] at ak1
      clear g4
      have hBl := (List.getElem?_eq_some_iff.1 hk).1
      obtain ⟨g', o', c', he, g1', g2', g3', g4'⟩ := RBW.out.cells (by omega)
      simp only [Value.slice.injEq] at he
      obtain ⟨rfl, -, rfl⟩ := he
      have bk0 := g4' (k * 4) _ (flat4_get B k _ hk).1
      have bk1 := g4' (k * 4 + 1) _ (flat4_get B k _ hk).2.1
      have bk2 := g4' (k * 4 + 2) _ (flat4_get B k _ hk).2.2.1
      have bk3 := g4' (k * 4 + 3) _ (flat4_get B k _ hk).2.2.2
      rw [← Nat.add_assoc] at bk1 bk2 bk3
      clear g4'
      simp only [adr, add_none] at bX ak0 ak1 bk0 bk1 bk2 bk3 ⊢
      have xc := bX.cell
      have xl := bX.lt
      have HBX := Lib.hid bX
      have HB1 := Lib.hid bk1
      have iw := wb _ (List.mem_of_getElem? hk)
      unfold inW at iw
      simp only at iw
      have HVA := Lib.hid (val_a (A := A) (B := B) (x := (s, some i, some k)) rfl hi)
      have HVB := Lib.hid (val_b (A := A) (B := B) (x := (s, some i, some k)) rfl hk)
      clear hi hk bX
      cases gn with
      | true =>
        cases adds with
        | true =>
          gi_upto_region 19 with fail
          refine round_list (by kernel_rfl) (fun ⟨_, _, h⟩ => h) ?_
          refine wpList_named ?_
          intro wx hwx
          have HFx := Lib.hid (show Fr [] W wx from by rw [← hwx]; repeat' (first | (with_reducible exact Fr.refl _ _) | (with_reducible refine Fr.drew ?_) | (with_reducible refine Fr.drN ?_ _) | (with_reducible refine Fr.alloc ?_ _) | (with_reducible refine Fr.set ?_ ?_ _) | (left; simp; done) | (right; simp; done) | (right; simp; omega)))
          have HCx := Lib.hid (show Blk wx W.heap.size #[.string s, .int .u64 (a)] 38 from by rw [← hwx]; first | (exact Blk.new _ _ _) | (repeat' (first | ((with_reducible refine Blk.mk0 _ _ _ _ ?_); first | (simp; done) | (simp; omega)) | (with_reducible refine Blk.drew ?_) | (with_reducible refine Blk.drN ?_ _) | (with_reducible refine Blk.set ?_ _ _) | (with_reducible refine Blk.other ?_ ?_ _) | (with_reducible refine Blk.alloc ?_ _) | (simp; done) | (simp; omega))))
          clear hwx
          have hd5 : (turnF true) s (valV A B (s, some i, some k)).2.1 (valV A B (s, some i, some k)).2.2 = some a := by rw [HVA.out, HVB.out]; rfl
          have HD5 := Lib.hid hd5
          clear hd5
          have cx := HCx.out.cell
          have cl := HCx.out.lt
          have vcx := (HFx.out.blk HV.out (by simp)).cell
          have vlx := (HFx.out.blk HV.out (by simp)).lt
          clear vc vf vl xc xl q5c q5l
          go_wp2_with (at_builtin; (refine wpList_append_svo _ rfl (.tmp 83) (.tmp 85) 24 rfl 38 i0 (ctV ByteArray.empty 0) 2 24 Try.underlying24 hi0 hz0 hz1 hz2 rfl (by decide) W0.heap.size v _ _ rfl ((HSV.out.fr0 HFx.out).al _) ?_ ⟨wx.heap.size, 0, none⟩ 1 1 [.string s, .int .u64 (a)] rfl rfl (cells_of_blk (t := 38) ?_) ?_ ?_ ?_ ?_); (focus (have := HFx.out.size; simp; omega)); (focus (exact Blk.new _ _ _)); (focus (simp [Value.oneCell'])); (focus (unfold maxLen; omega)); (focus omega); intro v6 w6 hS6 hF6 hO6; have hb6 := hF6.blk ((HFx.out.blk HV.out (by simp)).alloc _) (by intro hm; simp at hm; have := (HSV.out.own hm).1; omega); have c6 := hb6.cell; have f6 := hb6.free; have l6 := hb6.lt; have HS6 := Lib.hid hS6; have HF6 := Lib.hid hF6; obtain ⟨a6, q6, e6⟩ := hS6.at_; subst e6; clear hS6 hF6 hO6 hb6 cx cl vcx vlx)
          gi_wp2
          have hst := OI.step (by decide) hBo HV.out HSV.out HN.out HF.out (HFx.out.alloc _) HS6.out HF6.out (by decide)
          refine ⟨hst.2.1, KB.of_fr hst.2.2 ?_, ⟨OI.cast hst.1 (by rw [outZ_some HD5.out]; simp) (by rw [outZ_some HD5.out, flat2_app]; rfl), GoodTo.step HBI.out (fun _ => bad_a HVA.out)⟩⟩
          intro q hq
          rcases List.mem_cons.1 hq with rfl | hq
          · simp <;> omega
          · simp at hq
            have := (HSV.out.own hq).1
            simp
            omega
        | false =>
          gi_wp2
          refine ownPost_named ?_
          intro wy hwy
          have HFy := Lib.hid (show Fr [] W wy from by rw [← hwy]; repeat' (first | (with_reducible exact Fr.refl _ _) | (with_reducible refine Fr.drew ?_) | (with_reducible refine Fr.drN ?_ _) | (with_reducible refine Fr.alloc ?_ _) | (with_reducible refine Fr.set ?_ ?_ _) | (left; simp; done) | (right; simp; done) | (right; simp; omega)))
          clear hwy
          have hd5 : turnF false s (valV A B (s, some i, some k)).2.1 (valV A B (s, some i, some k)).2.2 = none := by rw [HVA.out, HVB.out]; rfl
          refine ⟨KeepsFrom.of_fr HFy.out (by simp), KB.of_fr HFy.out (by simp), ?_, GoodTo.step HBI.out (fun _ => bad_a HVA.out)⟩
          exact OI.cast ⟨⟨v, HFy.out.blk HV.out (by simp), HSV.out.fr0 HFy.out, HN.out⟩, HF.out.trans (HFy.out.mono (by simp))⟩ (by rw [outZ_none hd5]) (by rw [outZ_none hd5])
      | false =>
        cases r with
        | true =>
          cases adds with
          | false =>
            gi_upto_region 19 with fail
            refine round_list (by kernel_rfl) (fun ⟨_, _, h⟩ => h) ?_
            refine wpList_named ?_
            intro wx hwx
            have HFx := Lib.hid (show Fr [] W wx from by rw [← hwx]; repeat' (first | (with_reducible exact Fr.refl _ _) | (with_reducible refine Fr.drew ?_) | (with_reducible refine Fr.drN ?_ _) | (with_reducible refine Fr.alloc ?_ _) | (with_reducible refine Fr.set ?_ ?_ _) | (left; simp; done) | (right; simp; done) | (right; simp; omega)))
            have HCx := Lib.hid (show Blk wx W.heap.size #[.string s, .int .u64 (n)] 38 from by rw [← hwx]; first | (exact Blk.new _ _ _) | (repeat' (first | ((with_reducible refine Blk.mk0 _ _ _ _ ?_); first | (simp; done) | (simp; omega)) | (with_reducible refine Blk.drew ?_) | (with_reducible refine Blk.drN ?_ _) | (with_reducible refine Blk.set ?_ _ _) | (with_reducible refine Blk.other ?_ ?_ _) | (with_reducible refine Blk.alloc ?_ _) | (simp; done) | (simp; omega))))
            clear hwx
            have hd5 : (turnF false) s (valV A B (s, some i, some k)).2.1 (valV A B (s, some i, some k)).2.2 = some n := by rw [HVA.out, HVB.out]; rfl
            have HD5 := Lib.hid hd5
            clear hd5
            have cx := HCx.out.cell
            have cl := HCx.out.lt
            have vcx := (HFx.out.blk HV.out (by simp)).cell
            have vlx := (HFx.out.blk HV.out (by simp)).lt
            clear vc vf vl xc xl q5c q5l
            go_wp2_with (at_builtin; (refine wpList_append_svo _ rfl (.tmp 83) (.tmp 85) 24 rfl 38 i0 (ctV ByteArray.empty 0) 2 24 Try.underlying24 hi0 hz0 hz1 hz2 rfl (by decide) W0.heap.size v _ _ rfl ((HSV.out.fr0 HFx.out).al _) ?_ ⟨wx.heap.size, 0, none⟩ 1 1 [.string s, .int .u64 (n)] rfl rfl (cells_of_blk (t := 38) ?_) ?_ ?_ ?_ ?_); (focus (have := HFx.out.size; simp; omega)); (focus (exact Blk.new _ _ _)); (focus (simp [Value.oneCell'])); (focus (unfold maxLen; omega)); (focus omega); intro v6 w6 hS6 hF6 hO6; have hb6 := hF6.blk ((HFx.out.blk HV.out (by simp)).alloc _) (by intro hm; simp at hm; have := (HSV.out.own hm).1; omega); have c6 := hb6.cell; have f6 := hb6.free; have l6 := hb6.lt; have HS6 := Lib.hid hS6; have HF6 := Lib.hid hF6; obtain ⟨a6, q6, e6⟩ := hS6.at_; subst e6; clear hS6 hF6 hO6 hb6 cx cl vcx vlx)
            gi_wp2
            have hst := OI.step (by decide) hBo HV.out HSV.out HN.out HF.out (HFx.out.alloc _) HS6.out HF6.out (by decide)
            refine ⟨hst.2.1, KB.of_fr hst.2.2 ?_, ⟨OI.cast hst.1 (by rw [outZ_some HD5.out]; simp) (by rw [outZ_some HD5.out, flat2_app]; rfl), GoodTo.step HBI.out (fun _ => bad_a HVA.out)⟩⟩
            intro q hq
            rcases List.mem_cons.1 hq with rfl | hq
            · simp <;> omega
            · simp at hq
              have := (HSV.out.own hq).1
              simp
              omega
          | true =>
            obtain ⟨z, hz5⟩ : ∃ z, IntKind.u64.wrap (a + n) = z := ⟨_, rfl⟩
            have HZ5 := Lib.hid hz5
            gi_upto_region 11 with fail
            refine wpIn_named ?_
            intro wq hwq
            have HFq := Lib.hid (show Fr [] W wq from by rw [← hwq]; repeat' (first | (with_reducible exact Fr.refl _ _) | (with_reducible refine Fr.drew ?_) | (with_reducible refine Fr.drN ?_ _) | (with_reducible refine Fr.alloc ?_ _) | (with_reducible refine Fr.set ?_ ?_ _) | (left; simp; done) | (right; simp; done) | (right; simp; omega)))
            have HCq := Lib.hid (show Blk wq W.heap.size #[.string s, .int .u64 a] 38 from by rw [← hwq]; first | (exact Blk.new _ _ _) | (repeat' (first | ((with_reducible refine Blk.mk0 _ _ _ _ ?_); first | (simp; done) | (simp; omega)) | (with_reducible refine Blk.drew ?_) | (with_reducible refine Blk.drN ?_ _) | (with_reducible refine Blk.set ?_ _ _) | (with_reducible refine Blk.other ?_ ?_ _) | (with_reducible refine Blk.alloc ?_ _) | (simp; done) | (simp; omega))))
            clear hwq xc xl
            have bq1 := HFq.out.cl HB1.out
            have xq := (HFq.out.blk HBX.out (by simp)).cell
            have xlq := (HFq.out.blk HBX.out (by simp)).lt
            have cq := HCq.out.cell
            have cfq := HCq.out.free
            have clq := HCq.out.lt
            refine round_tail 9 (by kernel_rfl) (by kernel_rfl) (fun ⟨_, _, h⟩ => h) (by kernel_rfl) ?_
            simp only [List.take_succ_cons, List.take_zero, List.drop_succ_cons, List.drop_zero]
            repeat still_step
            try refine wpStill_nil ?_
            go_wp2
            clear hz5
            gi_upto_region 19 with fail
            refine round_list (by kernel_rfl) (fun ⟨_, _, h⟩ => h) ?_
            refine wpList_named ?_
            intro wx hwx
            have HFx := Lib.hid (show Fr [] W wx from by rw [← hwx]; repeat' (first | (with_reducible exact HFq.out) | (with_reducible refine Fr.drew ?_) | (with_reducible refine Fr.drN ?_ _) | (with_reducible refine Fr.alloc ?_ _) | (with_reducible refine Fr.set ?_ ?_ _) | (left; simp; done) | (right; simp; done) | (right; simp; omega)))
            have HCx := Lib.hid (show Blk wx W.heap.size #[.string s, .int .u64 (z)] 38 from by rw [← hwx]; exact Blk.cast (cs := ((#[.string s, .int .u64 a] : Array Value).setIfInBounds 1 (.int .u64 (z)))) (by repeat' (first | (with_reducible exact HCq.out) | (with_reducible refine Blk.drew ?_) | (with_reducible refine Blk.drN ?_ _) | (with_reducible refine Blk.set ?_ _ _) | (with_reducible refine Blk.other ?_ ?_ _) | (with_reducible refine Blk.alloc ?_ _) | (simp; done) | (simp; omega))) (by simp))
            clear hwx
            have hd5 : (turnF true) s (valV A B (s, some i, some k)).2.1 (valV A B (s, some i, some k)).2.2 = some z := by rw [HVA.out, HVB.out]; simp [turnF, HZ5.out]
            have HD5 := Lib.hid hd5
            clear hd5
            have cx := HCx.out.cell
            have cl := HCx.out.lt
            have vcx := (HFx.out.blk HV.out (by simp)).cell
            have vlx := (HFx.out.blk HV.out (by simp)).lt
            clear vc vf vl  q5c q5l
            go_wp2_with (at_builtin; (refine wpList_append_svo _ rfl (.tmp 83) (.tmp 85) 24 rfl 38 i0 (ctV ByteArray.empty 0) 2 24 Try.underlying24 hi0 hz0 hz1 hz2 rfl (by decide) W0.heap.size v _ _ rfl ((HSV.out.fr0 HFx.out).al _) ?_ ⟨wx.heap.size, 0, none⟩ 1 1 [.string s, .int .u64 (z)] rfl rfl (cells_of_blk (t := 38) ?_) ?_ ?_ ?_ ?_); (focus (have := HFx.out.size; simp; omega)); (focus (exact Blk.new _ _ _)); (focus (simp [Value.oneCell'])); (focus (unfold maxLen; omega)); (focus omega); intro v6 w6 hS6 hF6 hO6; have hb6 := hF6.blk ((HFx.out.blk HV.out (by simp)).alloc _) (by intro hm; simp at hm; have := (HSV.out.own hm).1; omega); have c6 := hb6.cell; have f6 := hb6.free; have l6 := hb6.lt; have HS6 := Lib.hid hS6; have HF6 := Lib.hid hF6; obtain ⟨a6, q6, e6⟩ := hS6.at_; subst e6; clear hS6 hF6 hO6 hb6 cx cl vcx vlx)
            gi_wp2
            have hst := OI.step (by decide) hBo HV.out HSV.out HN.out HF.out (HFx.out.alloc _) HS6.out HF6.out (by decide)
            refine ⟨hst.2.1, KB.of_fr hst.2.2 ?_, ⟨OI.cast hst.1 (by rw [outZ_some HD5.out]; simp) (by rw [outZ_some HD5.out, flat2_app]; rfl), GoodTo.step HBI.out (fun _ => bad_a HVA.out)⟩⟩
            intro q hq
            rcases List.mem_cons.1 hq with rfl | hq
            · simp <;> omega
            · simp at hq
              have := (HSV.out.own hq).1
              simp
              omega
        | false =>
          obtain ⟨z, hz5⟩ : ∃ z, IntKind.u64.wrap (a + n) = z := ⟨_, rfl⟩
          have HZ5 := Lib.hid hz5
          gi_upto_region 11 with fail
          refine wpIn_named ?_
          intro wq hwq
          have HFq := Lib.hid (show Fr [] W wq from by rw [← hwq]; repeat' (first | (with_reducible exact Fr.refl _ _) | (with_reducible refine Fr.drew ?_) | (with_reducible refine Fr.drN ?_ _) | (with_reducible refine Fr.alloc ?_ _) | (with_reducible refine Fr.set ?_ ?_ _) | (left; simp; done) | (right; simp; done) | (right; simp; omega)))
          have HCq := Lib.hid (show Blk wq W.heap.size #[.string s, .int .u64 a] 38 from by rw [← hwq]; first | (exact Blk.new _ _ _) | (repeat' (first | ((with_reducible refine Blk.mk0 _ _ _ _ ?_); first | (simp; done) | (simp; omega)) | (with_reducible refine Blk.drew ?_) | (with_reducible refine Blk.drN ?_ _) | (with_reducible refine Blk.set ?_ _ _) | (with_reducible refine Blk.other ?_ ?_ _) | (with_reducible refine Blk.alloc ?_ _) | (simp; done) | (simp; omega))))
          clear hwq xc xl
          have bq1 := HFq.out.cl HB1.out
          have xq := (HFq.out.blk HBX.out (by simp)).cell
          have xlq := (HFq.out.blk HBX.out (by simp)).lt
          have cq := HCq.out.cell
          have cfq := HCq.out.free
          have clq := HCq.out.lt
          refine round_tail 9 (by kernel_rfl) (by kernel_rfl) (fun ⟨_, _, h⟩ => h) (by kernel_rfl) ?_
          simp only [List.take_succ_cons, List.take_zero, List.drop_succ_cons, List.drop_zero]
          repeat still_step
          try refine wpStill_nil ?_
          go_wp2
          clear hz5
          gi_upto_region 19 with fail
          refine round_list (by kernel_rfl) (fun ⟨_, _, h⟩ => h) ?_
          refine wpList_named ?_
          intro wx hwx
          have HFx := Lib.hid (show Fr [] W wx from by rw [← hwx]; repeat' (first | (with_reducible exact HFq.out) | (with_reducible refine Fr.drew ?_) | (with_reducible refine Fr.drN ?_ _) | (with_reducible refine Fr.alloc ?_ _) | (with_reducible refine Fr.set ?_ ?_ _) | (left; simp; done) | (right; simp; done) | (right; simp; omega)))
          have HCx := Lib.hid (show Blk wx W.heap.size #[.string s, .int .u64 (z)] 38 from by rw [← hwx]; exact Blk.cast (cs := ((#[.string s, .int .u64 a] : Array Value).setIfInBounds 1 (.int .u64 (z)))) (by repeat' (first | (with_reducible exact HCq.out) | (with_reducible refine Blk.drew ?_) | (with_reducible refine Blk.drN ?_ _) | (with_reducible refine Blk.set ?_ _ _) | (with_reducible refine Blk.other ?_ ?_ _) | (with_reducible refine Blk.alloc ?_ _) | (simp; done) | (simp; omega))) (by simp))
          clear hwx
          have hd5 : (turnF adds) s (valV A B (s, some i, some k)).2.1 (valV A B (s, some i, some k)).2.2 = some z := by rw [HVA.out, HVB.out]; simp [turnF, HZ5.out]
          have HD5 := Lib.hid hd5
          clear hd5
          have cx := HCx.out.cell
          have cl := HCx.out.lt
          have vcx := (HFx.out.blk HV.out (by simp)).cell
          have vlx := (HFx.out.blk HV.out (by simp)).lt
          clear vc vf vl  q5c q5l
          go_wp2_with (at_builtin; (refine wpList_append_svo _ rfl (.tmp 83) (.tmp 85) 24 rfl 38 i0 (ctV ByteArray.empty 0) 2 24 Try.underlying24 hi0 hz0 hz1 hz2 rfl (by decide) W0.heap.size v _ _ rfl ((HSV.out.fr0 HFx.out).al _) ?_ ⟨wx.heap.size, 0, none⟩ 1 1 [.string s, .int .u64 (z)] rfl rfl (cells_of_blk (t := 38) ?_) ?_ ?_ ?_ ?_); (focus (have := HFx.out.size; simp; omega)); (focus (exact Blk.new _ _ _)); (focus (simp [Value.oneCell'])); (focus (unfold maxLen; omega)); (focus omega); intro v6 w6 hS6 hF6 hO6; have hb6 := hF6.blk ((HFx.out.blk HV.out (by simp)).alloc _) (by intro hm; simp at hm; have := (HSV.out.own hm).1; omega); have c6 := hb6.cell; have f6 := hb6.free; have l6 := hb6.lt; have HS6 := Lib.hid hS6; have HF6 := Lib.hid hF6; obtain ⟨a6, q6, e6⟩ := hS6.at_; subst e6; clear hS6 hF6 hO6 hb6 cx cl vcx vlx)
          gi_wp2
          have hst := OI.step (by decide) hBo HV.out HSV.out HN.out HF.out (HFx.out.alloc _) HS6.out HF6.out (by decide)
          refine ⟨hst.2.1, KB.of_fr hst.2.2 ?_, ⟨OI.cast hst.1 (by rw [outZ_some HD5.out]; simp) (by rw [outZ_some HD5.out, flat2_app]; rfl), GoodTo.step HBI.out (fun _ => bad_a HVA.out)⟩⟩
          intro q hq
          rcases List.mem_cons.1 hq with rfl | hq
          · simp <;> omega
          · simp at hq
            have := (HSV.out.own hq).1
            simp
            omega
  case done =>
    rintro D ys W hD hys hI hK
    obtain ⟨⟨⟨v, hv, hsv, hnil⟩, hf⟩, hbi⟩ := hI
    rw [outZ_all (turnF adds) hys] at hsv hnil
    obtain ⟨va, vq, ev⟩ := hsv.at_
    subst ev
    have hnil5 := hnil
    have HN5 := Lib.hid hnil
    have HSV := Lib.hid hsv
    have HF := Lib.hid hf
    have HV := Lib.hid hv
    have vc := hv.cell
    have vl := hv.lt
    have hml := made_len (turnF adds) A B
    have HKD := Lib.hid hK
    have hDs : w.heap.size ≤ D := by omega
    have hFw : Fr [] w W := ((HF0.out.mono (T := [w2.heap.size]) (by simp)).trans HF.out).weaken (by intro k hk; simp at hk; subst hk; right; omega)
    have hD2 : W0.heap.size ≤ D := hD
    have HFD := Lib.hid (show Fr [] w (W.putObj D (.deferred none)) from ((hFw.mono (T := [D]) (by simp)).trans (Fr.of_grownBy (grownBy_putObj' W D (.deferred none)))).weaken (by intro k hk; simp at hk; subst hk; right; omega))
    have HSD := Lib.hid (SV.own_ HSV.out hnil5 (by decide) (grownBy_putObj' W D (.deferred none)) (fun r e => by cases e; exact ⟨_, HKD.out, rfl⟩))
    have hnb := bad_all hbi hys
    have HR := HRR.out
    rw [if_neg hnb] at HR
    have b6 := hf.blk K6.out (by simp; omega)
    have b7 := hf.blk K7.out (by simp; omega)
    have H6 := Lib.hid b6
    have H7 := Lib.hid b7
    have q6c := b6.cell
    have q6f := b6.free
    have q6l := b6.lt
    have q7c := b7.cell
    have q7f := b7.free
    have q7l := b7.lt
    have HFW := Lib.hid hFw
    clear hFw hv hsv hnil hnil5 hf hK hbi hnb b6 b7 RA RB b1 b2 b3 b4 bo hnA hnB hys
    by_cases hm : (made (turnF adds) A B).length ≤ 4096
    · have hmi : ¬ 4096 < ((made (turnF adds) A B).length : Int) := by omega
      have e : cutE (made (turnF adds) A B) = (made (turnF adds) A B, 0) := by unfold cutE; rw [if_pos hm]
      rw [e] at HR
      clear e HRR
      go_wp2
      refine bodyM_named ?_
      intro wy hwy
      have HFy := Lib.hid (show Fr [w.heap.size + 1, w.heap.size + 1 + 1] W wy from by rw [← hwy]; repeat' (first | (with_reducible exact Fr.refl _ _) | (with_reducible refine Fr.drew ?_) | (with_reducible refine Fr.drN ?_ _) | (with_reducible refine Fr.alloc ?_ _) | (with_reducible refine Fr.set ?_ ?_ _) | (left; simp; done) | (right; simp; done) | (right; simp; omega)))
      have HC6 := Lib.hid (show Blk wy (w.heap.size + 1) #[.slice va (made (turnF adds) A B).length vq] 24 from by rw [← hwy]; exact Blk.cast (cs := (#[.slice none 0 0] : Array Value).setIfInBounds 0 (.slice va (made (turnF adds) A B).length vq)) (by repeat' (first | (with_reducible exact H6.out) | (with_reducible refine Blk.drew ?_) | (with_reducible refine Blk.drN ?_ _) | (with_reducible refine Blk.set ?_ _ _) | (with_reducible refine Blk.other ?_ ?_ _) | (with_reducible refine Blk.alloc ?_ _) | (simp; done) | (simp; omega))) (by simp))
      have HC7 := Lib.hid (show Blk wy (w.heap.size + 1 + 1) #[.int .i64 0] 27 from by rw [← hwy]; exact Blk.cast (cs := (#[.int .i64 0] : Array Value).setIfInBounds 0 (.int .i64 0)) (by repeat' (first | (with_reducible exact H7.out) | (with_reducible refine Blk.drew ?_) | (with_reducible refine Blk.drN ?_ _) | (with_reducible refine Blk.set ?_ _ _) | (with_reducible refine Blk.other ?_ ?_ _) | (with_reducible refine Blk.alloc ?_ _) | (simp; done) | (simp; omega))) (by simp))
      clear hwy
      have hK2 : wy.heap[D]? = some (.deferred (some [])) := (HFy.out.block D (Array.getElem?_eq_some_iff.1 HKD.out).1 (by simp; omega)).trans HKD.out
      have FD := Fr.of_grownBy (grownBy_putObj' wy D (.deferred none))
      have c6 := (HC6.out.own_ (grownBy_putObj' wy D (.deferred none)) (fun r e => by cases e; exact ⟨_, hK2, rfl⟩)).cell 0
      have c7 := (HC7.out.own_ (grownBy_putObj' wy D (.deferred none)) (fun r e => by cases e; exact ⟨_, hK2, rfl⟩)).cell 0
      refine ⟨by simp, .inl ⟨_, _, rfl, run_takeDeferred hK2, ?_⟩⟩
      refine ⟨.tuple #[.slice va (made (turnF adds) A B).length vq, .int .i64 0], by simp [results, Try.results47, go_sem, c6, c7], ?_⟩
      rw [← HR]
      refine EPost.mk (((SV.own_ (HSV.out.fr HFy.out (fun g hg hm => by have := (HSV.out.own hg).1; simp at hm; omega)) HN5.out (by decide) (grownBy_putObj' wy D (.deferred none)) (fun r e => by cases e; exact ⟨_, hK2, rfl⟩)).base_le (by omega))) ?_
      exact ((HFW.out.mono (T := [w.heap.size + 1, w.heap.size + 1 + 1, D]) (by simp)).trans ((HFy.out.mono (by intro q hq; simp at hq; simp; omega)).trans (FD.mono (by intro q hq; simp at hq; simp [hq])))).weaken (by intro q hq; simp at hq; right; omega)
    · have hmi : 4096 < ((made (turnF adds) A B).length : Int) := by omega
      have e : cutE (made (turnF adds) A B) = ([], 3) := by unfold cutE; rw [if_neg hm]
      rw [e] at HR
      clear e HRR
      go_wp2
      refine bodyM_named ?_
      intro wy hwy
      have HFy := Lib.hid (show Fr [w.heap.size + 1, w.heap.size + 1 + 1] W wy from by rw [← hwy]; repeat' (first | (with_reducible exact Fr.refl _ _) | (with_reducible refine Fr.drew ?_) | (with_reducible refine Fr.drN ?_ _) | (with_reducible refine Fr.alloc ?_ _) | (with_reducible refine Fr.set ?_ ?_ _) | (left; simp; done) | (right; simp; done) | (right; simp; omega)))
      have HC6 := Lib.hid (show Blk wy (w.heap.size + 1) #[.slice none 0 0] 24 from by rw [← hwy]; exact Blk.cast (cs := (#[.slice none 0 0] : Array Value).setIfInBounds 0 (.slice none 0 0)) (by repeat' (first | (with_reducible exact H6.out) | (with_reducible refine Blk.drew ?_) | (with_reducible refine Blk.drN ?_ _) | (with_reducible refine Blk.set ?_ _ _) | (with_reducible refine Blk.other ?_ ?_ _) | (with_reducible refine Blk.alloc ?_ _) | (simp; done) | (simp; omega))) (by simp))
      have HC7 := Lib.hid (show Blk wy (w.heap.size + 1 + 1) #[.int .i64 3] 27 from by rw [← hwy]; exact Blk.cast (cs := (#[.int .i64 0] : Array Value).setIfInBounds 0 (.int .i64 3)) (by repeat' (first | (with_reducible exact H7.out) | (with_reducible refine Blk.drew ?_) | (with_reducible refine Blk.drN ?_ _) | (with_reducible refine Blk.set ?_ _ _) | (with_reducible refine Blk.other ?_ ?_ _) | (with_reducible refine Blk.alloc ?_ _) | (simp; done) | (simp; omega))) (by simp))
      clear hwy
      have hK2 : wy.heap[D]? = some (.deferred (some [])) := (HFy.out.block D (Array.getElem?_eq_some_iff.1 HKD.out).1 (by simp; omega)).trans HKD.out
      have FD := Fr.of_grownBy (grownBy_putObj' wy D (.deferred none))
      have c6 := (HC6.out.own_ (grownBy_putObj' wy D (.deferred none)) (fun r e => by cases e; exact ⟨_, hK2, rfl⟩)).cell 0
      have c7 := (HC7.out.own_ (grownBy_putObj' wy D (.deferred none)) (fun r e => by cases e; exact ⟨_, hK2, rfl⟩)).cell 0
      refine ⟨by simp, .inl ⟨_, _, rfl, run_takeDeferred hK2, ?_⟩⟩
      refine ⟨.tuple #[.slice none 0 0, .int .i64 3], by simp [results, Try.results47, go_sem, c6, c7], ?_⟩
      rw [← HR]
      refine EPost.mk (SV.nil _ _ _) ?_
      exact ((HFW.out.mono (T := [w.heap.size + 1, w.heap.size + 1 + 1, D]) (by simp)).trans ((HFy.out.mono (by intro q hq; simp at hq; simp; omega)).trans (FD.mono (by intro q hq; simp at hq; simp [hq])))).weaken (by intro q hq; simp at hq; right; omega)
  case stop =>
    rintro D c pre W hD _ ⟨⟨rfl, hbad⟩, hx⟩ hK
    unfold BadNow at hbad
    have HR := HRR.out
    rw [if_pos hbad] at HR
    have hFw : Fr [] w W := ((HF0.out.mono (T := [w2.heap.size, w.heap.size + 1, w.heap.size + 1 + 1]) (by simp)).trans hx.fr).weaken (by intro k hk; simp at hk; right; omega)
    have c6 := (hx.c6.own_ (grownBy_putObj' W D (.deferred none)) (fun r e => by cases e; exact ⟨_, hK, rfl⟩)).cell 0
    have c7 := (hx.c7.own_ (grownBy_putObj' W D (.deferred none)) (fun r e => by cases e; exact ⟨_, hK, rfl⟩)).cell 0
    have HKD := Lib.hid hK
    have HFW := Lib.hid hFw
    have HC6 := Lib.hid c6
    have HC7 := Lib.hid c7
    clear hK hFw c6 c7 hx K5 K6 K7 RA RB b1 b2 b3 b4 bo hnA hnB HRR
    gi_wp2
    refine ⟨by simp, .inl ⟨_, _, rfl, run_takeDeferred HKD.out, ?_⟩⟩
    refine ⟨.tuple #[.slice none 0 0, .int .i64 240], by simp [results, Try.results47, go_sem, HC6.out, HC7.out], ?_⟩
    rw [← HR]
    exact EPost.mk (SV.nil _ _ _) (((HFW.out.mono (T := [D]) (by simp)).trans (Fr.of_grownBy (grownBy_putObj' W D (.deferred none)))).weaken (by intro q hq; simp at hq; right; omega))
theorem turn_any (va vb : Value) (A : List Ct) (B : List Ch) (adds : Bool) (w : World) (hA : RC w va A) (hB : RH w vb B) (mA : A.length ≤ 9223372036854775806) (mB : B.length ≤ 9223372036854775806) (wb : WH B) :
    Calls Try.prog 47 #[va, vb, .bool adds] w (EPost 2 (turnE adds A B).1.length (flat2 (turnE adds A B).1) (turnE adds A B).2 w) := by
  by_cases h : rightC A = true ∧ rightH B = true
  · have e : turnE adds A B = if adds = false ∧ (zipR A B).any badZ = true then (([] : List Ct), (240 : Int)) else cutE (made (turnF adds) A B) := by unfold turnE; rw [if_pos h]
    rw [e]
    exact turn_yes va vb A B adds w hA hB (rightC_iff.1 h.1).2.2 (rightH_iff.1 h.2).2.2.2 h.1 h.2 wb
  · exact turn_no va vb A B adds w hA hB mA mB h
end Go.Proofs.Ytmilnhicmeblhaa
