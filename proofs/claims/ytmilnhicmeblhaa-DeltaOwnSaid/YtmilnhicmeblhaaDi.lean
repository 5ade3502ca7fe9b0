/- The package delta: Diff. -/
import Derived.Test.YtmilnhicmeblhaaOi
import Derived.Test.YtmilnhicmeblhaaPm
import Derived.Sort.CutIn
namespace Go.Proofs.Ytmilnhicmeblhaa
open Go.RowKit Go.Shelf Go.Sort
set_option maxRecDepth 100000
set_option linter.unusedVariables false
set_option linter.unusedSimpArgs false
set_option maxHeartbeats 4000000
attribute [local go_sem] Oper.semAt_some
/-- What Diff, Apply, Add and Join leave. -/
def EPost (size : Nat) (n : Nat) (xs : List Value) (y : Int) (w : World) (e : Ending) (w' : World) : Prop :=
  ∃ v, e = .returned (.tuple #[v, .int .i64 y]) ∧ SV w' w.heap.size size v n xs ∧ Fr [] w w'
theorem EPost.mk {size n : Nat} {xs : List Value} {y : Int} {v : Value} {w w' : World} (h : SV w' w.heap.size size v n xs) (f : Fr [] w w') : EPost size n xs y w (.returned (.tuple #[v, .int .i64 y])) w' := ⟨v, rfl, h, f⟩
theorem infoC : (Try.prog.info? 38).map (fun i => (i.zero, i.size, i.bytes)) = some (some (ctV ByteArray.empty 0), 2, 24) := by kernel_rfl
theorem infoH : (Try.prog.info? 34).map (fun i => (i.zero, i.size, i.bytes)) = some (some (chV ByteArray.empty 0 false false), 4, 32) := by kernel_rfl
theorem cells_of_blk {w : World} {b : Nat} {cs : Array Value} {t : TypeId} (h : Blk w b cs t) (j : Nat) (u : Value) (hj : cs.toList[j]? = some u) : w.cell? ((⟨b, 0, none⟩ : Addr).add j) = some u := by
  rw [add_none, Nat.zero_add, h.cell]; simpa using hj
theorem flat2_app (a b : List Ct) : flat2 (a ++ b) = flat2 a ++ flat2 b := by simp [flat2]
theorem flat4_app (a b : List Ch) : flat4 (a ++ b) = flat4 a ++ flat4 b := by simp [flat4]
theorem flat2_len (l : List Ct) : (flat2 l).length = l.length * 2 := flatMap_len (f := fun a : Ct => [Value.string a.1, .int .u64 a.2]) (fun _ => rfl) l
theorem flat4_len (l : List Ch) : (flat4 l).length = l.length * 4 := flatMap_len (f := fun a : Ch => [Value.string a.1, .int .u64 a.2.1, .bool a.2.2.1, .bool a.2.2.2]) (fun _ => rfl) l
/-- What has come of a part of the pairs. -/
def outZ {α β γ : Type} {A : List (ByteArray × α)} {B : List (ByteArray × β)} (f : ByteArray → Option α → Option β → Option γ) (pre : List (ItZ A B)) : List (ByteArray × γ) := (pre.map (fun x => valV A B x.1)).filterMap (rule f)
theorem outZ_all {α β γ : Type} {A : List (ByteArray × α)} {B : List (ByteArray × β)} (f : ByteArray → Option α → Option β → Option γ) {ys : List (ItZ A B)} (h : ys.map (·.1) = zipP (A.map (·.1)) (B.map (·.1)) 0 0) : outZ f ys = made f A B := by
  unfold outZ made
  have e : ys.map (fun x => valV A B x.1) = (ys.map (·.1)).map (valV A B) := by rw [List.map_map]; rfl
  rw [e, h, zipP_val]
theorem outZ_some {α β γ : Type} {A : List (ByteArray × α)} {B : List (ByteArray × β)} {f : ByteArray → Option α → Option β → Option γ} {pre : List (ItZ A B)} {x : ItZ A B} {c : γ} (h : f x.1.1 (valV A B x.1).2.1 (valV A B x.1).2.2 = some c) : outZ f (pre ++ [x]) = outZ f pre ++ [(x.1.1, c)] := by
  unfold outZ
  rw [List.map_append, List.filterMap_append]
  congr 1
  simp only [List.map_cons, List.map_nil, List.filterMap_cons, List.filterMap_nil]
  unfold rule
  rw [show (valV A B x.1).1 = x.1.1 from rfl, h]
  rfl
theorem outZ_none {α β γ : Type} {A : List (ByteArray × α)} {B : List (ByteArray × β)} {f : ByteArray → Option α → Option β → Option γ} {pre : List (ItZ A B)} {x : ItZ A B} (h : f x.1.1 (valV A B x.1).2.1 (valV A B x.1).2.2 = none) : outZ f (pre ++ [x]) = outZ f pre := by
  unfold outZ
  rw [List.map_append, List.filterMap_append]
  simp only [List.map_cons, List.map_nil, List.filterMap_cons, List.filterMap_nil]
  unfold rule
  rw [show (valV A B x.1).1 = x.1.1 from rfl, h]
  simp
theorem outZ_len {α β γ : Type} {A : List (ByteArray × α)} {B : List (ByteArray × β)} (f : ByteArray → Option α → Option β → Option γ) (pre : List (ItZ A B)) : (outZ f pre).length ≤ pre.length := by
  unfold outZ
  exact Nat.le_trans (List.length_filterMap_le _ _) (by simp)
theorem val_a {α β : Type} {A : List (ByteArray × α)} {B : List (ByteArray × β)} {x : It} {i : Nat} {a : α} (h : x.2.1 = some i) (ha : A[i]? = some (x.1, a)) : (valV A B x).2.1 = some a := by simp [valV, h, ha]
theorem val_b {α β : Type} {A : List (ByteArray × α)} {B : List (ByteArray × β)} {x : It} {i : Nat} {b : β} (h : x.2.2 = some i) (hb : B[i]? = some (x.1, b)) : (valV A B x).2.2 = some b := by simp [valV, h, hb]
theorem val_a0 {α β : Type} {A : List (ByteArray × α)} {B : List (ByteArray × β)} {x : It} (h : x.2.1 = none) : (valV A B x).2.1 = none := by simp [valV, h]
theorem val_b0 {α β : Type} {A : List (ByteArray × α)} {B : List (ByteArray × β)} {x : It} (h : x.2.2 = none) : (valV A B x).2.2 = none := by simp [valV, h]
theorem adr_ptr (v : Value) (s : Nat) (o : Option Nat) : ∃ p, adr v s o = .pointer p := by
  cases o with
  | none => exact ⟨_, rfl⟩
  | some i =>
    cases v with
    | slice a n c => cases a with
      | none => exact ⟨_, rfl⟩
      | some a => exact ⟨_, rfl⟩
    | _ => exact ⟨_, rfl⟩
theorem wpList_named {P : Program} {ops : Array Oper} {Q : Exit → Act → World → Prop} {l : List Oper} {a : Act} {w : World} (h : ∀ wx, w = wx → wpList P ops Q l a wx) : wpList P ops Q l a w := h w rfl
theorem wpIn_named {F : Fence} {n : Nat} {P : Program} {c : Code} {Q : Exit → Act → World → Prop} {a : Act} {w : World} (h : ∀ wx, w = wx → c.wpIn F n P Q a wx) : c.wpIn F n P Q a w := h w rfl
theorem ownPost_named {α : Type} {B : Nat} {Kp : World → World → Prop} {I : List α → World → Prop} {Ix : Code → List α → World → Prop} {xs : List α} {W : World} {e : Exit} {a : Act} {w : World} (h : ∀ wx, w = wx → ownPostG B Kp I Ix xs W e a wx) : ownPostG B Kp I Ix xs W e a w := h w rfl
theorem notOut {α : Type} {B : Nat} {Kp : World → World → Prop} {I : List α → World → Prop} {Ix : Code → List α → World → Prop} {xs : List α} {W : World} : ¬ LetsOut (ownPostG B Kp I Ix xs W) := by
  rintro ⟨a, w, h⟩
  exact h
theorem diff_no (va vb : Value) (A B : List Ct) (w : World) (hA : RC w va A) (hB : RC w vb B) (mA : A.length ≤ 9223372036854775806) (mB : B.length ≤ 9223372036854775806) (h : ¬ (rightC A = true ∧ rightC B = true)) :
    Calls Try.prog 13 #[va, vb] w (EPost 4 (diffE A B).1.length (flat4 (diffE A B).1) (diffE A B).2 w) := by
  have e : diffE A B = ([], 240) := by unfold diffE; rw [if_neg h]
  rw [e]
  obtain ⟨aa, ac, ea⟩ := hA.at_
  obtain ⟨ba, bc, eb⟩ := hB.at_
  subst ea eb
  have HA := Lib.hid hA
  have HB := Lib.hid hB
  clear hA hB e
  cases hra : rightC A with
  | false =>
    refine (callsIn_wide (n := 4)).1 (callsIn_of_wp_marks Try.func13 rfl trivial ?_ rfl)
    simp only [Try.ntmps13, List.size_toArray, List.length_cons, List.length_nil, Nat.reduceAdd, Nat.reduceSub, Array.replicate_succ, Array.replicate_zero, List.push_toArray, List.append_toArray, List.nil_append, List.cons_append]
    refine (wpIn_wide (n := 4)).2 ?_
    go_wp2_with ((go_at_call 14); (with_reducible refine (right_any _ A _ HA.out mA).mono ?_); rw [hra]; rintro e w1 ⟨rfl, hF1⟩)
    refine ⟨.tuple #[.slice none 0 0, .int .i64 240], by simp [results, Try.results13, go_sem], ?_⟩
    exact EPost.mk (SV.nil _ _ _) hF1
  | true =>
    have hrb : rightC B = false := by
      cases hb : rightC B with
      | false => rfl
      | true => exact absurd ⟨hra, hb⟩ h
    clear h
    refine (callsIn_wide (n := 4)).1 (callsIn_of_wp_marks Try.func13 rfl trivial ?_ rfl)
    simp only [Try.ntmps13, List.size_toArray, List.length_cons, List.length_nil, Nat.reduceAdd, Nat.reduceSub, Array.replicate_succ, Array.replicate_zero, List.push_toArray, List.append_toArray, List.nil_append, List.cons_append]
    refine (wpIn_wide (n := 4)).2 ?_
    go_wp2_with (first | ((go_at_call 14); (with_reducible refine (right_any _ A _ HA.out mA).mono ?_); rw [hra]; rintro e w1 ⟨rfl, hF1⟩) | ((go_at_call 14); (with_reducible refine (right_any _ B _ (HB.out.fr0 hF1) mB).mono ?_); rw [hrb]; rintro e w2 ⟨rfl, hF2⟩))
    refine ⟨.tuple #[.slice none 0 0, .int .i64 240], by simp [results, Try.results13, go_sem], ?_⟩
    exact EPost.mk (SV.nil _ _ _) (hF1.trans hF2)
theorem diff_yes (va vb : Value) (A B : List Ct) (w : World) (hA : RC w va A) (hB : RC w vb B) (mA : A.length ≤ 4096) (mB : B.length ≤ 4096) (hra : rightC A = true) (hrb : rightC B = true) (wa : WC A) (wb : WC B) :
    Calls Try.prog 13 #[va, vb] w (EPost 4 (cutE (made diffF A B)).1.length (flat4 (cutE (made diffF A B)).1) (cutE (made diffF A B)).2 w) := by
  obtain ⟨aa, ac, ea⟩ := hA.at_
  obtain ⟨ba, bc, eb⟩ := hB.at_
  subst ea eb
  have HA := Lib.hid hA
  have HB := Lib.hid hB
  clear hA hB
  obtain ⟨i0, hi0, hz0, hz1, hz2⟩ := info_parts infoH
  refine (callsIn_wide (n := 4)).1 (callsIn_of_wp_marks Try.func13 rfl trivial ?_ rfl)
  simp only [Try.ntmps13, List.size_toArray, List.length_cons, List.length_nil, Nat.reduceAdd, Nat.reduceSub, Array.replicate_succ, Array.replicate_zero, List.push_toArray, List.append_toArray, List.nil_append, List.cons_append]
  refine (wpIn_wide (n := 4)).2 ?_
  go_wp2_with (first | ((go_at_call 14); (with_reducible refine (right_any _ A _ HA.out (by omega)).mono ?_); rw [hra]; rintro e w1 ⟨rfl, hF1⟩) | ((go_at_call 14); (with_reducible refine (right_any _ B _ (HB.out.fr0 hF1) (by omega)).mono ?_); rw [hrb]; rintro e w2 ⟨rfl, hF2⟩) | ((go_at_call 44); (with_reducible refine (pairsCC_any _ _ _ _ _ _ _).mono ?_); rintro e w3 ⟨rfl, hw3⟩))
  clear hw3 w3
  generalize hW0 : ((((w2.alloc (.cells #[.slice none 0 0] 26)).alloc (.cells #[.slice aa A.length ac] 24)).alloc (.cells #[.slice ba B.length bc] 24)).alloc (.cells #[.func (.func 45) #[] #[]] 91)).alloc (.cells #[.func (.func 45) #[] #[]] 91) = W0
  have hz : W0.heap.size = w2.heap.size + 5 := by rw [← hW0]; simp
  have bo : Blk W0 w2.heap.size #[.slice none 0 0] 26 := by rw [← hW0]; exact ((((Blk.new _ _ _).alloc _).alloc _).alloc _).alloc _
  have b1 : Blk W0 (w2.heap.size + 1) #[.slice aa A.length ac] 24 := by rw [← hW0]; exact (((Blk.mk0 _ _ _ _ (by simp)).alloc _).alloc _).alloc _
  have b2 : Blk W0 (w2.heap.size + 1 + 1) #[.slice ba B.length bc] 24 := by rw [← hW0]; exact ((Blk.mk0 _ _ _ _ (by simp)).alloc _).alloc _
  have b3 : Blk W0 (w2.heap.size + 1 + 2) #[.func (.func 45) #[] #[]] 91 := by rw [← hW0]; exact (Blk.mk0 _ _ _ _ (by simp)).alloc _
  have b4 : Blk W0 (w2.heap.size + 1 + 3) #[.func (.func 45) #[] #[]] 91 := by rw [← hW0]; exact Blk.mk0 _ _ _ _ (by simp)
  have F0 : Fr [] w W0 := by rw [← hW0]; exact ((((((hF1.trans hF2).alloc _).alloc _).alloc _).alloc _).alloc _)
  have hws : w.heap.size ≤ w2.heap.size := (hF1.trans hF2).size
  have hnA : 0 < A.length → ∀ g, (Value.slice aa A.length ac).ownBlock = some g → g < w2.heap.size := fun h g hg => Nat.lt_of_lt_of_le (HA.out.own h hg) hws
  have hnB : 0 < B.length → ∀ g, (Value.slice ba B.length bc).ownBlock = some g → g < w2.heap.size := fun h g hg => Nat.lt_of_lt_of_le (HB.out.own h hg) hws
  have RA := Lib.hid (HA.out.fr0 F0)
  have RB := Lib.hid (HB.out.fr0 F0)
  have HF0 := Lib.hid F0
  clear hW0 HA HB hF1 hF2 F0
  refine (wpIn_wide (n := 4)).1 ?_
  refine wpIn_rangeFunc_ownH rfl (by decide) (gf := 66) (lb := #[.pointer (some ⟨w2.heap.size + 1, 0, none⟩), .pointer (some ⟨w2.heap.size + 1 + 1, 0, none⟩), .pointer (some ⟨w2.heap.size + 1 + 2, 0, none⟩), .pointer (some ⟨w2.heap.size + 1 + 3, 0, none⟩)]) rfl trivial
    (enters_of Try.func66 (by kernel_rfl) rfl)
    (pairsCC_stops 3 (w2.heap.size + 1) (w2.heap.size + 1 + 1) (w2.heap.size + 1 + 2) (w2.heap.size + 1 + 3) w2.heap.size A B _ _ W0 (by omega) RA.out RB.out b1 b2 b3 b4 hnA hnB) KB.trans (KB.put (by omega) (by simp; omega)) (Below.refl _ _) (fun _ => rfl)
    (fun (pre : List (ItZ A B)) W => OI W0 w2.heap.size 26 4 (outZ diffF pre).length (flat4 (outZ diffF pre)) W) (fun _ _ _ => False) (OI.own (by decide) _ _) (fun _ _ _ _ _ hs _ _ => hs)
    ⟨⟨_, bo, SV.nil _ _ _, .inl rfl⟩, Fr.refl _ _⟩
    (fun (x : ItZ A B) a' W => ∃ Bx, W0.heap.size ≤ Bx ∧ Blk W Bx #[adr (.slice aa A.length ac) 2 x.1.2.1, adr (.slice ba B.length bc) 2 x.1.2.2] 94 ∧ a' = { tmps := #[.slice aa A.length ac, .slice ba B.length bc, undef, undef, .slice none 0 0, .int .i64 0, .pointer (some ⟨w2.heap.size, 0, none⟩), .string x.1.1, .pointer (some ⟨Bx, 0, none⟩), undef, .slice aa A.length ac, .bool true, .bool false, .bool false, .slice ba B.length bc, .bool true, .bool false, .bool false, .slice aa A.length ac, .slice ba B.length bc, .func (.func 66) #[] #[.pointer (some ⟨w2.heap.size + 1, 0, none⟩), .pointer (some ⟨w2.heap.size + 1 + 1, 0, none⟩), .pointer (some ⟨w2.heap.size + 1 + 2, 0, none⟩), .pointer (some ⟨w2.heap.size + 1 + 3, 0, none⟩)], .string x.1.1, .agg #[adr (.slice aa A.length ac) 2 x.1.2.1, adr (.slice ba B.length bc) 2 x.1.2.2], undef, undef, undef, undef, undef, undef, undef, undef, undef, undef, undef, undef, undef, undef, undef, undef, undef, undef, undef, undef, undef, undef, undef, undef, undef, undef, undef, undef, undef, undef, undef, undef, undef, undef, undef, undef, undef, undef, undef, undef, undef, undef, undef, undef, undef, undef, undef, undef, undef, undef, undef, undef, undef, undef, undef, undef, undef, undef, undef, undef, undef, undef, undef, undef, undef, undef, undef, undef, undef, undef, undef, undef, undef, undef, undef], defers := [] })
    (fun x a' _ W W' row hs hg hr => by obtain ⟨Bx, h1, h2, h3⟩ := hs; exact ⟨Bx, h1, h2.own_ hg (fun r e => (hr r e).2), h3⟩) ?assign ?body ?done ?stop
  case assign =>
    intro l pre x W K hI hK
    have hsz := hI.fr.size
    obtain ⟨p1, hp1⟩ := adr_ptr (.slice aa A.length ac) 2 x.1.2.1
    obtain ⟨p2, hp2⟩ := adr_ptr (.slice ba B.length bc) 2 x.1.2.2
    simp only [hp1, hp2] at hK ⊢
    clear hp1 hp2
    gi_wp2
    refine hK _ _ (KeepsFrom.of_fr ((Fr.refl [] W).alloc _) (by simp)) (KB.of_fr ((Fr.refl [] W).alloc _) (by simp)) (OI.own (by decide) _ _ _ _ _ none hI (World.grownBy_alloc W _ none) (fun r e => by cases e)) ⟨W.heap.size, hsz, Blk.new _ _ _, rfl⟩
  case body =>
    rintro l pre x a' W hl ⟨r, hr⟩ hI ⟨Bx, hBx, bX, rfl⟩ hlt
    obtain ⟨⟨v, hv, hsv, hnil⟩, hf⟩ := hI
    have hol := outZ_len diffF pre
    have hBo : w2.heap.size < W0.heap.size := by omega
    have hsz := hf.size
    have RAW := Lib.hid (RA.out.frp hf (fun g hg h0 hm => by simp at hm; have := hnA h0 g hg; omega))
    have RBW := Lib.hid (RB.out.frp hf (fun g hg h0 hm => by simp at hm; have := hnB h0 g hg; omega))
    have HV := Lib.hid hv
    have HSV := Lib.hid hsv
    have HN := Lib.hid hnil
    have HF := Lib.hid hf
    have vc := hv.cell
    have vf := hv.free
    have vl := hv.lt
    clear hv hsv hnil hf hr hl hnA hnB b1 b2 b3 b4 bo RA RB
    have hat := x.at_
    obtain ⟨⟨s, oa, ob⟩, hx⟩ := x
    simp only at hat bX ⊢
    rcases hat with ⟨i, a, e1, e2, hi⟩ | ⟨k, b, e1, e2, hk⟩ | ⟨i, k, a, b, e1, e2, hi, hk⟩
    · subst e1 e2
      have hil := (List.getElem?_eq_some_iff.1 hi).1
      obtain ⟨g, o, c, he, g1, g2, g3, g4⟩ := RAW.out.cells (by omega)
      simp only [Value.slice.injEq] at he
      obtain ⟨rfl, -, rfl⟩ := he
      have ak0 := g4 (i * 2) _ (flat2_get A i _ hi).1
      have ak1 := g4 (i * 2 + 1) _ (flat2_get A i _ hi).2
      rw [← Nat.add_assoc] at ak1
      simp only [adr, add_none] at bX ak0 ak1 ⊢
      have xc := bX.cell
      have xl := bX.lt
      clear g4 bX
      gi_upto_region 18 with fail
      refine round_list (by kernel_rfl) (fun ⟨_, _, h⟩ => h) ?_
      refine wpList_named ?_
      intro wx hwx
      have HFx := Lib.hid (show Fr [] W wx from by rw [← hwx]; repeat' (first | (with_reducible exact Fr.refl _ _) | (with_reducible refine Fr.drew ?_) | (with_reducible refine Fr.drN ?_ _) | (with_reducible refine Fr.alloc ?_ _) | (with_reducible refine Fr.set ?_ ?_ _) | (left; simp; done) | (right; simp; done) | (right; simp; omega)))
      have HCx := Lib.hid (show Blk wx W.heap.size #[.string s, .int .u64 (0), .bool false, .bool true] 34 from by rw [← hwx]; exact Blk.new _ _ _)
      clear hwx
      have hd5 : diffF s (valV A B (s, some i, none)).2.1 (valV A B (s, some i, none)).2.2 = some (0, false, true) := by rw [val_a (A := A) (B := B) (x := (s, some i, none)) rfl hi, val_b0 (A := A) (B := B) (x := (s, some i, none)) rfl]; rfl
      have HD5 := Lib.hid hd5
      clear hd5
      have cx := HCx.out.cell
      have cl := HCx.out.lt
      have vcx := (HFx.out.blk HV.out (by simp)).cell
      have vlx := (HFx.out.blk HV.out (by simp)).lt
      clear vc vf vl xc xl
      go_wp2_with (at_builtin; (refine wpList_append_svo _ rfl (.tmp 90) (.tmp 92) 26 rfl 34 i0 (chV ByteArray.empty 0 false false) 4 32 Try.underlying26 hi0 hz0 hz1 hz2 rfl (by decide) W0.heap.size v _ _ rfl ((HSV.out.fr0 HFx.out).al _) ?_ ⟨wx.heap.size, 0, none⟩ 1 1 [.string s, .int .u64 (0), .bool false, .bool true] rfl rfl (cells_of_blk (t := 34) ?_) ?_ ?_ ?_ ?_); (focus (have := HFx.out.size; simp; omega)); (focus (exact Blk.new _ _ _)); (focus (simp [Value.oneCell'])); (focus (unfold maxLen; omega)); (focus omega); intro v6 w6 hS6 hF6 hO6; have hb6 := hF6.blk ((HFx.out.blk HV.out (by simp)).alloc _) (by intro hm; simp at hm; have := (HSV.out.own hm).1; omega); have c6 := hb6.cell; have f6 := hb6.free; have l6 := hb6.lt; have HS6 := Lib.hid hS6; have HF6 := Lib.hid hF6; obtain ⟨a6, q6, e6⟩ := hS6.at_; subst e6; clear hS6 hF6 hO6 hb6 cx cl vcx vlx)
      gi_wp2
      have hst := OI.step (by decide) hBo HV.out HSV.out HN.out HF.out (HFx.out.alloc _) HS6.out HF6.out (by decide)
      refine ⟨hst.2.1, KB.of_fr hst.2.2 ?_, OI.cast hst.1 (by rw [outZ_some HD5.out]; simp) (by rw [outZ_some HD5.out, flat4_app]; rfl)⟩
      intro q hq
      rcases List.mem_cons.1 hq with rfl | hq
      · simp <;> omega
      · simp at hq
        have := (HSV.out.own hq).1
        simp
        omega
    · subst e1 e2
      have hkl := (List.getElem?_eq_some_iff.1 hk).1
      obtain ⟨g, o, c, he, g1, g2, g3, g4⟩ := RBW.out.cells (by omega)
      simp only [Value.slice.injEq] at he
      obtain ⟨rfl, -, rfl⟩ := he
      have bk0 := g4 (k * 2) _ (flat2_get B k _ hk).1
      have bk1 := g4 (k * 2 + 1) _ (flat2_get B k _ hk).2
      rw [← Nat.add_assoc] at bk1
      simp only [adr, add_none] at bX bk0 bk1 ⊢
      have xc := bX.cell
      have xl := bX.lt
      clear g4 bX
      gi_upto_region 18 with fail
      refine round_list (by kernel_rfl) (fun ⟨_, _, h⟩ => h) ?_
      refine wpList_named ?_
      intro wx hwx
      have HFx := Lib.hid (show Fr [] W wx from by rw [← hwx]; repeat' (first | (with_reducible exact Fr.refl _ _) | (with_reducible refine Fr.drew ?_) | (with_reducible refine Fr.drN ?_ _) | (with_reducible refine Fr.alloc ?_ _) | (with_reducible refine Fr.set ?_ ?_ _) | (left; simp; done) | (right; simp; done) | (right; simp; omega)))
      have HCx := Lib.hid (show Blk wx W.heap.size #[.string s, .int .u64 (b), .bool (b == 0), .bool false] 34 from by rw [← hwx]; exact Blk.new _ _ _)
      clear hwx
      have hd5 : diffF s (valV A B (s, none, some k)).2.1 (valV A B (s, none, some k)).2.2 = some (b, (b == 0), false) := by rw [val_a0 (A := A) (B := B) (x := (s, none, some k)) rfl, val_b (A := A) (B := B) (x := (s, none, some k)) rfl hk]; rfl
      have HD5 := Lib.hid hd5
      clear hd5
      have cx := HCx.out.cell
      have cl := HCx.out.lt
      have vcx := (HFx.out.blk HV.out (by simp)).cell
      have vlx := (HFx.out.blk HV.out (by simp)).lt
      clear vc vf vl xc xl
      go_wp2_with (at_builtin; (refine wpList_append_svo _ rfl (.tmp 90) (.tmp 92) 26 rfl 34 i0 (chV ByteArray.empty 0 false false) 4 32 Try.underlying26 hi0 hz0 hz1 hz2 rfl (by decide) W0.heap.size v _ _ rfl ((HSV.out.fr0 HFx.out).al _) ?_ ⟨wx.heap.size, 0, none⟩ 1 1 [.string s, .int .u64 (b), .bool (b == 0), .bool false] rfl rfl (cells_of_blk (t := 34) ?_) ?_ ?_ ?_ ?_); (focus (have := HFx.out.size; simp; omega)); (focus (exact Blk.new _ _ _)); (focus (simp [Value.oneCell'])); (focus (unfold maxLen; omega)); (focus omega); intro v6 w6 hS6 hF6 hO6; have hb6 := hF6.blk ((HFx.out.blk HV.out (by simp)).alloc _) (by intro hm; simp at hm; have := (HSV.out.own hm).1; omega); have c6 := hb6.cell; have f6 := hb6.free; have l6 := hb6.lt; have HS6 := Lib.hid hS6; have HF6 := Lib.hid hF6; obtain ⟨a6, q6, e6⟩ := hS6.at_; subst e6; clear hS6 hF6 hO6 hb6 cx cl vcx vlx)
      gi_wp2
      have hst := OI.step (by decide) hBo HV.out HSV.out HN.out HF.out (HFx.out.alloc _) HS6.out HF6.out (by decide)
      refine ⟨hst.2.1, KB.of_fr hst.2.2 ?_, OI.cast hst.1 (by rw [outZ_some HD5.out]; simp) (by rw [outZ_some HD5.out, flat4_app]; rfl)⟩
      intro q hq
      rcases List.mem_cons.1 hq with rfl | hq
      · simp <;> omega
      · simp at hq
        have := (HSV.out.own hq).1
        simp
        omega
    · subst e1 e2
      have hil := (List.getElem?_eq_some_iff.1 hi).1
      obtain ⟨g, o, c, he, g1, g2, g3, g4⟩ := RAW.out.cells (by omega)
      simp only [Value.slice.injEq] at he
      obtain ⟨rfl, -, rfl⟩ := he
      have ak0 := g4 (i * 2) _ (flat2_get A i _ hi).1
      have ak1 := g4 (i * 2 + 1) _ (flat2_get A i _ hi).2
      rw [← Nat.add_assoc] at ak1
      have hkl := (List.getElem?_eq_some_iff.1 hk).1
      obtain ⟨g', o', c', he, g1', g2', g3', g4'⟩ := RBW.out.cells (by omega)
      simp only [Value.slice.injEq] at he
      obtain ⟨rfl, -, rfl⟩ := he
      have bk0 := g4' (k * 2) _ (flat2_get B k _ hk).1
      have bk1 := g4' (k * 2 + 1) _ (flat2_get B k _ hk).2
      rw [← Nat.add_assoc] at bk1
      clear g4'
      simp only [adr, add_none] at bX ak0 ak1 bk0 bk1 ⊢
      have ia := wa _ (List.mem_of_getElem? hi)
      have ib := wb _ (List.mem_of_getElem? hk)
      unfold inW at ia ib
      simp only at ia ib
      have hva := val_a (A := A) (B := B) (x := (s, some i, some k)) rfl hi
      have hvb := val_b (A := A) (B := B) (x := (s, some i, some k)) rfl hk
      have HVA := Lib.hid hva
      have HVB := Lib.hid hvb
      have HBX := Lib.hid bX
      have HA0 := Lib.hid ak1
      have HB0 := Lib.hid bk1
      have xc := bX.cell
      have xl := bX.lt
      clear hva hvb g4 bX hi hk
      rcases Int.lt_trichotomy b a with hlt2 | heq | hgt
      · have hd : diffF s (valV A B (s, some i, some k)).2.1 (valV A B (s, some i, some k)).2.2 = some (b, true, false) := by
          rw [HVA.out, HVB.out]; simp only [diffF]; rw [if_pos hlt2]
        have HD := Lib.hid hd
        clear hd
        gi_upto_region 14 with fail
        refine round_quiet (by kernel_rfl) (by kernel_rfl) (fun ⟨_, _, h⟩ => h) (by kernel_rfl) ?_
        repeat (any_goals (first | go_big_quiet_step (fail) | quiet_step (fail)))
        refine wpQuiet_nil ?_
        intro _ hw'
        obtain ⟨nq, hw''⟩ := hw'
        subst hw''
        generalize hwq : World.drewN _ nq = wq14
        have HFq := Lib.hid (show Fr [] W wq14 from hwq ▸ ((Fr.refl [] W).alloc _).drN nq)
        have HCq := Lib.hid (show Blk wq14 W.heap.size #[.string s, .int .u64 0, .bool false, .bool false] 34 from hwq ▸ (Blk.new W _ _).drN nq)
        clear hwq
        have aq1 := HFq.out.cl HA0.out
        have bq1 := HFq.out.cl HB0.out
        have xq1 := (HFq.out.blk HBX.out (by simp)).cell
        have xlq1 := (HFq.out.blk HBX.out (by simp)).lt
        have cq1 := HCq.out.cell
        have cfq1 := HCq.out.free
        have clq1 := HCq.out.lt
        gi_upto_region 18 with fail
        refine round_list (by kernel_rfl) (fun ⟨_, _, h⟩ => h) ?_
        refine wpList_named ?_
        intro wx hwx
        have HFx := Lib.hid (show Fr [] W wx from by rw [← hwx]; repeat' (first | (with_reducible exact HFq.out) | (with_reducible refine Fr.drew ?_) | (with_reducible refine Fr.drN ?_ _) | (with_reducible refine Fr.alloc ?_ _) | (with_reducible refine Fr.set ?_ ?_ _) | (left; simp; done) | (right; simp; done) | (right; simp; omega)))
        have HCx := Lib.hid (show Blk wx W.heap.size #[.string s, .int .u64 (b), .bool true, .bool false] 34 from Blk.cast (cs := (((#[.string s, .int .u64 0, .bool false, .bool false]).setIfInBounds 1 (.int .u64 (b))).setIfInBounds 2 (.bool true))) (by rw [← hwx]; repeat' (first | (with_reducible exact HCq.out) | (with_reducible refine Blk.drew ?_) | (with_reducible refine Blk.drN ?_ _) | (with_reducible refine Blk.set ?_ _ _) | (with_reducible refine Blk.other ?_ ?_ _) | (with_reducible refine Blk.alloc ?_ _) | (simp; done) | (simp; omega))) (by simp))
        clear hwx
        have hd5 : diffF s (valV A B (s, some i, some k)).2.1 (valV A B (s, some i, some k)).2.2 = some (b, true, false) := HD.out
        have HD5 := Lib.hid hd5
        clear hd5
        have cx := HCx.out.cell
        have cl := HCx.out.lt
        have vcx := (HFx.out.blk HV.out (by simp)).cell
        have vlx := (HFx.out.blk HV.out (by simp)).lt
        clear vc vf vl xc xl
        go_wp2_with (at_builtin; (refine wpList_append_svo _ rfl (.tmp 90) (.tmp 92) 26 rfl 34 i0 (chV ByteArray.empty 0 false false) 4 32 Try.underlying26 hi0 hz0 hz1 hz2 rfl (by decide) W0.heap.size v _ _ rfl ((HSV.out.fr0 HFx.out).al _) ?_ ⟨wx.heap.size, 0, none⟩ 1 1 [.string s, .int .u64 (b), .bool true, .bool false] rfl rfl (cells_of_blk (t := 34) ?_) ?_ ?_ ?_ ?_); (focus (have := HFx.out.size; simp; omega)); (focus (exact Blk.new _ _ _)); (focus (simp [Value.oneCell'])); (focus (unfold maxLen; omega)); (focus omega); intro v6 w6 hS6 hF6 hO6; have hb6 := hF6.blk ((HFx.out.blk HV.out (by simp)).alloc _) (by intro hm; simp at hm; have := (HSV.out.own hm).1; omega); have c6 := hb6.cell; have f6 := hb6.free; have l6 := hb6.lt; have HS6 := Lib.hid hS6; have HF6 := Lib.hid hF6; obtain ⟨a6, q6, e6⟩ := hS6.at_; subst e6; clear hS6 hF6 hO6 hb6 cx cl vcx vlx)
        gi_wp2
        have hst := OI.step (by decide) hBo HV.out HSV.out HN.out HF.out (HFx.out.alloc _) HS6.out HF6.out (by decide)
        refine ⟨hst.2.1, KB.of_fr hst.2.2 ?_, OI.cast hst.1 (by rw [outZ_some HD5.out]; simp) (by rw [outZ_some HD5.out, flat4_app]; rfl)⟩
        intro q hq
        rcases List.mem_cons.1 hq with rfl | hq
        · simp <;> omega
        · simp at hq
          have := (HSV.out.own hq).1
          simp
          omega
      · subst heq
        have hd : diffF s (valV A B (s, some i, some k)).2.1 (valV A B (s, some i, some k)).2.2 = none := by
          rw [HVA.out, HVB.out]; simp only [diffF]; simp
        have HD := Lib.hid hd
        clear hd
        have hnl : ¬ b < b := by omega
        gi_upto_region 14 with fail
        refine round_quiet (by kernel_rfl) (by kernel_rfl) (fun ⟨_, _, h⟩ => h) (by kernel_rfl) ?_
        repeat (any_goals (first | go_big_quiet_step (fail) | quiet_step (fail)))
        refine wpQuiet_nil ?_
        intro _ hw'
        obtain ⟨nq, hw''⟩ := hw'
        subst hw''
        generalize hwq : World.drewN _ nq = wq14
        have HFq := Lib.hid (show Fr [] W wq14 from hwq ▸ ((Fr.refl [] W).alloc _).drN nq)
        have HCq := Lib.hid (show Blk wq14 W.heap.size #[.string s, .int .u64 0, .bool false, .bool false] 34 from hwq ▸ (Blk.new W _ _).drN nq)
        clear hwq
        have aq1 := HFq.out.cl HA0.out
        have bq1 := HFq.out.cl HB0.out
        have xq1 := (HFq.out.blk HBX.out (by simp)).cell
        have xlq1 := (HFq.out.blk HBX.out (by simp)).lt
        have cq1 := HCq.out.cell
        have cfq1 := HCq.out.free
        have clq1 := HCq.out.lt
        gi_upto_region 17 with fail
        refine round_quiet (by kernel_rfl) (by kernel_rfl) (fun ⟨_, _, h⟩ => h) (by kernel_rfl) ?_
        repeat (any_goals (first | go_big_quiet_step (fail) | quiet_step (fail)))
        refine wpQuiet_nil ?_
        intro _ hw'
        obtain ⟨nq, hw''⟩ := hw'
        subst hw''
        generalize hwq : World.drewN _ nq = wq17
        replace HFq := Lib.hid (show Fr [] W wq17 from hwq ▸ HFq.out.drN nq)
        replace HCq := Lib.hid (show Blk wq17 W.heap.size #[.string s, .int .u64 0, .bool false, .bool false] 34 from hwq ▸ HCq.out.drN nq)
        clear aq1 bq1 xq1 xlq1 cq1 cfq1 clq1
        clear hwq
        have aq2 := HFq.out.cl HA0.out
        have bq2 := HFq.out.cl HB0.out
        have xq2 := (HFq.out.blk HBX.out (by simp)).cell
        have xlq2 := (HFq.out.blk HBX.out (by simp)).lt
        have cq2 := HCq.out.cell
        have cfq2 := HCq.out.free
        have clq2 := HCq.out.lt
        gi_wp2
        refine ⟨KeepsFrom.of_fr HFq.out (by simp), KB.of_fr HFq.out (by simp), ?_⟩
        exact OI.cast ⟨⟨v, HFq.out.blk HV.out (by simp), HSV.out.fr0 HFq.out, HN.out⟩, HF.out.trans (HFq.out.mono (by simp))⟩ (by rw [outZ_none HD.out]) (by rw [outZ_none HD.out])
      · have hd : diffF s (valV A B (s, some i, some k)).2.1 (valV A B (s, some i, some k)).2.2 = some (b - a, false, false) := by
          rw [HVA.out, HVB.out]; simp only [diffF]; rw [if_neg (by omega), if_neg (by omega)]
        have HD := Lib.hid hd
        clear hd
        have hnl : ¬ b < a := by omega
        have hne : (b == a) = false := by simp; omega
        have hsub : IntKind.u64.wrap (b - a) = b - a := by rw [IntKind.wrap_u64]; omega
        gi_upto_region 14 with fail
        refine round_quiet (by kernel_rfl) (by kernel_rfl) (fun ⟨_, _, h⟩ => h) (by kernel_rfl) ?_
        repeat (any_goals (first | go_big_quiet_step (fail) | quiet_step (fail)))
        refine wpQuiet_nil ?_
        intro _ hw'
        obtain ⟨nq, hw''⟩ := hw'
        subst hw''
        generalize hwq : World.drewN _ nq = wq14
        have HFq := Lib.hid (show Fr [] W wq14 from hwq ▸ ((Fr.refl [] W).alloc _).drN nq)
        have HCq := Lib.hid (show Blk wq14 W.heap.size #[.string s, .int .u64 0, .bool false, .bool false] 34 from hwq ▸ (Blk.new W _ _).drN nq)
        clear hwq
        have aq1 := HFq.out.cl HA0.out
        have bq1 := HFq.out.cl HB0.out
        have xq1 := (HFq.out.blk HBX.out (by simp)).cell
        have xlq1 := (HFq.out.blk HBX.out (by simp)).lt
        have cq1 := HCq.out.cell
        have cfq1 := HCq.out.free
        have clq1 := HCq.out.lt
        gi_upto_region 17 with fail
        refine round_quiet (by kernel_rfl) (by kernel_rfl) (fun ⟨_, _, h⟩ => h) (by kernel_rfl) ?_
        repeat (any_goals (first | go_big_quiet_step (fail) | quiet_step (fail)))
        refine wpQuiet_nil ?_
        intro _ hw'
        obtain ⟨nq, hw''⟩ := hw'
        subst hw''
        generalize hwq : World.drewN _ nq = wq17
        replace HFq := Lib.hid (show Fr [] W wq17 from hwq ▸ HFq.out.drN nq)
        replace HCq := Lib.hid (show Blk wq17 W.heap.size #[.string s, .int .u64 0, .bool false, .bool false] 34 from hwq ▸ HCq.out.drN nq)
        clear aq1 bq1 xq1 xlq1 cq1 cfq1 clq1
        clear hwq
        have aq2 := HFq.out.cl HA0.out
        have bq2 := HFq.out.cl HB0.out
        have xq2 := (HFq.out.blk HBX.out (by simp)).cell
        have xlq2 := (HFq.out.blk HBX.out (by simp)).lt
        have cq2 := HCq.out.cell
        have cfq2 := HCq.out.free
        have clq2 := HCq.out.lt
        gi_upto_region 8 with fail
        refine round_tail 12 (by kernel_rfl) (by kernel_rfl) (fun ⟨_, _, h⟩ => h) (by kernel_rfl) ?_
        simp only [List.take_succ_cons, List.take_zero, List.drop_succ_cons, List.drop_zero]
        repeat still_step
        try refine wpStill_nil ?_
        go_wp2
        clear hsub
        gi_upto_region 18 with fail
        refine round_list (by kernel_rfl) (fun ⟨_, _, h⟩ => h) ?_
        refine wpList_named ?_
        intro wx hwx
        have HFx := Lib.hid (show Fr [] W wx from by rw [← hwx]; repeat' (first | (with_reducible exact HFq.out) | (with_reducible refine Fr.drew ?_) | (with_reducible refine Fr.drN ?_ _) | (with_reducible refine Fr.alloc ?_ _) | (with_reducible refine Fr.set ?_ ?_ _) | (left; simp; done) | (right; simp; done) | (right; simp; omega)))
        have HCx := Lib.hid (show Blk wx W.heap.size #[.string s, .int .u64 (b - a), .bool false, .bool false] 34 from Blk.cast (cs := (#[.string s, .int .u64 0, .bool false, .bool false]).setIfInBounds 1 (.int .u64 (b - a))) (by rw [← hwx]; repeat' (first | (with_reducible exact HCq.out) | (with_reducible refine Blk.drew ?_) | (with_reducible refine Blk.drN ?_ _) | (with_reducible refine Blk.set ?_ _ _) | (with_reducible refine Blk.other ?_ ?_ _) | (with_reducible refine Blk.alloc ?_ _) | (simp; done) | (simp; omega))) (by simp))
        clear hwx
        have hd5 : diffF s (valV A B (s, some i, some k)).2.1 (valV A B (s, some i, some k)).2.2 = some (b - a, false, false) := HD.out
        have HD5 := Lib.hid hd5
        clear hd5
        have cx := HCx.out.cell
        have cl := HCx.out.lt
        have vcx := (HFx.out.blk HV.out (by simp)).cell
        have vlx := (HFx.out.blk HV.out (by simp)).lt
        clear vc vf vl xc xl
        go_wp2_with (at_builtin; (refine wpList_append_svo _ rfl (.tmp 90) (.tmp 92) 26 rfl 34 i0 (chV ByteArray.empty 0 false false) 4 32 Try.underlying26 hi0 hz0 hz1 hz2 rfl (by decide) W0.heap.size v _ _ rfl ((HSV.out.fr0 HFx.out).al _) ?_ ⟨wx.heap.size, 0, none⟩ 1 1 [.string s, .int .u64 (b - a), .bool false, .bool false] rfl rfl (cells_of_blk (t := 34) ?_) ?_ ?_ ?_ ?_); (focus (have := HFx.out.size; simp; omega)); (focus (exact Blk.new _ _ _)); (focus (simp [Value.oneCell'])); (focus (unfold maxLen; omega)); (focus omega); intro v6 w6 hS6 hF6 hO6; have hb6 := hF6.blk ((HFx.out.blk HV.out (by simp)).alloc _) (by intro hm; simp at hm; have := (HSV.out.own hm).1; omega); have c6 := hb6.cell; have f6 := hb6.free; have l6 := hb6.lt; have HS6 := Lib.hid hS6; have HF6 := Lib.hid hF6; obtain ⟨a6, q6, e6⟩ := hS6.at_; subst e6; clear hS6 hF6 hO6 hb6 cx cl vcx vlx)
        gi_wp2
        have hst := OI.step (by decide) hBo HV.out HSV.out HN.out HF.out (HFx.out.alloc _) HS6.out HF6.out (by decide)
        refine ⟨hst.2.1, KB.of_fr hst.2.2 ?_, OI.cast hst.1 (by rw [outZ_some HD5.out]; simp) (by rw [outZ_some HD5.out, flat4_app]; rfl)⟩
        intro q hq
        rcases List.mem_cons.1 hq with rfl | hq
        · simp <;> omega
        · simp at hq
          have := (HSV.out.own hq).1
          simp
          omega
  case done =>
    rintro D ys W hD hys hI hK
    obtain ⟨⟨v, hv, hsv, hnil⟩, hf⟩ := hI
    rw [outZ_all diffF hys] at hsv hnil
    obtain ⟨va, vq, ev⟩ := hsv.at_
    subst ev
    have hnil5 := hnil
    have HSV := Lib.hid hsv
    have HF := Lib.hid hf
    have HV := Lib.hid hv
    have vc := hv.cell
    have vl := hv.lt
    have hml := made_len diffF A B
    have HKD := Lib.hid hK
    have hDs : w.heap.size ≤ D := by omega
    clear hv hsv hnil hf hK RA RB b1 b2 b3 b4 bo hnA hnB hys
    have hFw : Fr [] w W := ((HF0.out.mono (T := [w2.heap.size]) (by simp)).trans HF.out).weaken (by intro k hk; simp at hk; subst hk; right; omega)
    have HFD := Lib.hid (show Fr [] w (W.putObj D (.deferred none)) from ((hFw.mono (T := [D]) (by simp)).trans (Fr.of_grownBy (grownBy_putObj' W D (.deferred none)))).weaken (by intro k hk; simp at hk; subst hk; right; omega))
    have HSD := Lib.hid (SV.own_ HSV.out hnil5 (by decide) (grownBy_putObj' W D (.deferred none)) (fun r e => by cases e; exact ⟨_, HKD.out, rfl⟩))
    clear hFw
    by_cases hm : (made diffF A B).length ≤ 4096
    · have hmi : ¬ 4096 < ((made diffF A B).length : Int) := by omega
      have e : cutE (made diffF A B) = (made diffF A B, 0) := by unfold cutE; rw [if_pos hm]
      rw [e]
      go_wp2
      refine ⟨by simp, .inl ⟨_, _, rfl, run_takeDeferred HKD.out, ?_⟩⟩
      refine ⟨.tuple #[.slice va (made diffF A B).length vq, .int .i64 0], by simp [results, Try.results13, go_sem], ?_⟩
      try rw [e]
      exact EPost.mk (HSD.out.base_le (by omega)) HFD.out
    · have hmi : 4096 < ((made diffF A B).length : Int) := by omega
      have e : cutE (made diffF A B) = ([], 3) := by unfold cutE; rw [if_neg hm]
      rw [e]
      go_wp2
      refine ⟨by simp, .inl ⟨_, _, rfl, run_takeDeferred HKD.out, ?_⟩⟩
      refine ⟨.tuple #[.slice none 0 0, .int .i64 3], by simp [results, Try.results13, go_sem], ?_⟩
      try rw [e]
      exact EPost.mk (SV.nil _ _ _) HFD.out
  case stop =>
    rintro D c pre W _ _ h _
    exact h.elim
theorem diff_any (va vb : Value) (A B : List Ct) (w : World) (hA : RC w va A) (hB : RC w vb B) (mA : A.length ≤ 9223372036854775806) (mB : B.length ≤ 9223372036854775806) (wa : WC A) (wb : WC B) :
    Calls Try.prog 13 #[va, vb] w (EPost 4 (diffE A B).1.length (flat4 (diffE A B).1) (diffE A B).2 w) := by
  by_cases h : rightC A = true ∧ rightC B = true
  · have e : diffE A B = cutE (made diffF A B) := by unfold diffE; rw [if_pos h]
    rw [e]
    exact diff_yes va vb A B w hA hB (rightC_iff.1 h.1).2.2 (rightC_iff.1 h.2).2.2 h.1 h.2 wa wb
  · exact diff_no va vb A B w hA hB mA mB h
end Go.Proofs.Ytmilnhicmeblhaa
