/- The reference's functions of CrdtCounts, out of what was printed of them. -/
import Derived.Test.YtanbfejhhnhabaaJs4
import Derived.Test.YtanbfejhhnhabaaJs3
import Derived.Test.YtanbfejhhnhabaaPCrdtLatticex9
import Derived.Test.YtanbfejhhnhabaaPCrdtCountsx9
/- The package crdt: Delta. -/
namespace Go.Proofs.Ytanbfejhhnhabaa
open Go.RowKit Go.Maps Go.Sort
set_option maxRecDepth 100000
set_option linter.unusedVariables false
set_option linter.unusedSimpArgs false
set_option maxHeartbeats 8000000
/-- What Delta answers. -/
def deltaF (a b : List Nd) : List Nd × Int :=
  if rightL a = true ∧ rightL b = true then (a.filter (fun x => !hasL b x), 0) else ([], 230)
def DeltaPost (a b : List Nd) (w : World) (e : Ending) (w' : World) : Prop :=
  ∃ v, e = .returned (.tuple #[v, .int .i64 (deltaF a b).2]) ∧ SN w' w.heap.size v (deltaF a b).1 ∧ Fr [] w w'
theorem DeltaPost.mk {a b l : List Nd} {y : Int} {v : Value} {w w' : World} (h : deltaF a b = (l, y)) (hS : SN w' w.heap.size v l) (hF : Fr [] w w') : DeltaPost a b w (.returned (.tuple #[v, .int .i64 y])) w' :=
  ⟨v, by rw [h], by rw [h]; exact hS, hF⟩
theorem delta_any (v1 v2 : Value) (l1 l2 : List Nd) (w : World) (h1 : RN w v1 l1) (h2 : RN w v2 l2) (a1 : Arg l1) (a2 : Arg l2) :
    Calls Try.prog 22 #[v1, v2] w (DeltaPost l1 l2 w) := by
  have H1 := Lib.hid h1
  have H2 := Lib.hid h2
  have HA1 := Lib.hid a1
  have HA2 := Lib.hid a2
  obtain ⟨p1, q1, e1⟩ := h1.at_
  obtain ⟨p2, q2, e2⟩ := h2.at_
  subst e1 e2
  clear h1 h2 a1 a2
  have hB := Blk.new w #[.slice p1 l1.length q1, .slice p2 l2.length q2] 28
  have hF0 : Fr [] w (w.alloc (.cells #[.slice p1 l1.length q1, .slice p2 l2.length q2] 28)) := (Fr.refl _ _).alloc _
  have HB := Lib.hid hB
  clear hB
  by_cases hr : rightL l1 = true ∧ rightL l2 = true
  · obtain ⟨hr1, hr2⟩ := hr
    have hg2 := right_good hr2
    have hg1 := right_good hr1
    have hn1 := right_len hr1
    have hn2 := right_len hr2
    have ec : chk2 l1 l2 = 0 := by unfold chk2; rw [if_pos hr1]; exact chkF_ok hr2
    have em : deltaF l1 l2 = (l1.filter (fun x => !hasL l2 x), 0) := by unfold deltaF; rw [if_pos ⟨hr1, hr2⟩]
    have EC := Lib.hid ec
    have EM := Lib.hid em
    have HG1 := Lib.hid hg1
    have HG2 := Lib.hid hg2
    clear ec em hg1 hg2 hr1 hr2
    go_enter Try.func22, Try.ntmps22
    go_wp2_with (first | ((go_at_call 41); (with_reducible refine (checked_any w.heap.size _ _ l1 l2 _ HB.out (H1.out.fr0 hF0) (H2.out.fr0 hF0) HA1.out HA2.out).mono ?_); rintro e w1 ⟨rfl, hF1⟩; have hz := EC.out) | ((go_at_call 38); (with_reducible refine (nodes_any _ l2 _ (H2.out.fr0 (hF0.trans hF1)) HG2.out ?_).mono ?_); (focus (unfold maxLen; omega)); rintro e w2 ⟨b, rfl, hM, hb, hF2⟩))
    have HF2 := Lib.hid (((hF0.trans hF1).trans hF2).alloc (.cells #[.map (some b)] 68))
    have hbl := hM.lt
    have HM := Lib.hid (hM.fr0 ((Fr.refl [] w2).alloc (.cells #[.map (some b)] 68)))
    have hP := Blk.new w2 #[.map (some b)] 68
    have HP := Lib.hid hP
    clear hz hF0 hF1 hF2 hM hP
    go_wp2_with ((go_at_call 46); (refine (clone_any _ l1 _ (H1.out.fr0 HF2.out) (by omega)).mono ?_); rintro e w3 ⟨v3, rfl, hS3, hF3⟩)
    have HS3 := Lib.hid hS3
    have HF3 := Lib.hid hF3
    clear hS3 hF3
    try go_at_call 45
    refine (delete_any 47 #[.pointer (some ⟨w2.heap.size, 0, none⟩)] (fun x => hasL l2 x) _ v3 l1 _ HS3.out (by omega) (fun _ _ => by kernel_rfl) ?_).mono ?_
    · intro a W ha hW
      have hno : ∀ z, z < w2.heap.size + 1 → z ∉ v3.ownBlock.toList := fun z hz hm => by
        rw [Option.mem_toList] at hm
        have := (HS3.out.own hm).1
        simp at this
        omega
      exact delta1_any w2.heap.size b _ l2 a.1 a.2.1 a.2.2 W ((HM.out.fr0 HF3.out).fr hW (hno _ (by omega))) (by have := HG1.out.sz a ha; unfold maxLen; omega) (hW.blk (HF3.out.blk HP.out (by simp)) (hno _ (by omega)))
    rintro e w4 ⟨v4, rfl, hS4, hF4⟩
    have hF5 : Fr [] w w4 := own_fr (HF2.out.trans HF3.out) HS3.out hF4 HF2.out.size
    have hS5 := hS4.base_le HF2.out.size
    have HS5 := Lib.hid hS5
    have HF5 := Lib.hid hF5
    clear hS4 hS5 hF4 hF5
    go_wp2
    go_ret2
    exact DeltaPost.mk EM.out HS5.out HF5.out
  · have em : deltaF l1 l2 = ([], 230) := by unfold deltaF; rw [if_neg hr]
    have ec : chk2 l1 l2 = 230 := by
      unfold chk2
      by_cases h1 : rightL l1 = true
      · rw [if_pos h1]; exact chkF_no (fun h2 => hr ⟨h1, h2⟩)
      · rw [if_neg h1]
    have EC := Lib.hid ec
    have EM := Lib.hid em
    clear ec em hr
    go_enter Try.func22, Try.ntmps22
    go_wp2_with ((go_at_call 41); (with_reducible refine (checked_any w.heap.size _ _ l1 l2 _ HB.out (H1.out.fr0 hF0) (H2.out.fr0 hF0) HA1.out HA2.out).mono ?_); rintro e w1 ⟨rfl, hF1⟩; have hz := EC.out)
    go_ret2
    exact DeltaPost.mk EM.out (SV.nil _ _ _) (hF0.trans hF1)
end Go.Proofs.Ytanbfejhhnhabaa

/- The reference's Same, out of what was printed of it. -/
namespace Go.Proofs.Ytanbfejhhnhabaa
open Go.RowKit Go.Maps
open Go.Proofs.Ytanbfejhhnhabaa.PCrdtLattice
open Go.Proofs.YtanbfejhhnhabaaW.PrintWords
set_option maxRecDepth 100000
set_option linter.unusedVariables false
set_option linter.unusedSimpArgs false
set_option maxHeartbeats 1000000
theorem ba_ne {a b : ByteArray} (h : ¬ a = b) : ¬ a.toList = b.toList := by
  intro e
  rw [ByteArray.toList_eq, ByteArray.toList_eq] at e
  apply h
  cases a; cases b
  exact congrArg _ (Array.toList_inj.1 e)
theorem ba_beq {a b : ByteArray} (h : ¬ a = b) : (a.toList == b.toList) = false := by simpa using ba_ne h
def toS (a : Nd) : S33 := ⟨a.1, a.2.1, a.2.2⟩
theorem RD.kd3 {w : World} {A : Option Addr} {n c : Nat} {l : List Nd} (h : RD w 3 (.slice A n c) l.length (flat3 l)) : n = l.length ∧ l.length ≤ c ∧ c ≤ maxLen ∧ Kd.C k33 w A (l.map toS).length (l.map toS) ∨ l = [] ∧ n = 0 := by
  rcases h.2 with ⟨_, _, he, h0, _⟩ | ⟨g, off, cap, he, h1, h2, h3, h4⟩
  · simp at he
    have hl : l = [] := List.length_eq_zero_iff.1 h0
    subst hl
    exact .inr ⟨rfl, he.2.1⟩
  · simp at he
    obtain ⟨rfl, rfl, rfl⟩ := he
    refine .inl ⟨rfl, h2, h3, by simp, by unfold maxLen at h3; simp; omega, fun hp => ⟨_, rfl, fun j p hj => ?_⟩⟩
    simp only [List.getElem?_map, Option.map_eq_some_iff] at hj
    obtain ⟨a, ha, rfl⟩ := hj
    refine ⟨[.string a.1, .int .u64 a.2.1, .int .u64 a.2.2], rfl, k33_mk w (toS a), fun i u hi => ?_⟩
    have e : (⟨g, off, none⟩ : Addr).add (j * 3 + i) = ⟨g, off + (j * 3 + i), none⟩ := by unfold Addr.add; split <;> simp_all
    rw [show k33.sz = 3 from rfl, e]
    refine h4 _ _ ?_
    have hf := flat3_get l j a ha
    match i, hi with
    | 0, hi => simp at hi; subst hi; exact hf.1
    | 1, hi => simp at hi; subst hi; exact hf.2.1
    | 2, hi => simp at hi; subst hi; exact hf.2.2
    | i + 3, hi => simp at hi
theorem RD.kdN {w : World} {A : Option Addr} {n c : Nat} {l : List Nd} (h : RD w 3 (.slice A n c) l.length (flat3 l)) : n = l.length ∧ l.length ≤ c ∧ l.length ≤ maxLen ∧ Kd.C k33 w A (l.map toS).length (l.map toS) := by
  rcases RD.kd3 h with ⟨h1, h2, h3, h4⟩ | ⟨rfl, rfl⟩
  · exact ⟨h1, h2, by omega, h4⟩
  · exact ⟨rfl, by simp, by simp, by simp, by simp, by simp⟩
theorem drawn_fr {w w' : World} (h : Drawn0 w w') : Fr [] w w' := by
  obtain ⟨n, rfl⟩ := h
  exact (Fr.refl _ _).drN n
theorem w64 {n : Nat} (h : n < 9223372036854775807) : wrap64 ((n : Int) + 1) = ((n + 1 : Nat) : Int) := by
  unfold wrap64
  omega
theorem rd_at {l : List Nd} {j : Nat} {x : Nd} (h : l[j]? = some x) : rd_T33 (l.map toS) (j : Int) = toS x := by
  simp [rd_T33, List.getD, h]
theorem toS_eq (x y : Nd) : (!(((toS x).f0).toList == ((toS y).f0).toList) || (!((toS x).f1 == (toS y).f1) || !((toS x).f2 == (toS y).f2))) = decide (¬ x = y) := by
  obtain ⟨a, b, c⟩ := x
  obtain ⟨a', b', c'⟩ := y
  simp only [toS, Prod.mk.injEq]
  by_cases h1 : a = a'
  · subst h1
    by_cases h2 : b = b'
    · subst h2
      by_cases h3 : c = c'
      · subst h3; simp
      · simp [h3]
    · simp [h2]
  · rw [ba_beq h1]; simp [h1]
theorem same_l0 (a b : List Nd) (hab : b.length = a.length) (hl : a.length ≤ maxLen) : ∀ (k j : Nat), j ≤ a.length → a.length - j < k →
    abacusref23_Same.l0 k (a.map toS) (b.map toS) (a.length : Int) (j : Int) = some (decide (a.drop j = b.drop j)) := by
  intro k
  induction k with
  | zero => intro j _ h; omega
  | succ k ih =>
    intro j hj hk
    simp only [abacusref23_Same.l0]
    by_cases h : j < a.length
    · obtain ⟨x, hx⟩ : ∃ x, a[j]? = some x := ⟨_, List.getElem?_eq_getElem h⟩
      obtain ⟨y, hy⟩ : ∃ y, b[j]? = some y := ⟨_, List.getElem?_eq_getElem (by omega)⟩
      rw [if_pos (by omega), if_pos (by omega), if_pos (by simp; omega), if_pos (by simp; omega), rd_at hx, rd_at hy]
      have hdx : a.drop j = x :: a.drop (j + 1) := by
        rw [List.drop_eq_getElem_cons h]; congr 1; rw [List.getElem?_eq_getElem h] at hx; exact Option.some.inj hx
      have hdy : b.drop j = y :: b.drop (j + 1) := by
        rw [List.drop_eq_getElem_cons (by omega)]; congr 1; rw [List.getElem?_eq_getElem (by omega)] at hy; exact Option.some.inj hy
      rw [hdx, hdy]
      by_cases e : x = y
      · subst e
        have := toS_eq x x
        rw [if_neg (by rw [this]; simp), w64 (by unfold maxLen at hl; omega), ih (j + 1) (by omega) (by omega)]
        simp
      · have := toS_eq x y
        rw [if_pos (by rw [this]; simp [e])]
        simp [e]
    · obtain rfl : j = a.length := by omega
      rw [if_neg (by omega), List.drop_length, ← hab, List.drop_length]
      simp
theorem same_f (a b : List Nd) (hl : a.length ≤ maxLen) : abacusref23_Same.f (a.length + 1) (a.map toS) (b.map toS) = some (decide (a = b)) := by
  unfold abacusref23_Same.f
  by_cases h : b.length = a.length
  · rw [if_pos (by simp; omega)]
    have := same_l0 a b h hl (a.length + 1) 0 (by omega) (by omega)
    simp only [List.drop_zero] at this
    simpa using this
  · rw [if_neg (by simp; omega)]
    have : ¬ a = b := fun e => h (by rw [e])
    simp [this]
theorem same_any (v1 v2 : Value) (a b : List Nd) (w : World) (h1 : RN w v1 a) (h2 : RN w v2 b) :
    Calls Try.prog 18 #[v1, v2] w fun e w' => e = .returned (.bool (decide (a = b))) ∧ Fr [] w w' := by
  obtain ⟨p1, q1, rfl⟩ := h1.at_
  obtain ⟨p2, q2, rfl⟩ := h2.at_
  obtain ⟨-, c1, m1, K1⟩ := RD.kdN h1
  obtain ⟨-, c2, m2, K2⟩ := RD.kdN h2
  have hc := abacusref23_Same.calls (a.length + 1) p1 q1 (a.map toS) p2 q2 (b.map toS) (decide (a = b)) w K1 (by simpa using c1) K2 (by simpa using c2) (same_f a b m1)
  simp only [List.length_map] at hc
  refine hc.mono ?_
  rintro e w' ⟨rfl, hd⟩
  exact ⟨rfl, drawn_fr hd⟩
end Go.Proofs.Ytanbfejhhnhabaa

namespace Go.Proofs.Ytanbfejhhnhabaa.CC
open Go.RowKit Go.Maps
open Go.Proofs.Ytanbfejhhnhabaa.PCrdtCounts
open Go.Proofs.YtanbfejhhnhabaaW.PrintWords
set_option maxRecDepth 100000
set_option linter.unusedVariables false
set_option linter.unusedSimpArgs false
set_option maxHeartbeats 1000000
def toS (a : Nd) : S33 := ⟨a.1, a.2.1, a.2.2⟩
theorem RD.kd3 {w : World} {A : Option Addr} {n c : Nat} {l : List Nd} (h : RD w 3 (.slice A n c) l.length (flat3 l)) : n = l.length ∧ l.length ≤ c ∧ c ≤ maxLen ∧ Kd.C k33 w A (l.map toS).length (l.map toS) ∨ l = [] ∧ n = 0 := by
  rcases h.2 with ⟨_, _, he, h0, _⟩ | ⟨g, off, cap, he, h1, h2, h3, h4⟩
  · simp at he
    have hl : l = [] := List.length_eq_zero_iff.1 h0
    subst hl
    exact .inr ⟨rfl, he.2.1⟩
  · simp at he
    obtain ⟨rfl, rfl, rfl⟩ := he
    refine .inl ⟨rfl, h2, h3, by simp, by unfold maxLen at h3; simp; omega, fun hp => ⟨_, rfl, fun j p hj => ?_⟩⟩
    simp only [List.getElem?_map, Option.map_eq_some_iff] at hj
    obtain ⟨a, ha, rfl⟩ := hj
    refine ⟨[.string a.1, .int .u64 a.2.1, .int .u64 a.2.2], rfl, k33_mk w (toS a), fun i u hi => ?_⟩
    have e : (⟨g, off, none⟩ : Addr).add (j * 3 + i) = ⟨g, off + (j * 3 + i), none⟩ := by unfold Addr.add; split <;> simp_all
    rw [show k33.sz = 3 from rfl, e]
    refine h4 _ _ ?_
    have hf := flat3_get l j a ha
    match i, hi with
    | 0, hi => simp at hi; subst hi; exact hf.1
    | 1, hi => simp at hi; subst hi; exact hf.2.1
    | 2, hi => simp at hi; subst hi; exact hf.2.2
    | i + 3, hi => simp at hi
theorem RD.kdN {w : World} {A : Option Addr} {n c : Nat} {l : List Nd} (h : RD w 3 (.slice A n c) l.length (flat3 l)) : n = l.length ∧ l.length ≤ c ∧ l.length ≤ maxLen ∧ Kd.C k33 w A (l.map toS).length (l.map toS) := by
  rcases RD.kd3 h with ⟨h1, h2, h3, h4⟩ | ⟨rfl, rfl⟩
  · exact ⟨h1, h2, by omega, h4⟩
  · exact ⟨rfl, by simp, by simp, by simp, by simp, by simp⟩
theorem rd_at {l : List Nd} {j : Nat} {x : Nd} (h : l[j]? = some x) : rd_T33 (l.map toS) (j : Int) = toS x := by
  simp [rd_T33, List.getD, h]
theorem ba_iff {a b : ByteArray} : a.toList = b.toList ↔ a = b := ⟨fun h => Decidable.byContradiction fun e => ba_ne e h, fun h => by rw [h]⟩
theorem find_l0 (l : List Nd) (s : ByteArray) (hl : l.length ≤ maxLen) : ∀ (k j : Nat), j ≤ l.length → l.length - j < k →
    abacusref23_find.l0 k s (l.map toS) (l.length : Int) (j : Int) = some (s, (ofL (l.drop j) s).1, (ofL (l.drop j) s).2, (lk (l.drop j) s).isSome) := by
  intro k
  induction k with
  | zero => intro j _ h; omega
  | succ k ih =>
    intro j hj hk
    simp only [abacusref23_find.l0]
    by_cases h : j < l.length
    · obtain ⟨x, hx⟩ : ∃ x, l[j]? = some x := ⟨_, List.getElem?_eq_getElem h⟩
      rw [if_pos (by omega), if_pos (by omega), if_pos (by simp; omega), rd_at hx]
      have hdx : l.drop j = x :: l.drop (j + 1) := by
        rw [List.drop_eq_getElem_cons h]; congr 1; rw [List.getElem?_eq_getElem h] at hx; exact Option.some.inj hx
      rw [hdx]
      have e1 : (toS x).f0 = x.1 := rfl
      rw [e1]
      by_cases e : x.1 = s
      · rw [if_pos (ba_iff.2 e)]
        simp [toS, ofL, lk, e]
      · rw [if_neg (fun h2 => e (ba_iff.1 h2)), w64 (by unfold maxLen at hl; omega), ih (j + 1) (by omega) (by omega)]
        simp [ofL, lk, e]
    · obtain rfl : j = l.length := by omega
      rw [if_neg (by omega), List.drop_length]
      simp [ofL, lk]
theorem find_f (l : List Nd) (s : ByteArray) (hl : l.length ≤ maxLen) : abacusref23_find.f (l.length + 1) (l.map toS) s = some (s, (ofL l s).1, (ofL l s).2, (lk l s).isSome) := by
  unfold abacusref23_find.f
  have := find_l0 l s hl (l.length + 1) 0 (by omega) (by omega)
  simp only [List.drop_zero] at this
  simpa using this
/-- What the reference's put makes of the rest of a list. -/
def putR (x : Nd) : Bool → List Nd → List Nd
  | true, l => l.filter (fun y => decide (y.1 ≠ x.1))
  | false, [] => [x]
  | false, y :: r => if Op.bytesLess y.1.toList x.1.toList = true then (if y.1 = x.1 then putR x false r else y :: putR x false r) else x :: ((y :: r).filter (fun z => decide (z.1 ≠ x.1)))
theorem putR_put : ∀ (l : List Nd) (x : Nd), Srt l → putR x false l = putL l x
  | [], x, _ => rfl
  | y :: r, x, h => by
    obtain ⟨h1, h2⟩ := List.pairwise_cons.1 h
    have ih := putR_put r x h2
    simp only [putR, putL]
    rw [bytesLess_lt]
    by_cases e : y.1 = x.1
    · have hn : ¬ bts y.1 < bts x.1 := by rw [e]; exact bts_irrefl _
      have hn2 : ¬ bts x.1 < bts y.1 := by rw [e]; exact bts_irrefl _
      have hf : r.filter (fun z => decide (z.1 ≠ x.1)) = r := by
        rw [List.filter_eq_self]
        intro z hz
        have := bts_ne (h1 z hz)
        rw [e] at this
        simpa using this.symm
      rw [if_neg (by simpa using hn), if_neg hn2, if_pos e, List.filter_cons_of_neg (by simpa using e), hf]
    · by_cases hlt : bts y.1 < bts x.1
      · have hn2 : ¬ bts x.1 < bts y.1 := fun h => bts_irrefl _ (bts_trans h hlt)
        rw [if_pos (by simpa using hlt), if_neg e, if_neg hn2, if_neg e, ih]
      · have hgt : bts x.1 < bts y.1 := bts_lt_of hlt e
        have hf : (y :: r).filter (fun z => decide (z.1 ≠ x.1)) = y :: r := by
          rw [List.filter_eq_self]
          intro z hz
          rcases List.mem_cons.1 hz with rfl | hz
          · simpa using e
          · have := bts_ne (bts_trans hgt (h1 z hz))
            simpa using this.symm
        rw [if_neg (by simpa using hlt), if_pos hgt, hf]
end Go.Proofs.Ytanbfejhhnhabaa.CC
