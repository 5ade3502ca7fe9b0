/- States of counters are a lattice: plain. -/
import Derived.Test.YtanbfejhhnhabaaJc4
import Derived.Test.YtanbfejhhnhabaaJc3
import Derived.Test.YtanbfejhhnhabaaPCrdtLatticex9
/- The package crdt: Delta. -/
namespace Go.Proofs.Ytanbfejhhnhabaa
open Go.RowKit Go.Maps Go.Sort
set_option maxRecDepth 100000
set_option linter.unusedVariables false
set_option linter.unusedSimpArgs false
set_option maxHeartbeats 8000000
/-- What Delta answers. -/
def deltaF (a b : List Nd) : List Nd × Int :=
  if rightL a = true ∧ rightL b = true then (a.filter (fun x => !hasL b x), 0) else ([], 230)
def DeltaPost (a b : List Nd) (w : World) (e : Ending) (w' : World) : Prop :=
  ∃ v, e = .returned (.tuple #[v, .int .i64 (deltaF a b).2]) ∧ SN w' w.heap.size v (deltaF a b).1 ∧ Fr [] w w'
theorem DeltaPost.mk {a b l : List Nd} {y : Int} {v : Value} {w w' : World} (h : deltaF a b = (l, y)) (hS : SN w' w.heap.size v l) (hF : Fr [] w w') : DeltaPost a b w (.returned (.tuple #[v, .int .i64 y])) w' :=
  ⟨v, by rw [h], by rw [h]; exact hS, hF⟩
theorem delta_any (v1 v2 : Value) (l1 l2 : List Nd) (w : World) (h1 : RN w v1 l1) (h2 : RN w v2 l2) (a1 : Arg l1) (a2 : Arg l2) :
    Calls Try.prog 22 #[v1, v2] w (DeltaPost l1 l2 w) := by
  have H1 := Lib.hid h1
  have H2 := Lib.hid h2
  have HA1 := Lib.hid a1
  have HA2 := Lib.hid a2
  obtain ⟨p1, q1, e1⟩ := h1.at_
  obtain ⟨p2, q2, e2⟩ := h2.at_
  subst e1 e2
  clear h1 h2 a1 a2
  have hB := Blk.new w #[.slice p1 l1.length q1, .slice p2 l2.length q2] 28
  have hF0 : Fr [] w (w.alloc (.cells #[.slice p1 l1.length q1, .slice p2 l2.length q2] 28)) := (Fr.refl _ _).alloc _
  have HB := Lib.hid hB
  clear hB
  by_cases hr : rightL l1 = true ∧ rightL l2 = true
  · obtain ⟨hr1, hr2⟩ := hr
    have hg2 := right_good hr2
    have hg1 := right_good hr1
    have hn1 := right_len hr1
    have hn2 := right_len hr2
    have ec : chk2 l1 l2 = 0 := by unfold chk2; rw [if_pos hr1]; exact chkF_ok hr2
    have em : deltaF l1 l2 = (l1.filter (fun x => !hasL l2 x), 0) := by unfold deltaF; rw [if_pos ⟨hr1, hr2⟩]
    have EC := Lib.hid ec
    have EM := Lib.hid em
    have HG1 := Lib.hid hg1
    have HG2 := Lib.hid hg2
    clear ec em hg1 hg2 hr1 hr2
    go_enter Try.func22, Try.ntmps22
    go_wp2_with (first | ((go_at_call 41); (with_reducible refine (checked_any w.heap.size _ _ l1 l2 _ HB.out (H1.out.fr0 hF0) (H2.out.fr0 hF0) HA1.out HA2.out).mono ?_); rintro e w1 ⟨rfl, hF1⟩; have hz := EC.out) | ((go_at_call 38); (with_reducible refine (nodes_any _ l2 _ (H2.out.fr0 (hF0.trans hF1)) HG2.out ?_).mono ?_); (focus (unfold maxLen; omega)); rintro e w2 ⟨b, rfl, hM, hb, hF2⟩))
    have HF2 := Lib.hid (((hF0.trans hF1).trans hF2).alloc (.cells #[.map (some b)] 68))
    have hbl := hM.lt
    have HM := Lib.hid (hM.fr0 ((Fr.refl [] w2).alloc (.cells #[.map (some b)] 68)))
    have hP := Blk.new w2 #[.map (some b)] 68
    have HP := Lib.hid hP
    clear hz hF0 hF1 hF2 hM hP
    go_wp2_with ((go_at_call 46); (refine (clone_any _ l1 _ (H1.out.fr0 HF2.out) (by omega)).mono ?_); rintro e w3 ⟨v3, rfl, hS3, hF3⟩)
    have HS3 := Lib.hid hS3
    have HF3 := Lib.hid hF3
    clear hS3 hF3
    try go_at_call 45
    refine (delete_any 47 #[.pointer (some ⟨w2.heap.size, 0, none⟩)] (fun x => hasL l2 x) _ v3 l1 _ HS3.out (by omega) (fun _ _ => by kernel_rfl) ?_).mono ?_
    · intro a W ha hW
      have hno : ∀ z, z < w2.heap.size + 1 → z ∉ v3.ownBlock.toList := fun z hz hm => by
        rw [Option.mem_toList] at hm
        have := (HS3.out.own hm).1
        simp at this
        omega
      exact delta1_any w2.heap.size b _ l2 a.1 a.2.1 a.2.2 W ((HM.out.fr0 HF3.out).fr hW (hno _ (by omega))) (by have := HG1.out.sz a ha; unfold maxLen; omega) (hW.blk (HF3.out.blk HP.out (by simp)) (hno _ (by omega)))
    rintro e w4 ⟨v4, rfl, hS4, hF4⟩
    have hF5 : Fr [] w w4 := own_fr (HF2.out.trans HF3.out) HS3.out hF4 HF2.out.size
    have hS5 := hS4.base_le HF2.out.size
    have HS5 := Lib.hid hS5
    have HF5 := Lib.hid hF5
    clear hS4 hS5 hF4 hF5
    go_wp2
    go_ret2
    exact DeltaPost.mk EM.out HS5.out HF5.out
  · have em : deltaF l1 l2 = ([], 230) := by unfold deltaF; rw [if_neg hr]
    have ec : chk2 l1 l2 = 230 := by
      unfold chk2
      by_cases h1 : rightL l1 = true
      · rw [if_pos h1]; exact chkF_no (fun h2 => hr ⟨h1, h2⟩)
      · rw [if_neg h1]
    have EC := Lib.hid ec
    have EM := Lib.hid em
    clear ec em hr
    go_enter Try.func22, Try.ntmps22
    go_wp2_with ((go_at_call 41); (with_reducible refine (checked_any w.heap.size _ _ l1 l2 _ HB.out (H1.out.fr0 hF0) (H2.out.fr0 hF0) HA1.out HA2.out).mono ?_); rintro e w1 ⟨rfl, hF1⟩; have hz := EC.out)
    go_ret2
    exact DeltaPost.mk EM.out (SV.nil _ _ _) (hF0.trans hF1)
end Go.Proofs.Ytanbfejhhnhabaa

/- The reference's Same, out of what was printed of it. -/
namespace Go.Proofs.Ytanbfejhhnhabaa
open Go.RowKit Go.Maps
open Go.Proofs.Ytanbfejhhnhabaa.PCrdtLattice
open Go.Proofs.YtanbfejhhnhabaaW.PrintWords
set_option maxRecDepth 100000
set_option linter.unusedVariables false
set_option linter.unusedSimpArgs false
set_option maxHeartbeats 1000000
theorem ba_ne {a b : ByteArray} (h : ¬ a = b) : ¬ a.toList = b.toList := by
  intro e
  rw [ByteArray.toList_eq, ByteArray.toList_eq] at e
  apply h
  cases a; cases b
  exact congrArg _ (Array.toList_inj.1 e)
theorem ba_beq {a b : ByteArray} (h : ¬ a = b) : (a.toList == b.toList) = false := by simpa using ba_ne h
def toS (a : Nd) : S33 := ⟨a.1, a.2.1, a.2.2⟩
theorem RD.kd3 {w : World} {A : Option Addr} {n c : Nat} {l : List Nd} (h : RD w 3 (.slice A n c) l.length (flat3 l)) : n = l.length ∧ l.length ≤ c ∧ c ≤ maxLen ∧ Kd.C k33 w A (l.map toS).length (l.map toS) ∨ l = [] ∧ n = 0 := by
  rcases h.2 with ⟨_, _, he, h0, _⟩ | ⟨g, off, cap, he, h1, h2, h3, h4⟩
  · simp at he
    have hl : l = [] := List.length_eq_zero_iff.1 h0
    subst hl
    exact .inr ⟨rfl, he.2.1⟩
  · simp at he
    obtain ⟨rfl, rfl, rfl⟩ := he
    refine .inl ⟨rfl, h2, h3, by simp, by unfold maxLen at h3; simp; omega, fun hp => ⟨_, rfl, fun j p hj => ?_⟩⟩
    simp only [List.getElem?_map, Option.map_eq_some_iff] at hj
    obtain ⟨a, ha, rfl⟩ := hj
    refine ⟨[.string a.1, .int .u64 a.2.1, .int .u64 a.2.2], rfl, k33_mk w (toS a), fun i u hi => ?_⟩
    have e : (⟨g, off, none⟩ : Addr).add (j * 3 + i) = ⟨g, off + (j * 3 + i), none⟩ := by unfold Addr.add; split <;> simp_all
    rw [show k33.sz = 3 from rfl, e]
    refine h4 _ _ ?_
    have hf := flat3_get l j a ha
    match i, hi with
    | 0, hi => simp at hi; subst hi; exact hf.1
    | 1, hi => simp at hi; subst hi; exact hf.2.1
    | 2, hi => simp at hi; subst hi; exact hf.2.2
    | i + 3, hi => simp at hi
theorem RD.kdN {w : World} {A : Option Addr} {n c : Nat} {l : List Nd} (h : RD w 3 (.slice A n c) l.length (flat3 l)) : n = l.length ∧ l.length ≤ c ∧ l.length ≤ maxLen ∧ Kd.C k33 w A (l.map toS).length (l.map toS) := by
  rcases RD.kd3 h with ⟨h1, h2, h3, h4⟩ | ⟨rfl, rfl⟩
  · exact ⟨h1, h2, by omega, h4⟩
  · exact ⟨rfl, by simp, by simp, by simp, by simp, by simp⟩
theorem drawn_fr {w w' : World} (h : Drawn0 w w') : Fr [] w w' := by
  obtain ⟨n, rfl⟩ := h
  exact (Fr.refl _ _).drN n
theorem w64 {n : Nat} (h : n < 9223372036854775807) : wrap64 ((n : Int) + 1) = ((n + 1 : Nat) : Int) := by
  unfold wrap64
  omega
theorem rd_at {l : List Nd} {j : Nat} {x : Nd} (h : l[j]? = some x) : rd_T33 (l.map toS) (j : Int) = toS x := by
  simp [rd_T33, List.getD, h]
theorem toS_eq (x y : Nd) : (!(((toS x).f0).toList == ((toS y).f0).toList) || (!((toS x).f1 == (toS y).f1) || !((toS x).f2 == (toS y).f2))) = decide (¬ x = y) := by
  obtain ⟨a, b, c⟩ := x
  obtain ⟨a', b', c'⟩ := y
  simp only [toS, Prod.mk.injEq]
  by_cases h1 : a = a'
  · subst h1
    by_cases h2 : b = b'
    · subst h2
      by_cases h3 : c = c'
      · subst h3; simp
      · simp [h3]
    · simp [h2]
  · rw [ba_beq h1]; simp [h1]
theorem same_l0 (a b : List Nd) (hab : b.length = a.length) (hl : a.length ≤ maxLen) : ∀ (k j : Nat), j ≤ a.length → a.length - j < k →
    abacusref23_Same.l0 k (a.map toS) (b.map toS) (a.length : Int) (j : Int) = some (decide (a.drop j = b.drop j)) := by
  intro k
  induction k with
  | zero => intro j _ h; omega
  | succ k ih =>
    intro j hj hk
    simp only [abacusref23_Same.l0]
    by_cases h : j < a.length
    · obtain ⟨x, hx⟩ : ∃ x, a[j]? = some x := ⟨_, List.getElem?_eq_getElem h⟩
      obtain ⟨y, hy⟩ : ∃ y, b[j]? = some y := ⟨_, List.getElem?_eq_getElem (by omega)⟩
      rw [if_pos (by omega), if_pos (by omega), if_pos (by simp; omega), if_pos (by simp; omega), rd_at hx, rd_at hy]
      have hdx : a.drop j = x :: a.drop (j + 1) := by
        rw [List.drop_eq_getElem_cons h]; congr 1; rw [List.getElem?_eq_getElem h] at hx; exact Option.some.inj hx
      have hdy : b.drop j = y :: b.drop (j + 1) := by
        rw [List.drop_eq_getElem_cons (by omega)]; congr 1; rw [List.getElem?_eq_getElem (by omega)] at hy; exact Option.some.inj hy
      rw [hdx, hdy]
      by_cases e : x = y
      · subst e
        have := toS_eq x x
        rw [if_neg (by rw [this]; simp), w64 (by unfold maxLen at hl; omega), ih (j + 1) (by omega) (by omega)]
        simp
      · have := toS_eq x y
        rw [if_pos (by rw [this]; simp [e])]
        simp [e]
    · obtain rfl : j = a.length := by omega
      rw [if_neg (by omega), List.drop_length, ← hab, List.drop_length]
      simp
theorem same_f (a b : List Nd) (hl : a.length ≤ maxLen) : abacusref23_Same.f (a.length + 1) (a.map toS) (b.map toS) = some (decide (a = b)) := by
  unfold abacusref23_Same.f
  by_cases h : b.length = a.length
  · rw [if_pos (by simp; omega)]
    have := same_l0 a b h hl (a.length + 1) 0 (by omega) (by omega)
    simp only [List.drop_zero] at this
    simpa using this
  · rw [if_neg (by simp; omega)]
    have : ¬ a = b := fun e => h (by rw [e])
    simp [this]
theorem same_any (v1 v2 : Value) (a b : List Nd) (w : World) (h1 : RN w v1 a) (h2 : RN w v2 b) :
    Calls Try.prog 18 #[v1, v2] w fun e w' => e = .returned (.bool (decide (a = b))) ∧ Fr [] w w' := by
  obtain ⟨p1, q1, rfl⟩ := h1.at_
  obtain ⟨p2, q2, rfl⟩ := h2.at_
  obtain ⟨-, c1, m1, K1⟩ := RD.kdN h1
  obtain ⟨-, c2, m2, K2⟩ := RD.kdN h2
  have hc := abacusref23_Same.calls (a.length + 1) p1 q1 (a.map toS) p2 q2 (b.map toS) (decide (a = b)) w K1 (by simpa using c1) K2 (by simpa using c2) (same_f a b m1)
  simp only [List.length_map] at hc
  refine hc.mono ?_
  rintro e w' ⟨rfl, hd⟩
  exact ⟨rfl, drawn_fr hd⟩
end Go.Proofs.Ytanbfejhhnhabaa

namespace Go.Proofs.Ytanbfejhhnhabaa
set_option linter.unusedVariables false
set_option linter.unusedSimpArgs false
def Gd (x : Nd) : Prop := nameF x.1 = true ∧ 0 ≤ x.2.1 ∧ x.2.1 ≤ 72057594037927936 ∧ 0 ≤ x.2.2 ∧ x.2.2 ≤ 72057594037927936 ∧ ¬ (x.2.1 = 0 ∧ x.2.2 = 0)
structure Rt (l : List Nd) : Prop where
  srt : Srt l
  gd : ∀ x ∈ l, Gd x
theorem okL_rt : ∀ (l : List Nd) (p : Option ByteArray), Pos l → okL p l = true → ∀ x ∈ l, Gd x
  | [], _, _, _ => by simp
  | x :: r, p, hp, h => by
    simp only [okL, Bool.and_eq_true] at h
    obtain ⟨h1, h2⟩ := h
    simp only [okN, Bool.and_eq_true, decide_eq_true_eq] at h1
    obtain ⟨⟨⟨⟨k1, k2⟩, k3⟩, k4⟩, k5⟩ := h1
    intro y hy
    rcases List.mem_cons.1 hy with rfl | hy
    · have := hp y List.mem_cons_self
      exact ⟨k1, this.1, k3, this.2, k4, fun e => by rw [e.1, e.2] at k5; simp at k5⟩
    · exact okL_rt r (some x.1) (fun z hz => hp z (List.mem_cons_of_mem _ hz)) h2 y hy
theorem rt_okL : ∀ (l : List Nd) (p : Option ByteArray), Rt l → (∀ q, p = some q → ∀ x ∈ l, bts q < bts x.1) → okL p l = true
  | [], _, _, _ => rfl
  | x :: r, p, h, hq => by
    obtain ⟨h1, h2⟩ := List.pairwise_cons.1 h.srt
    have hx := h.gd x List.mem_cons_self
    obtain ⟨k1, k2, k3, k4, k5, k6⟩ := hx
    simp only [okL, okN, Bool.and_eq_true, decide_eq_true_eq]
    refine ⟨⟨⟨⟨⟨k1, ?_⟩, k3⟩, k5⟩, ?_⟩, rt_okL r (some x.1) ⟨h2, fun y hy => h.gd y (List.mem_cons_of_mem _ hy)⟩ ?_⟩
    · cases p with
      | none => rfl
      | some q =>
        show Op.bytesLess q.toList x.1.toList = true
        rw [bytesLess_lt]
        simpa using hq q rfl x List.mem_cons_self
    · by_cases e : x.2.1 = 0
      · have e2 : ¬ x.2.2 = 0 := fun e3 => k6 ⟨e, e3⟩
        simp [e, e2]
      · simp [e]
    · rintro q hq2 y hy
      cases hq2
      exact h1 y hy
theorem Rt.right {l : List Nd} (h : Rt l) (hl : l.length ≤ 64) : rightL l = true := by
  unfold rightL
  simp only [Bool.and_eq_true, decide_eq_true_eq]
  exact ⟨hl, rt_okL l none h (by simp)⟩
theorem right_rt {l : List Nd} (hp : Pos l) (h : rightL l = true) : Rt l := by
  refine ⟨(right_good h).st, ?_⟩
  unfold rightL at h
  simp only [Bool.and_eq_true] at h
  exact okL_rt l none hp h.2
theorem Rt.pos {l : List Nd} (h : Rt l) : Pos l := fun x hx => ⟨(h.gd x hx).2.1, (h.gd x hx).2.2.2.1⟩
theorem Rt.arg {l : List Nd} (h : Rt l) (hl : l.length ≤ 64) : Arg l := Good.arg (right_good (h.right hl)) h.pos (by omega)
theorem of_mem {l : List Nd} (h : Rt l) {x : Nd} (hx : x ∈ l) : ofL l x.1 = x.2 := by unfold ofL; rw [lk_of_mem h.srt hx]; rfl
theorem lk_of {l : List Nd} (h : Rt l) (s : ByteArray) : lk l s = if ofL l s = (0, 0) then none else some (ofL l s) := by
  unfold ofL
  cases hl : lk l s with
  | none => rfl
  | some v =>
    have := (h.gd _ (lk_mem hl)).2.2.2.2.2
    rw [if_neg]
    · rfl
    · intro e
      simp only [Option.getD_some] at e
      subst e
      exact this ⟨rfl, rfl⟩
theorem Rt.ext {a b : List Nd} (ha : Rt a) (hb : Rt b) (h : ∀ s, ofL a s = ofL b s) : a = b :=
  Srt.ext ha.srt hb.srt (fun s => by rw [lk_of ha, lk_of hb, h s])
theorem of_nn {l : List Nd} (h : Rt l) (s : ByteArray) : 0 ≤ (ofL l s).1 ∧ 0 ≤ (ofL l s).2 := by
  unfold ofL
  cases hl : lk l s with
  | none => simp
  | some v => have := h.pos _ (lk_mem hl); simpa using this
def mx (p q : Int × Int) : Int × Int := (max p.1 q.1, max p.2 q.2)
theorem of_merge {a b : List Nd} (ha : Rt a) (hb : Rt b) (s : ByteArray) : ofL (mergeL a b) s = mx (ofL a s) (ofL b s) := by
  have e : ofL (mergeL a b) s = ((lk (mergeL a b) s).getD (0, 0)) := rfl
  rw [e, mergeL_lk hb.srt]
  cases hl : lk b s with
  | some v => simp [mx, ofL, hl]
  | none =>
    have hn := of_nn ha s
    have e2 : ofL b s = (0, 0) := by unfold ofL; rw [hl]; rfl
    rw [e2]
    show ofL a s = _
    unfold mx
    rw [Int.max_eq_left hn.1, Int.max_eq_left hn.2]
theorem merge_rt {a b : List Nd} (ha : Rt a) (hb : Rt b) : Rt (mergeL a b) := by
  refine ⟨mergeL_srt ha.srt, fun x hx => ?_⟩
  have h1 := lk_of_mem (mergeL_srt ha.srt) hx
  rw [mergeL_lk hb.srt] at h1
  cases hl : lk b x.1 with
  | none =>
    rw [hl] at h1
    exact ha.gd x (by have := lk_mem h1; simpa using this)
  | some v =>
    rw [hl] at h1
    have h2 : x.2 = (max (ofL a x.1).1 v.1, max (ofL a x.1).2 v.2) := by simpa using h1.symm
    have hb1 := hb.gd _ (lk_mem hl)
    have hn := of_nn ha x.1
    have hbd : (ofL a x.1).1 ≤ 72057594037927936 ∧ (ofL a x.1).2 ≤ 72057594037927936 := by
      unfold ofL
      cases hla : lk a x.1 with
      | none => simp
      | some z => have := ha.gd _ (lk_mem hla); exact ⟨this.2.2.1, this.2.2.2.2.1⟩
    obtain ⟨k1, k2, k3, k4, k5, k6⟩ := hb1
    simp only at k1 k2 k3 k4 k5 k6
    refine ⟨k1, ?_⟩
    rw [h2]
    simp only
    omega
theorem has_of {l : List Nd} (h : Rt l) {x : Nd} (hx : Gd x) : hasL l x = decide (x.2.1 ≤ (ofL l x.1).1 ∧ x.2.2 ≤ (ofL l x.1).2) := by
  obtain ⟨k1, k2, k3, k4, k5, k6⟩ := hx
  unfold hasL ofL
  cases hl : lk l x.1 with
  | some p => simp
  | none =>
    simp only [Option.getD_none]
    symm
    rw [decide_eq_false_iff_not]
    intro ⟨h1, h2⟩
    exact k6 ⟨by omega, by omega⟩
def LE2 (p q : Int × Int) : Prop := p.1 ≤ q.1 ∧ p.2 ≤ q.2
theorem all_le {a c : List Nd} (ha : Rt a) (hc : Rt c) : a.all (hasL c) = true ↔ ∀ s, LE2 (ofL a s) (ofL c s) := by
  rw [List.all_eq_true]
  constructor
  · intro h s
    cases hl : lk a s with
    | none =>
      have e2 : ofL a s = (0, 0) := by unfold ofL; rw [hl]; rfl
      rw [e2]
      exact of_nn hc s
    | some v =>
      have hm := lk_mem hl
      have h1 := h _ hm
      rw [has_of hc (ha.gd _ hm)] at h1
      have e2 : ofL a s = v := by unfold ofL; rw [hl]; rfl
      rw [e2]
      have h3 := of_decide_eq_true h1
      exact h3
  · intro h x hx
    rw [has_of hc (ha.gd x hx)]
    have := h x.1
    rw [of_mem ha hx] at this
    unfold LE2 at this
    exact decide_eq_true this
theorem lk_filter (p : Nd → Bool) : ∀ {l : List Nd}, Srt l → ∀ s, lk (l.filter p) s = match lk l s with | some v => if p (s, v) = true then some v else none | none => none
  | [], _, s => rfl
  | x :: r, h, s => by
    obtain ⟨h1, h2⟩ := List.pairwise_cons.1 h
    have ih := lk_filter p h2 s
    by_cases e : x.1 = s
    · subst e
      have hn : lk r x.1 = none := lk_none (fun z hz => (bts_ne (h1 z hz)).symm)
      rw [hn] at ih
      have e0 : lk (x :: r) x.1 = some x.2 := by simp [lk]
      rw [e0]
      by_cases hp : p x = true
      · rw [List.filter_cons_of_pos hp]
        have : p (x.1, x.2) = true := hp
        simp [lk, this]
      · rw [List.filter_cons_of_neg hp, ih]
        have : ¬ p (x.1, x.2) = true := hp
        simp [this]
    · simp only [lk, if_neg e]
      by_cases hp : p x = true
      · rw [List.filter_cons_of_pos hp]
        simp only [lk, if_neg e]
        exact ih
      · rw [List.filter_cons_of_neg hp]
        exact ih
theorem delta_rt {b : List Nd} (p : Nd → Bool) (hb : Rt b) : Rt (b.filter p) :=
  ⟨hb.srt.sublist List.filter_sublist, fun x hx => hb.gd x (List.mem_filter.1 hx).1⟩
theorem merge_delta {a b : List Nd} (ha : Rt a) (hb : Rt b) : mergeL a (b.filter (fun x => !hasL a x)) = mergeL a b := by
  refine Rt.ext (merge_rt ha (delta_rt _ hb)) (merge_rt ha hb) (fun s => ?_)
  rw [of_merge ha (delta_rt _ hb), of_merge ha hb]
  have hn := of_nn ha s
  have e : ofL (b.filter (fun x => !hasL a x)) s = ((lk (b.filter (fun x => !hasL a x)) s).getD (0, 0)) := rfl
  rw [e, lk_filter _ hb.srt]
  cases hl : lk b s with
  | none =>
    have e2 : ofL b s = (0, 0) := by unfold ofL; rw [hl]; rfl
    rw [e2]; rfl
  | some v =>
    have e2 : ofL b s = v := by unfold ofL; rw [hl]; rfl
    rw [e2]
    have hg := hb.gd _ (lk_mem hl)
    have hh := has_of ha hg
    simp only at hh
    simp only [hh]
    by_cases h : v.1 ≤ (ofL a s).1 ∧ v.2 ≤ (ofL a s).2
    · simp only [h, and_self, decide_true, Bool.not_true]
      simp only [mx, Bool.false_eq_true, if_false, Option.getD_none]
      rw [Int.max_eq_left hn.1, Int.max_eq_left hn.2, Int.max_eq_left h.1, Int.max_eq_left h.2]
    · simp [h]
theorem mergeF_ok {a b : List Nd} (ha : Rt a) (hb : Rt b) (la : a.length ≤ 64) (lb : b.length ≤ 64) : mergeF a b = if (mergeL a b).length ≤ 64 then (mergeL a b, 0) else ([], 3) := by
  unfold mergeF; rw [if_pos ⟨ha.right la, hb.right lb⟩]
theorem belowF_ok {a b : List Nd} (ha : Rt a) (hb : Rt b) (la : a.length ≤ 64) (lb : b.length ≤ 64) : belowF a b = (a.all (hasL b), 0) := by
  unfold belowF; rw [if_pos ⟨ha.right la, hb.right lb⟩]
theorem mergeL_comm {a b : List Nd} (ha : Rt a) (hb : Rt b) : mergeL a b = mergeL b a :=
  Rt.ext (merge_rt ha hb) (merge_rt hb ha) (fun s => by rw [of_merge ha hb, of_merge hb ha]; unfold mx; rw [Int.max_comm, Int.max_comm (ofL a s).2])
theorem mergeL_self {a : List Nd} (ha : Rt a) : mergeL a a = a :=
  Rt.ext (merge_rt ha ha) ha (fun s => by rw [of_merge ha ha]; unfold mx; simp)
theorem mergeL_assoc {a b c : List Nd} (ha : Rt a) (hb : Rt b) (hc : Rt c) : mergeL (mergeL a b) c = mergeL a (mergeL b c) :=
  Rt.ext (merge_rt (merge_rt ha hb) hc) (merge_rt ha (merge_rt hb hc)) (fun s => by
    rw [of_merge (merge_rt ha hb) hc, of_merge ha hb, of_merge ha (merge_rt hb hc), of_merge hb hc]; unfold mx; simp only [Int.max_assoc])
theorem below_left {a b : List Nd} (ha : Rt a) (hb : Rt b) : a.all (hasL (mergeL a b)) = true :=
  (all_le ha (merge_rt ha hb)).2 (fun s => by rw [of_merge ha hb]; unfold LE2 mx; simp only; omega)
theorem below_right {a b : List Nd} (ha : Rt a) (hb : Rt b) : b.all (hasL (mergeL a b)) = true := by rw [mergeL_comm ha hb]; exact below_left hb ha
theorem below_both {a b c : List Nd} (ha : Rt a) (hb : Rt b) (hc : Rt c) : (mergeL a b).all (hasL c) = (a.all (hasL c) && b.all (hasL c)) := by
  rw [Bool.eq_iff_iff, Bool.and_eq_true, all_le (merge_rt ha hb) hc, all_le ha hc, all_le hb hc]
  constructor
  · intro h
    refine ⟨fun s => ?_, fun s => ?_⟩ <;>
    · have := h s
      rw [of_merge ha hb] at this
      unfold LE2 mx at *
      simp only at this
      omega
  · rintro ⟨h1, h2⟩ s
    have e1 := h1 s
    have e2 := h2 s
    rw [of_merge ha hb]
    unfold LE2 mx at *
    simp only
    omega
/-- What the law asks for. -/
theorem lattice (a b c : List Nd) (ha : Arg a) (hb : Arg b) (hc : Arg c) :
    (∃ y : Int, (y = 3 ∨ y = 230) ∧ mergeF a b = ([], y) ∧ mergeF b a = ([], y)) ∨
    ∃ ab, Arg ab ∧ mergeF a b = (ab, 0) ∧ mergeF b a = (ab, 0) ∧ mergeF a a = (a, 0) ∧ belowF a ab = (true, 0) ∧ belowF b ab = (true, 0) ∧
      ((∃ y : Int, (y = 3 ∨ y = 230) ∧ mergeF b c = ([], y)) ∨
        ∃ bc x z p q d, Arg bc ∧ Arg d ∧ mergeF b c = (bc, 0) ∧ mergeF ab c = (x, z) ∧ mergeF a bc = (x, z) ∧ belowF a c = (p, 0) ∧ belowF b c = (q, 0) ∧ belowF ab c = (p && q, 0) ∧ deltaF b a = (d, 0) ∧ mergeF a d = (ab, 0)) := by
  by_cases hr : rightL a = true ∧ rightL b = true
  · obtain ⟨ra, rb⟩ := hr
    have la := right_len ra
    have lb := right_len rb
    have ga := right_rt ha.pos ra
    have gb := right_rt hb.pos rb
    have e1 := mergeF_ok ga gb la lb
    have e2 := mergeF_ok gb ga lb la
    rw [← mergeL_comm ga gb] at e2
    by_cases hl : (mergeL a b).length ≤ 64
    · rw [if_pos hl] at e1 e2
      have gab := merge_rt ga gb
      refine .inr ⟨mergeL a b, gab.arg hl, e1, e2, ?_, ?_, ?_, ?_⟩
      · rw [mergeF_ok ga ga la la, mergeL_self ga, if_pos la]
      · rw [belowF_ok ga gab la hl, below_left ga gb]
      · rw [belowF_ok gb gab lb hl, below_right ga gb]
      · by_cases rc : rightL c = true
        · have lc := right_len rc
          have gc := right_rt hc.pos rc
          have e3 := mergeF_ok gb gc lb lc
          by_cases hl2 : (mergeL b c).length ≤ 64
          · rw [if_pos hl2] at e3
            have gbc := merge_rt gb gc
            have e4 := mergeF_ok gab gc hl lc
            have e5 := mergeF_ok ga gbc la hl2
            rw [mergeL_assoc ga gb gc] at e4
            have gd := delta_rt (fun x => !hasL a x) gb
            have ld : (b.filter (fun x => !hasL a x)).length ≤ 64 := Nat.le_trans (List.length_filter_le _ _) lb
            refine .inr ⟨mergeL b c, _, _, a.all (hasL c), b.all (hasL c), b.filter (fun x => !hasL a x), gbc.arg hl2, gd.arg ld, e3, e4, e5, belowF_ok ga gc la lc, belowF_ok gb gc lb lc, ?_, ?_, ?_⟩
            · rw [belowF_ok gab gc hl lc, below_both ga gb gc]
            · unfold deltaF; rw [if_pos ⟨rb, ra⟩]
            · rw [mergeF_ok ga gd la ld, merge_delta ga gb, if_pos hl]
          · rw [if_neg hl2] at e3
            exact .inl ⟨3, .inl rfl, e3⟩
        · exact .inl ⟨230, .inr rfl, by unfold mergeF; rw [if_neg (fun h => rc h.2)]⟩
    · rw [if_neg hl] at e1 e2
      exact .inl ⟨3, .inl rfl, e1, e2⟩
  · refine .inl ⟨230, .inr rfl, ?_, ?_⟩
    · unfold mergeF; rw [if_neg hr]
    · unfold mergeF; rw [if_neg (fun h => hr ⟨h.2, h.1⟩)]
end Go.Proofs.Ytanbfejhhnhabaa
