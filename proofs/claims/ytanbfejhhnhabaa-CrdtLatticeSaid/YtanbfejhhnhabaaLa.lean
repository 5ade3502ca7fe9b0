/- States of counters are a lattice: plain. -/
import Derived.Test.YtanbfejhhnhabaaRs
namespace Go.Proofs.Ytanbfejhhnhabaa
set_option linter.unusedVariables false
set_option linter.unusedSimpArgs false
def Gd (x : Nd) : Prop := nameF x.1 = true ∧ 0 ≤ x.2.1 ∧ x.2.1 ≤ 72057594037927936 ∧ 0 ≤ x.2.2 ∧ x.2.2 ≤ 72057594037927936 ∧ ¬ (x.2.1 = 0 ∧ x.2.2 = 0)
structure Rt (l : List Nd) : Prop where
  srt : Srt l
  gd : ∀ x ∈ l, Gd x
theorem okL_rt : ∀ (l : List Nd) (p : Option ByteArray), Pos l → okL p l = true → ∀ x ∈ l, Gd x
  | [], _, _, _ => by simp
  | x :: r, p, hp, h => by
    simp only [okL, Bool.and_eq_true] at h
    obtain ⟨h1, h2⟩ := h
    simp only [okN, Bool.and_eq_true, decide_eq_true_eq] at h1
    obtain ⟨⟨⟨⟨k1, k2⟩, k3⟩, k4⟩, k5⟩ := h1
    intro y hy
    rcases List.mem_cons.1 hy with rfl | hy
    · have := hp y List.mem_cons_self
      exact ⟨k1, this.1, k3, this.2, k4, fun e => by rw [e.1, e.2] at k5; simp at k5⟩
    · exact okL_rt r (some x.1) (fun z hz => hp z (List.mem_cons_of_mem _ hz)) h2 y hy
theorem rt_okL : ∀ (l : List Nd) (p : Option ByteArray), Rt l → (∀ q, p = some q → ∀ x ∈ l, bts q < bts x.1) → okL p l = true
  | [], _, _, _ => rfl
  | x :: r, p, h, hq => by
    obtain ⟨h1, h2⟩ := List.pairwise_cons.1 h.srt
    have hx := h.gd x List.mem_cons_self
    obtain ⟨k1, k2, k3, k4, k5, k6⟩ := hx
    simp only [okL, okN, Bool.and_eq_true, decide_eq_true_eq]
    refine ⟨⟨⟨⟨⟨k1, ?_⟩, k3⟩, k5⟩, ?_⟩, rt_okL r (some x.1) ⟨h2, fun y hy => h.gd y (List.mem_cons_of_mem _ hy)⟩ ?_⟩
    · cases p with
      | none => rfl
      | some q =>
        show Op.bytesLess q.toList x.1.toList = true
        rw [bytesLess_lt]
        simpa using hq q rfl x List.mem_cons_self
    · by_cases e : x.2.1 = 0
      · have e2 : ¬ x.2.2 = 0 := fun e3 => k6 ⟨e, e3⟩
        simp [e, e2]
      · simp [e]
    · rintro q hq2 y hy
      cases hq2
      exact h1 y hy
theorem Rt.right {l : List Nd} (h : Rt l) (hl : l.length ≤ 64) : rightL l = true := by
  unfold rightL
  simp only [Bool.and_eq_true, decide_eq_true_eq]
  exact ⟨hl, rt_okL l none h (by simp)⟩
theorem right_rt {l : List Nd} (hp : Pos l) (h : rightL l = true) : Rt l := by
  refine ⟨(right_good h).st, ?_⟩
  unfold rightL at h
  simp only [Bool.and_eq_true] at h
  exact okL_rt l none hp h.2
theorem Rt.pos {l : List Nd} (h : Rt l) : Pos l := fun x hx => ⟨(h.gd x hx).2.1, (h.gd x hx).2.2.2.1⟩
theorem Rt.arg {l : List Nd} (h : Rt l) (hl : l.length ≤ 64) : Arg l := Good.arg (right_good (h.right hl)) h.pos (by omega)
theorem of_mem {l : List Nd} (h : Rt l) {x : Nd} (hx : x ∈ l) : ofL l x.1 = x.2 := by unfold ofL; rw [lk_of_mem h.srt hx]; rfl
theorem lk_of {l : List Nd} (h : Rt l) (s : ByteArray) : lk l s = if ofL l s = (0, 0) then none else some (ofL l s) := by
  unfold ofL
  cases hl : lk l s with
  | none => rfl
  | some v =>
    have := (h.gd _ (lk_mem hl)).2.2.2.2.2
    rw [if_neg]
    · rfl
    · intro e
      simp only [Option.getD_some] at e
      subst e
      exact this ⟨rfl, rfl⟩
theorem Rt.ext {a b : List Nd} (ha : Rt a) (hb : Rt b) (h : ∀ s, ofL a s = ofL b s) : a = b :=
  Srt.ext ha.srt hb.srt (fun s => by rw [lk_of ha, lk_of hb, h s])
theorem of_nn {l : List Nd} (h : Rt l) (s : ByteArray) : 0 ≤ (ofL l s).1 ∧ 0 ≤ (ofL l s).2 := by
  unfold ofL
  cases hl : lk l s with
  | none => simp
  | some v => have := h.pos _ (lk_mem hl); simpa using this
def mx (p q : Int × Int) : Int × Int := (max p.1 q.1, max p.2 q.2)
theorem of_merge {a b : List Nd} (ha : Rt a) (hb : Rt b) (s : ByteArray) : ofL (mergeL a b) s = mx (ofL a s) (ofL b s) := by
  have e : ofL (mergeL a b) s = ((lk (mergeL a b) s).getD (0, 0)) := rfl
  rw [e, mergeL_lk hb.srt]
  cases hl : lk b s with
  | some v => simp [mx, ofL, hl]
  | none =>
    have hn := of_nn ha s
    have e2 : ofL b s = (0, 0) := by unfold ofL; rw [hl]; rfl
    rw [e2]
    show ofL a s = _
    unfold mx
    rw [Int.max_eq_left hn.1, Int.max_eq_left hn.2]
theorem merge_rt {a b : List Nd} (ha : Rt a) (hb : Rt b) : Rt (mergeL a b) := by
  refine ⟨mergeL_srt ha.srt, fun x hx => ?_⟩
  have h1 := lk_of_mem (mergeL_srt ha.srt) hx
  rw [mergeL_lk hb.srt] at h1
  cases hl : lk b x.1 with
  | none =>
    rw [hl] at h1
    exact ha.gd x (by have := lk_mem h1; simpa using this)
  | some v =>
    rw [hl] at h1
    have h2 : x.2 = (max (ofL a x.1).1 v.1, max (ofL a x.1).2 v.2) := by simpa using h1.symm
    have hb1 := hb.gd _ (lk_mem hl)
    have hn := of_nn ha x.1
    have hbd : (ofL a x.1).1 ≤ 72057594037927936 ∧ (ofL a x.1).2 ≤ 72057594037927936 := by
      unfold ofL
      cases hla : lk a x.1 with
      | none => simp
      | some z => have := ha.gd _ (lk_mem hla); exact ⟨this.2.2.1, this.2.2.2.2.1⟩
    obtain ⟨k1, k2, k3, k4, k5, k6⟩ := hb1
    simp only at k1 k2 k3 k4 k5 k6
    refine ⟨k1, ?_⟩
    rw [h2]
    simp only
    omega
theorem has_of {l : List Nd} (h : Rt l) {x : Nd} (hx : Gd x) : hasL l x = decide (x.2.1 ≤ (ofL l x.1).1 ∧ x.2.2 ≤ (ofL l x.1).2) := by
  obtain ⟨k1, k2, k3, k4, k5, k6⟩ := hx
  unfold hasL ofL
  cases hl : lk l x.1 with
  | some p => simp
  | none =>
    simp only [Option.getD_none]
    symm
    rw [decide_eq_false_iff_not]
    intro ⟨h1, h2⟩
    exact k6 ⟨by omega, by omega⟩
def LE2 (p q : Int × Int) : Prop := p.1 ≤ q.1 ∧ p.2 ≤ q.2
theorem all_le {a c : List Nd} (ha : Rt a) (hc : Rt c) : a.all (hasL c) = true ↔ ∀ s, LE2 (ofL a s) (ofL c s) := by
  rw [List.all_eq_true]
  constructor
  · intro h s
    cases hl : lk a s with
    | none =>
      have e2 : ofL a s = (0, 0) := by unfold ofL; rw [hl]; rfl
      rw [e2]
      exact of_nn hc s
    | some v =>
      have hm := lk_mem hl
      have h1 := h _ hm
      rw [has_of hc (ha.gd _ hm)] at h1
      have e2 : ofL a s = v := by unfold ofL; rw [hl]; rfl
      rw [e2]
      have h3 := of_decide_eq_true h1
      exact h3
  · intro h x hx
    rw [has_of hc (ha.gd x hx)]
    have := h x.1
    rw [of_mem ha hx] at this
    unfold LE2 at this
    exact decide_eq_true this
theorem lk_filter (p : Nd → Bool) : ∀ {l : List Nd}, Srt l → ∀ s, lk (l.filter p) s = match lk l s with | some v => if p (s, v) = true then some v else none | none => none
  | [], _, s => rfl
  | x :: r, h, s => by
    obtain ⟨h1, h2⟩ := List.pairwise_cons.1 h
    have ih := lk_filter p h2 s
    by_cases e : x.1 = s
    · subst e
      have hn : lk r x.1 = none := lk_none (fun z hz => (bts_ne (h1 z hz)).symm)
      rw [hn] at ih
      have e0 : lk (x :: r) x.1 = some x.2 := by simp [lk]
      rw [e0]
      by_cases hp : p x = true
      · rw [List.filter_cons_of_pos hp]
        have : p (x.1, x.2) = true := hp
        simp [lk, this]
      · rw [List.filter_cons_of_neg hp, ih]
        have : ¬ p (x.1, x.2) = true := hp
        simp [this]
    · simp only [lk, if_neg e]
      by_cases hp : p x = true
      · rw [List.filter_cons_of_pos hp]
        simp only [lk, if_neg e]
        exact ih
      · rw [List.filter_cons_of_neg hp]
        exact ih
theorem delta_rt {b : List Nd} (p : Nd → Bool) (hb : Rt b) : Rt (b.filter p) :=
  ⟨hb.srt.sublist List.filter_sublist, fun x hx => hb.gd x (List.mem_filter.1 hx).1⟩
theorem merge_delta {a b : List Nd} (ha : Rt a) (hb : Rt b) : mergeL a (b.filter (fun x => !hasL a x)) = mergeL a b := by
  refine Rt.ext (merge_rt ha (delta_rt _ hb)) (merge_rt ha hb) (fun s => ?_)
  rw [of_merge ha (delta_rt _ hb), of_merge ha hb]
  have hn := of_nn ha s
  have e : ofL (b.filter (fun x => !hasL a x)) s = ((lk (b.filter (fun x => !hasL a x)) s).getD (0, 0)) := rfl
  rw [e, lk_filter _ hb.srt]
  cases hl : lk b s with
  | none =>
    have e2 : ofL b s = (0, 0) := by unfold ofL; rw [hl]; rfl
    rw [e2]; rfl
  | some v =>
    have e2 : ofL b s = v := by unfold ofL; rw [hl]; rfl
    rw [e2]
    have hg := hb.gd _ (lk_mem hl)
    have hh := has_of ha hg
    simp only at hh
    simp only [hh]
    by_cases h : v.1 ≤ (ofL a s).1 ∧ v.2 ≤ (ofL a s).2
    · simp only [h, and_self, decide_true, Bool.not_true]
      simp only [mx, Bool.false_eq_true, if_false, Option.getD_none]
      rw [Int.max_eq_left hn.1, Int.max_eq_left hn.2, Int.max_eq_left h.1, Int.max_eq_left h.2]
    · simp [h]
theorem mergeF_ok {a b : List Nd} (ha : Rt a) (hb : Rt b) (la : a.length ≤ 64) (lb : b.length ≤ 64) : mergeF a b = if (mergeL a b).length ≤ 64 then (mergeL a b, 0) else ([], 3) := by
  unfold mergeF; rw [if_pos ⟨ha.right la, hb.right lb⟩]
theorem belowF_ok {a b : List Nd} (ha : Rt a) (hb : Rt b) (la : a.length ≤ 64) (lb : b.length ≤ 64) : belowF a b = (a.all (hasL b), 0) := by
  unfold belowF; rw [if_pos ⟨ha.right la, hb.right lb⟩]
theorem mergeL_comm {a b : List Nd} (ha : Rt a) (hb : Rt b) : mergeL a b = mergeL b a :=
  Rt.ext (merge_rt ha hb) (merge_rt hb ha) (fun s => by rw [of_merge ha hb, of_merge hb ha]; unfold mx; rw [Int.max_comm, Int.max_comm (ofL a s).2])
theorem mergeL_self {a : List Nd} (ha : Rt a) : mergeL a a = a :=
  Rt.ext (merge_rt ha ha) ha (fun s => by rw [of_merge ha ha]; unfold mx; simp)
theorem mergeL_assoc {a b c : List Nd} (ha : Rt a) (hb : Rt b) (hc : Rt c) : mergeL (mergeL a b) c = mergeL a (mergeL b c) :=
  Rt.ext (merge_rt (merge_rt ha hb) hc) (merge_rt ha (merge_rt hb hc)) (fun s => by
    rw [of_merge (merge_rt ha hb) hc, of_merge ha hb, of_merge ha (merge_rt hb hc), of_merge hb hc]; unfold mx; simp only [Int.max_assoc])
theorem below_left {a b : List Nd} (ha : Rt a) (hb : Rt b) : a.all (hasL (mergeL a b)) = true :=
  (all_le ha (merge_rt ha hb)).2 (fun s => by rw [of_merge ha hb]; unfold LE2 mx; simp only; omega)
theorem below_right {a b : List Nd} (ha : Rt a) (hb : Rt b) : b.all (hasL (mergeL a b)) = true := by rw [mergeL_comm ha hb]; exact below_left hb ha
theorem below_both {a b c : List Nd} (ha : Rt a) (hb : Rt b) (hc : Rt c) : (mergeL a b).all (hasL c) = (a.all (hasL c) && b.all (hasL c)) := by
  rw [Bool.eq_iff_iff, Bool.and_eq_true, all_le (merge_rt ha hb) hc, all_le ha hc, all_le hb hc]
  constructor
  · intro h
    refine ⟨fun s => ?_, fun s => ?_⟩ <;>
    · have := h s
      rw [of_merge ha hb] at this
      unfold LE2 mx at *
      simp only at this
      omega
  · rintro ⟨h1, h2⟩ s
    have e1 := h1 s
    have e2 := h2 s
    rw [of_merge ha hb]
    unfold LE2 mx at *
    simp only
    omega
/-- What the law asks for. -/
theorem lattice (a b c : List Nd) (ha : Arg a) (hb : Arg b) (hc : Arg c) :
    (∃ y : Int, (y = 3 ∨ y = 230) ∧ mergeF a b = ([], y) ∧ mergeF b a = ([], y)) ∨
    ∃ ab, Arg ab ∧ mergeF a b = (ab, 0) ∧ mergeF b a = (ab, 0) ∧ mergeF a a = (a, 0) ∧ belowF a ab = (true, 0) ∧ belowF b ab = (true, 0) ∧
      ((∃ y : Int, (y = 3 ∨ y = 230) ∧ mergeF b c = ([], y)) ∨
        ∃ bc x z p q d, Arg bc ∧ Arg d ∧ mergeF b c = (bc, 0) ∧ mergeF ab c = (x, z) ∧ mergeF a bc = (x, z) ∧ belowF a c = (p, 0) ∧ belowF b c = (q, 0) ∧ belowF ab c = (p && q, 0) ∧ deltaF b a = (d, 0) ∧ mergeF a d = (ab, 0)) := by
  by_cases hr : rightL a = true ∧ rightL b = true
  · obtain ⟨ra, rb⟩ := hr
    have la := right_len ra
    have lb := right_len rb
    have ga := right_rt ha.pos ra
    have gb := right_rt hb.pos rb
    have e1 := mergeF_ok ga gb la lb
    have e2 := mergeF_ok gb ga lb la
    rw [← mergeL_comm ga gb] at e2
    by_cases hl : (mergeL a b).length ≤ 64
    · rw [if_pos hl] at e1 e2
      have gab := merge_rt ga gb
      refine .inr ⟨mergeL a b, gab.arg hl, e1, e2, ?_, ?_, ?_, ?_⟩
      · rw [mergeF_ok ga ga la la, mergeL_self ga, if_pos la]
      · rw [belowF_ok ga gab la hl, below_left ga gb]
      · rw [belowF_ok gb gab lb hl, below_right ga gb]
      · by_cases rc : rightL c = true
        · have lc := right_len rc
          have gc := right_rt hc.pos rc
          have e3 := mergeF_ok gb gc lb lc
          by_cases hl2 : (mergeL b c).length ≤ 64
          · rw [if_pos hl2] at e3
            have gbc := merge_rt gb gc
            have e4 := mergeF_ok gab gc hl lc
            have e5 := mergeF_ok ga gbc la hl2
            rw [mergeL_assoc ga gb gc] at e4
            have gd := delta_rt (fun x => !hasL a x) gb
            have ld : (b.filter (fun x => !hasL a x)).length ≤ 64 := Nat.le_trans (List.length_filter_le _ _) lb
            refine .inr ⟨mergeL b c, _, _, a.all (hasL c), b.all (hasL c), b.filter (fun x => !hasL a x), gbc.arg hl2, gd.arg ld, e3, e4, e5, belowF_ok ga gc la lc, belowF_ok gb gc lb lc, ?_, ?_, ?_⟩
            · rw [belowF_ok gab gc hl lc, below_both ga gb gc]
            · unfold deltaF; rw [if_pos ⟨rb, ra⟩]
            · rw [mergeF_ok ga gd la ld, merge_delta ga gb, if_pos hl]
          · rw [if_neg hl2] at e3
            exact .inl ⟨3, .inl rfl, e3⟩
        · exact .inl ⟨230, .inr rfl, by unfold mergeF; rw [if_neg (fun h => rc h.2)]⟩
    · rw [if_neg hl] at e1 e2
      exact .inl ⟨3, .inl rfl, e1, e2⟩
  · refine .inl ⟨230, .inr rfl, ?_, ?_⟩
    · unfold mergeF; rw [if_neg hr]
    · unfold mergeF; rw [if_neg (fun h => hr ⟨h.2, h.1⟩)]
end Go.Proofs.Ytanbfejhhnhabaa
