/- The package delta, plain: DeltaJoins, DeltaSums. -/
import Derived.Test.YtmilnhicmeblhaaPm
namespace Go.Proofs.Ytmilnhicmeblhaa
open Go.RowKit Go.Sort
set_option linter.unusedVariables false
set_option linter.unusedSimpArgs false
/-- A change at a key that is right and little. -/
def Lc (k : ByteArray) (a : Option Cv) : Prop := ∀ n, a = some n → inW n.1 ∧ n.1 < 4611686018427387904 ∧ shF (k, n) = true
theorem joinF_plain (k : ByteArray) (x y : Int) (xr : Bool) (h : IntKind.u64.wrap (x + y) = x + y) (hs : xr = false → x + y ≠ 0) : joinF k (some (x, xr, false)) (some (y, false, false)) = some (x + y, xr, false) := by
  simp only [joinF, h]
  rw [if_neg (by simp), if_neg (by simp), if_neg (fun h2 => hs h2.2 h2.1)]
theorem joinF_over (k : ByteArray) (a : Option Cv) (y : Int) (yr yg : Bool) (h : yr = true ∨ yg = true) : joinF k a (some (y, yr, yg)) = some (y, yr, yg) := by
  cases a with
  | none => rfl
  | some a =>
    simp only [joinF]
    rw [if_pos (h.elim (fun h => .inr h) (fun h => .inl h))]
theorem joinF_gone (k : ByteArray) (x y : Int) (xr : Bool) : joinF k (some (x, xr, true)) (some (y, false, false)) = some (y, true, false) := by
  simp [joinF]
theorem joinF_left (k : ByteArray) (b : Option Cv) : joinF k none b = b := by cases b <;> rfl
theorem apply_pt (k : ByteArray) (o : Option Int) (a b : Option Cv) (ho : ∀ n, o = some n → inW n) (ha : Lc k a) (hb : Lc k b) :
    turnF false k (turnF false k o a) b = turnF false k o (joinF k a b) := by
  rcases b with _ | ⟨y, yr, yg⟩
  · cases a <;> rfl
  · have h2 := hb _ rfl
    rcases a with _ | ⟨x, xr, xg⟩
    · rfl
    · have h1 := ha _ rfl
      have h0 : inW (o.getD 0) := by
        cases o with
        | none => unfold inW; simp
        | some n => exact ho _ rfl
      unfold inW at *
      by_cases hy : yr = true ∨ yg = true
      · rw [joinF_over k _ y yr yg hy]
        rcases hy with h | h
        · subst h
          have hyg : yg = false := by
            cases yg with
            | false => rfl
            | true => simp [shF] at h2
          subst hyg
          simp [turnF]
        · subst h
          simp [turnF]
      · have hyr : yr = false := by simpa using fun h => hy (.inl h)
        have hyg : yg = false := by simpa using fun h => hy (.inr h)
        subst hyr hyg
        simp only [shF] at h1 h2
        cases xg with
        | true =>
          rw [joinF_gone]
          simp [turnF, IntKind.wrap_u64]
          omega
        | false =>
          have e1 : IntKind.u64.wrap (x + y) = x + y := by rw [IntKind.wrap_u64]; omega
          have hs : xr = false → x + y ≠ 0 := by
            rintro rfl
            simp at h1 h2
            omega
          rw [joinF_plain k x y xr e1 hs]
          cases xr with
          | true => simp [turnF, e1]
          | false =>
            simp [turnF, IntKind.wrap_u64]
            omega
theorem add_pt (k : ByteArray) (o : Option Int) (a b : Option Cv) (ho : ∀ n, o = some n → inW n) (ha : Lc k a) (hb : Lc k b) (hc : ∀ x y, a = some x → b = some y → y.2.1 = false ∧ y.2.2 = false ∧ x.2.2 = false) :
    turnF true k (turnF true k o a) b = turnF true k o (joinF k a b) := by
  rcases b with _ | ⟨y, yr, yg⟩
  · cases a <;> rfl
  · have h2 := hb _ rfl
    rcases a with _ | ⟨x, xr, xg⟩
    · rfl
    · have h1 := ha _ rfl
      obtain ⟨e1, e2, e3⟩ := hc _ _ rfl rfl
      simp only at e1 e2 e3
      subst e1 e2 e3
      have h0 : inW (o.getD 0) := by
        cases o with
        | none => unfold inW; simp
        | some n => exact ho _ rfl
      unfold inW at *
      simp only [shF] at h1 h2
      have e1 : IntKind.u64.wrap (x + y) = x + y := by rw [IntKind.wrap_u64]; omega
      have hs : xr = false → x + y ≠ 0 := by
        rintro rfl
        simp at h1 h2
        omega
      rw [joinF_plain k x y xr e1 hs]
      simp [turnF, IntKind.wrap_u64]
      omega
theorem assoc_pt (k : ByteArray) (a b c : Option Cv) (ha : Lc k a) (hb : Lc k b) (hc : Lc k c) : joinF k (joinF k a b) c = joinF k a (joinF k b c) := by
  rcases c with _ | ⟨z, zr, zg⟩
  · cases b <;> cases a <;> rfl
  · rcases b with _ | ⟨y, yr, yg⟩
    · rw [joinF_left]; cases a <;> rfl
    · rcases a with _ | ⟨x, xr, xg⟩
      · rw [joinF_left, joinF_left]
      · have h1 := ha _ rfl
        have h2 := hb _ rfl
        have h3 := hc _ rfl
        unfold inW at *
        by_cases hz : zr = true ∨ zg = true
        · rw [joinF_over k _ z zr zg hz, joinF_over k (some (y, yr, yg)) z zr zg hz, joinF_over k _ z zr zg hz]
        · have hzr : zr = false := by simpa using fun h => hz (.inl h)
          have hzg : zg = false := by simpa using fun h => hz (.inr h)
          subst hzr hzg
          simp only [shF] at h1 h2 h3
          simp at h3
          cases yg with
          | true =>
            rw [joinF_over k _ y yr true (.inr rfl), joinF_gone, joinF_over k _ z true false (.inl rfl)]
          | false =>
            have e2 : IntKind.u64.wrap (y + z) = y + z := by rw [IntKind.wrap_u64]; omega
            cases yr with
            | true =>
              rw [joinF_over k _ y true false (.inl rfl), joinF_plain k y z true e2 (by simp), joinF_over k _ (y + z) true false (.inl rfl)]
            | false =>
              simp at h2
              rw [joinF_plain k y z false e2 (by intro _; omega)]
              cases xg with
              | true =>
                rw [joinF_gone, joinF_gone, joinF_plain k y z true e2 (by simp)]
              | false =>
                have e1 : IntKind.u64.wrap (x + y) = x + y := by rw [IntKind.wrap_u64]; omega
                have e3 : IntKind.u64.wrap (x + y + z) = x + y + z := by rw [IntKind.wrap_u64]; omega
                have e4 : IntKind.u64.wrap (x + (y + z)) = x + (y + z) := by rw [IntKind.wrap_u64]; omega
                rw [joinF_plain k x y xr e1 (by intro _; omega), joinF_plain k (x + y) z xr e3 (by intro _; omega), joinF_plain k x (y + z) xr e4 (by intro _; omega), Int.add_assoc]
def little (l : List Ch) : Bool := l.all fun x => decide (x.2.1 < 4611686018427387904)
/-- No key of the first list is reset, or gone, in the second one, or gone in the first. -/
def clearB (a b : List Ch) : Bool := b.all fun y => a.all fun x => !decide (x.1 = y.1) || (!y.2.2.1 && !y.2.2.2 && !x.2.2.2)
theorem lc_of {l : List Ch} (hr : rightH l = true) (hw : WH l) (hl : little l = true) (k : ByteArray) : Lc k (lk l k) := by
  intro n e
  have hm := lk_mem e
  obtain ⟨_, _, h3, _⟩ := rightH_iff.1 hr
  refine ⟨hw _ hm, ?_, h3 _ hm⟩
  have := List.all_eq_true.1 hl _ hm
  simpa using this
theorem joins_apply {o : List Ct} {a b : List Ch} (wo : WC o) (wa : WH a) (wb : WH b) (la : little a = true) (lb : little b = true) (hj : (joinE a b).2 = 0)
    (h1 : (turnE false o a).2 = 0) (h2 : (turnE false (turnE false o a).1 b).2 = 0) (h3 : (turnE false o (joinE a b).1).2 = 0) : (turnE false (turnE false o a).1 b).1 = (turnE false o (joinE a b).1).1 := by
  obtain ⟨j1, j2, j3, j4⟩ := joinE_ok hj
  obtain ⟨x1, x2, x3, x4⟩ := turnE_ok h1
  obtain ⟨y1, y2, y3, y4⟩ := turnE_ok h2
  obtain ⟨z1, z2, z3, z4⟩ := turnE_ok h3
  rw [y3, z3]
  obtain ⟨_, so, _⟩ := rightC_iff.1 x1
  obtain ⟨_, sx, _⟩ := rightC_iff.1 y1
  obtain ⟨_, sa, _⟩ := rightH_iff.1 j1
  obtain ⟨_, sb, _⟩ := rightH_iff.1 j2
  obtain ⟨_, sj, _⟩ := rightH_iff.1 z2
  obtain ⟨p1, p2⟩ := made_srt _ (turnF_none false) _ _ sx sb
  obtain ⟨q1, q2⟩ := made_srt _ (turnF_none false) _ _ so sj
  refine Srt.ext p1 q1 (fun k => ?_)
  rw [p2, q2, x3, j3, (made_srt _ (turnF_none false) _ _ so sa).2, (made_srt _ joinF_none _ _ sa sb).2]
  exact apply_pt k _ _ _ (fun n e => wo.lk e) (lc_of j1 wa la k) (lc_of j2 wb lb k)
theorem joins_add {o : List Ct} {a b : List Ch} (wo : WC o) (wa : WH a) (wb : WH b) (la : little a = true) (lb : little b = true) (hc : clearB a b = true) (hj : (joinE a b).2 = 0)
    (h1 : (turnE true o a).2 = 0) (h2 : (turnE true (turnE true o a).1 b).2 = 0) (h3 : (turnE true o (joinE a b).1).2 = 0) : (turnE true (turnE true o a).1 b).1 = (turnE true o (joinE a b).1).1 := by
  obtain ⟨j1, j2, j3, j4⟩ := joinE_ok hj
  obtain ⟨x1, x2, x3, x4⟩ := turnE_ok h1
  obtain ⟨y1, y2, y3, y4⟩ := turnE_ok h2
  obtain ⟨z1, z2, z3, z4⟩ := turnE_ok h3
  rw [y3, z3]
  obtain ⟨_, so, _⟩ := rightC_iff.1 x1
  obtain ⟨_, sx, _⟩ := rightC_iff.1 y1
  obtain ⟨_, sa, _⟩ := rightH_iff.1 j1
  obtain ⟨_, sb, _⟩ := rightH_iff.1 j2
  obtain ⟨_, sj, _⟩ := rightH_iff.1 z2
  obtain ⟨p1, p2⟩ := made_srt _ (turnF_none true) _ _ sx sb
  obtain ⟨q1, q2⟩ := made_srt _ (turnF_none true) _ _ so sj
  refine Srt.ext p1 q1 (fun k => ?_)
  rw [p2, q2, x3, j3, (made_srt _ (turnF_none true) _ _ so sa).2, (made_srt _ joinF_none _ _ sa sb).2]
  refine add_pt k _ _ _ (fun n e => wo.lk e) (lc_of j1 wa la k) (lc_of j2 wb lb k) (fun x y ex ey => ?_)
  have h := List.all_eq_true.1 (List.all_eq_true.1 hc _ (lk_mem ey)) _ (lk_mem ex)
  simp at h
  exact ⟨h.1.1, h.1.2, h.2⟩
theorem joins_assoc {a b c : List Ch} (wa : WH a) (wb : WH b) (wc : WH c) (la : little a = true) (lb : little b = true) (lc : little c = true) (hj : (joinE a b).2 = 0)
    (h1 : (joinE (joinE a b).1 c).2 = 0) (h2 : (joinE b c).2 = 0) (h3 : (joinE a (joinE b c).1).2 = 0) : (joinE (joinE a b).1 c).1 = (joinE a (joinE b c).1).1 := by
  obtain ⟨j1, j2, j3, j4⟩ := joinE_ok hj
  obtain ⟨x1, x2, x3, x4⟩ := joinE_ok h1
  obtain ⟨y1, y2, y3, y4⟩ := joinE_ok h2
  obtain ⟨z1, z2, z3, z4⟩ := joinE_ok h3
  rw [x3, z3]
  obtain ⟨_, sa, _⟩ := rightH_iff.1 j1
  obtain ⟨_, sb, _⟩ := rightH_iff.1 j2
  obtain ⟨_, sc, _⟩ := rightH_iff.1 x2
  obtain ⟨_, sj, _⟩ := rightH_iff.1 x1
  obtain ⟨_, sk, _⟩ := rightH_iff.1 z2
  obtain ⟨p1, p2⟩ := made_srt _ joinF_none _ _ sj sc
  obtain ⟨q1, q2⟩ := made_srt _ joinF_none _ _ sa sk
  refine Srt.ext p1 q1 (fun k => ?_)
  rw [p2, q2, j3, y3, (made_srt _ joinF_none _ _ sa sb).2, (made_srt _ joinF_none _ _ sb sc).2]
  exact assoc_pt k _ _ _ (lc_of j1 wa la k) (lc_of j2 wb lb k) (lc_of x2 wc lc k)
/-! DeltaSums. -/
/-- Which keys never fell: the newest entry ahead. -/
abbrev Stm := List (ByteArray × Bool)
def fellB (m : Stm) (c : Ch) : Bool := c.2.2.2 || (c.2.2.1 && decide (0 < c.2.1)) || (c.2.2.1 && (lk m c.1).isSome)
def sumStep (m : Stm) (c : Ch) : Stm := if fellB m c = true then (c.1, false) :: m else if (lk m c.1).isSome = true then m else (c.1, true) :: m
theorem sumStep_other (m : Stm) (c : Ch) {k : ByteArray} (h : c.1 ≠ k) : lk (sumStep m c) k = lk m k := by
  unfold sumStep
  split
  · rw [lk, if_neg h]
  · split
    · rfl
    · rw [lk, if_neg h]
theorem sumStep_same (m m' : Stm) (c : Ch) (h : lk m c.1 = lk m' c.1) : lk (sumStep m c) c.1 = lk (sumStep m' c) c.1 := by
  unfold sumStep fellB
  rw [h]
  split
  · simp [lk]
  · split
    · exact h
    · simp [lk]
theorem sum_fold : ∀ (d : List Ch) (m : Stm), Srt d → ∀ k, lk (d.foldl sumStep m) k = match lk d k with | none => lk m k | some c => lk (sumStep m (k, c)) k
  | [], m, _, k => rfl
  | c :: r, m, h, k => by
    have hp := List.pairwise_cons.1 h
    rw [List.foldl_cons, sum_fold r _ hp.2 k, lk]
    by_cases e : c.1 = k
    · subst e
      rw [lk_lt hp.1, if_pos rfl]
    · rw [if_neg e]
      cases hr : lk r k with
      | none => exact sumStep_other m c e
      | some v => exact sumStep_same _ _ (k, v) (sumStep_other m c e)
structure SumI (last total : List Ct) (m : Stm) : Prop where
  rl : rightC last = true
  rt : rightC total = true
  wl : WC last
  wt : WC total
  new : ∀ k, lk m k = none → lk last k = none ∧ lk total k = none
  same : ∀ k, lk m k = some true → ∃ n, lk last k = some n ∧ lk total k = some n
theorem SumI.start : SumI [] [] [] := ⟨rfl, rfl, (by intro x h; cases h), (by intro x h; cases h), fun _ _ => ⟨rfl, rfl⟩, fun _ h => by cases h⟩
theorem SumI.step {last total now : List Ct} {m : Stm} (h : SumI last total m) (wn : WC now) (h1 : (diffE last now).2 = 0) (h2 : (turnE true total (diffE last now).1).2 = 0) :
    SumI now (turnE true total (diffE last now).1).1 ((diffE last now).1.foldl sumStep m) := by
  obtain ⟨x1, x2, x3, x4⟩ := diffE_ok h1
  obtain ⟨y1, y2, y3, y4⟩ := turnE_ok h2
  obtain ⟨r1, r2⟩ := diffE_right h.wl wn
  obtain ⟨t1, t2⟩ := turnE_right (s := true) h.wt r2
  obtain ⟨_, sl, _⟩ := rightC_iff.1 x1
  obtain ⟨_, sn, _⟩ := rightC_iff.1 x2
  obtain ⟨_, st, _⟩ := rightC_iff.1 y1
  obtain ⟨_, sd, _⟩ := rightH_iff.1 r1
  have ed : ∀ k, lk (diffE last now).1 k = diffF k (lk last k) (lk now k) := fun k => by rw [x3]; exact (made_srt _ diffF_none _ _ sl sn).2 k
  have et : ∀ k, lk (turnE true total (diffE last now).1).1 k = turnF true k (lk total k) (diffF k (lk last k) (lk now k)) := fun k => by
    rw [y3, (made_srt _ (turnF_none true) _ _ st sd).2, ed]
  refine ⟨x2, t1, wn, t2, fun k hk => ?_, fun k hk => ?_⟩
  · rw [sum_fold _ _ sd, ed] at hk
    rw [et]
    cases hd : diffF k (lk last k) (lk now k) with
    | none =>
      rw [hd] at hk
      obtain ⟨n1, n2⟩ := h.new k hk
      rw [n2]
      rw [n1] at hd
      cases hn : lk now k with
      | none => exact ⟨rfl, rfl⟩
      | some y => rw [hn] at hd; cases hd
    | some c =>
      rw [hd] at hk
      exfalso
      simp only [sumStep] at hk
      split at hk
      · rw [lk, if_pos rfl] at hk; cases hk
      · split at hk
        · rename_i h5; rw [hk] at h5; cases h5
        · rw [lk, if_pos rfl] at hk; cases hk
  · rw [sum_fold _ _ sd, ed] at hk
    rw [et]
    cases hd : diffF k (lk last k) (lk now k) with
    | none =>
      rw [hd] at hk
      obtain ⟨n, n1, n2⟩ := h.same k hk
      rw [n1] at hd
      refine ⟨n, ?_, by rw [n2]; rfl⟩
      cases hn : lk now k with
      | none => rw [hn] at hd; cases hd
      | some y =>
        rw [hn] at hd
        simp only [diffF] at hd
        split at hd
        · cases hd
        · split at hd
          · rename_i e; rw [e]
          · cases hd
    | some c =>
      obtain ⟨cn, cr, cg⟩ := c
      rw [hd] at hk
      simp only [sumStep] at hk
      split at hk
      · rw [lk, if_pos rfl] at hk; cases hk
      · rename_i hf
        simp [fellB] at hf
        obtain ⟨⟨f1, f2⟩, f3⟩ := hf
        subst f1
        split at hk
        · rename_i hks
          obtain ⟨n, n1, n2⟩ := h.same k hk
          have hr : cr = false := by
            cases cr with
            | false => rfl
            | true => have := f3 rfl; rw [hk] at this; cases this
          subst hr
          rw [n1] at hd
          rw [n2]
          have hin := h.wl.lk n1
          cases hn : lk now k with
          | none => rw [hn] at hd; cases hd
          | some y =>
            have hin2 := wn.lk hn
            rw [hn] at hd
            unfold inW at hin hin2
            simp only [diffF] at hd
            split at hd
            · cases hd
            · split at hd
              · cases hd
              · cases hd
                refine ⟨y, rfl, ?_⟩
                simp [turnF, IntKind.wrap_u64]
                omega
        · rename_i hks
          have hn0 : lk m k = none := by simpa using hks
          obtain ⟨n1, n2⟩ := h.new k hn0
          rw [n1] at hd
          rw [n2]
          cases hn : lk now k with
          | none => rw [hn] at hd; cases hd
          | some y =>
            have hin2 := wn.lk hn
            unfold inW at hin2
            rw [hn] at hd
            simp only [diffF] at hd
            cases hd
            refine ⟨_, rfl, ?_⟩
            simp [turnF, IntKind.wrap_u64]
            omega
theorem SumI.found {last total : List Ct} {m : Stm} (h : SumI last total m) {x : Ct} (hx : x ∈ last) (hm : lk m x.1 = some true) : x ∈ total := by
  obtain ⟨n, h1, h2⟩ := h.same _ hm
  obtain ⟨_, sl, _⟩ := rightC_iff.1 h.rl
  rw [lk_of sl hx] at h1
  cases h1
  exact lk_mem h2
theorem SumI.diff_no {last total now : List Ct} {m : Stm} (h : SumI last total m) (h1 : (diffE last now).2 ≠ 0) : rightC now = false ∨ (diffE last now).2 = 3 := by
  rcases (diffE_no h1).2 with h2 | h2 | h2
  · exact .inr h2
  · rw [h.rl] at h2; cases h2
  · exact .inl h2
theorem SumI.add_no {last total now : List Ct} {m : Stm} (h : SumI last total m) (wn : WC now) (h2 : (turnE true total (diffE last now).1).2 ≠ 0) : (turnE true total (diffE last now).1).2 = 3 :=
  (turnE_no h2).2 h.rt (diffE_right h.wl wn).1 rfl
end Go.Proofs.Ytmilnhicmeblhaa
