/- The reference's find and Name, as contracts. -/
import Derived.Test.YtanbfejhhnhabaaJc5
import Derived.Test.YtanbfejhhnhabaaJc6
import Derived.Test.YtanbfejhhnhabaaPCrdtCountsx9
/- The reference's Add, plain. -/
namespace Go.Proofs.Ytanbfejhhnhabaa
set_option linter.unusedVariables false
set_option linter.unusedSimpArgs false
def raddF (l : List Nd) (nm : ByteArray) (n : Int) (down : Bool) : List Nd × Int :=
  if 72057594037927936 < n ∨ (down = false ∧ 72057594037927936 < (ofL l nm).1 + n) ∨ (down = true ∧ 72057594037927936 < (ofL l nm).2 + n) then (l, 51)
  else if 0 < n ∧ (lk l nm).isSome = false ∧ 64 ≤ l.length then (l, 3)
  else
    let u := if down = true then (ofL l nm).1 else (ofL l nm).1 + n
    let d := if down = true then (ofL l nm).2 + n else (ofL l nm).2
    if 0 < u ∨ 0 < d then (putL l (nm, u, d), 0) else (l, 0)
theorem putL_back {l : List Nd} (hs : Srt l) {nm : ByteArray} {u d : Int} (h : lk l nm = some (u, d)) : putL l (nm, u, d) = l := by
  refine Srt.ext (hs.put _) hs (fun s => ?_)
  rw [lk_putL]
  split
  · rename_i e; rw [e, h]
  · rfl
theorem radd_count {l : List Nd} (hs : Srt l) (hb : Bnd l) (hl : l.length ≤ 64) (nm : ByteArray) {n : Int} (h0 : 0 ≤ n) (down : Bool) :
    raddF l nm n down = if down = true then countF l nm 0 n else countF l nm n 0 := by
  have hbd := ofL_bd hb nm
  obtain ⟨u, d, hud⟩ : ∃ u d, ofL l nm = (u, d) := ⟨_, _, rfl⟩
  have hlk : lk l nm = none ∧ u = 0 ∧ d = 0 ∨ lk l nm = some (u, d) := by
    unfold ofL at hud
    cases hl : lk l nm with
    | none => rw [hl] at hud; simp at hud; exact .inl ⟨rfl, hud.1.symm, hud.2.symm⟩
    | some p => rw [hl] at hud; simp at hud; exact .inr (by rw [hud])
  have hkey : ∀ b : Bool, (raddF l nm n b = if b = true then countF l nm 0 n else countF l nm n 0) := fun b => by
    unfold raddF countF
    rw [hud] at hbd ⊢
    simp only at hbd ⊢
    cases b with
    | false =>
      simp only [Bool.false_eq_true, if_false, false_and, or_false, eq_self, true_and, and_true]
      by_cases c1 : 72057594037927936 - u < n
      · rw [if_pos (c := 72057594037927936 < n ∨ 72057594037927936 < u + n) (by omega), if_pos (c := 72057594037927936 - u < n ∨ 72057594037927936 - d < 0) (by omega)]
      · rw [if_neg (c := 72057594037927936 < n ∨ 72057594037927936 < u + n) (by omega), if_neg (c := 72057594037927936 - u < n ∨ 72057594037927936 - d < 0) (by omega)]
        by_cases c2 : n = 0
        · rw [if_neg (c := 0 < n ∧ (lk l nm).isSome = false ∧ 64 ≤ l.length) (by omega), if_pos (c := n = 0) (by omega)]
          subst c2
          rcases hlk with ⟨h1, h2, h3⟩ | h1
          · rw [if_neg (by omega)]
          · split
            · rw [Int.add_zero, putL_back hs h1]
            · rfl
        · rw [if_neg (c := n = 0) (by omega), if_pos (c := 0 < u + n ∨ 0 < d) (by omega)]
          rcases hlk with ⟨h1, h2, h3⟩ | h1
          · by_cases c3 : l.length = 64
            · rw [if_pos (c := 0 < n ∧ (lk l nm).isSome = false ∧ 64 ≤ l.length) ⟨by omega, by rw [h1]; rfl, by omega⟩, if_pos (c := lk l nm = none ∧ l.length = 64) ⟨h1, c3⟩]
            · rw [if_neg (c := 0 < n ∧ (lk l nm).isSome = false ∧ 64 ≤ l.length) (fun h => c3 (by have := h.2.2; omega)), if_neg (c := lk l nm = none ∧ l.length = 64) (fun h => c3 h.2), Int.add_zero]
          · rw [if_neg (c := 0 < n ∧ (lk l nm).isSome = false ∧ 64 ≤ l.length) (by rw [h1]; simp), if_neg (c := lk l nm = none ∧ l.length = 64) (by rw [h1]; simp), Int.add_zero]
    | true =>
      simp only [Bool.true_eq_false, if_true, false_and, false_or, eq_self, true_and, and_true]
      by_cases c1 : 72057594037927936 - d < n
      · rw [if_pos (c := 72057594037927936 < n ∨ 72057594037927936 < d + n) (by omega), if_pos (c := 72057594037927936 - u < 0 ∨ 72057594037927936 - d < n) (by omega)]
      · rw [if_neg (c := 72057594037927936 < n ∨ 72057594037927936 < d + n) (by omega), if_neg (c := 72057594037927936 - u < 0 ∨ 72057594037927936 - d < n) (by omega)]
        by_cases c2 : n = 0
        · rw [if_neg (c := 0 < n ∧ (lk l nm).isSome = false ∧ 64 ≤ l.length) (by omega), if_pos (c := n = 0) (by omega)]
          subst c2
          rcases hlk with ⟨h1, h2, h3⟩ | h1
          · rw [if_neg (by omega)]
          · split
            · rw [Int.add_zero, putL_back hs h1]
            · rfl
        · rw [if_neg (c := n = 0) (by omega), if_pos (c := 0 < u ∨ 0 < d + n) (by omega)]
          rcases hlk with ⟨h1, h2, h3⟩ | h1
          · by_cases c3 : l.length = 64
            · rw [if_pos (c := 0 < n ∧ (lk l nm).isSome = false ∧ 64 ≤ l.length) ⟨by omega, by rw [h1]; rfl, by omega⟩, if_pos (c := lk l nm = none ∧ l.length = 64) ⟨h1, c3⟩]
            · rw [if_neg (c := 0 < n ∧ (lk l nm).isSome = false ∧ 64 ≤ l.length) (fun h => c3 (by have := h.2.2; omega)), if_neg (c := lk l nm = none ∧ l.length = 64) (fun h => c3 h.2), Int.add_zero]
          · rw [if_neg (c := 0 < n ∧ (lk l nm).isSome = false ∧ 64 ≤ l.length) (by rw [h1]; simp), if_neg (c := lk l nm = none ∧ l.length = 64) (by rw [h1]; simp), Int.add_zero]
  exact hkey down
/-- A state only grows. -/
theorem count_grown {l : List Nd} (hr : Rt l) (hl : l.length ≤ 64) {nm : ByteArray} (hn : nameF nm = true) {up down : Int} (hu : 0 ≤ up) (hd : 0 ≤ down) :
    Rt (countF l nm up down).1 ∧ l.all (hasL (countF l nm up down).1) = true := by
  have hbd := ofL_bd (right_bnd (hr.right hl) hr.pos) nm
  have hself : l.all (hasL l) = true := (all_le hr hr).2 (fun s => ⟨Int.le_refl _, Int.le_refl _⟩)
  unfold countF
  split
  · exact ⟨hr, hself⟩
  · split
    · exact ⟨hr, hself⟩
    · split
      · exact ⟨hr, hself⟩
      · rename_i h1 h2 h3
        have hrt : Rt (putL l (nm, (ofL l nm).1 + up, (ofL l nm).2 + down)) := by
          refine ⟨hr.srt.put _, fun x hx => ?_⟩
          rcases mem_putL hx with rfl | hx
          · refine ⟨hn, ?_, ?_, ?_, ?_, ?_⟩ <;> simp only <;> omega
          · exact hr.gd x hx
        refine ⟨hrt, (all_le hr hrt).2 (fun s => ?_)⟩
        have : ofL (putL l (nm, (ofL l nm).1 + up, (ofL l nm).2 + down)) s = if s = nm then ((ofL l nm).1 + up, (ofL l nm).2 + down) else ofL l s := by
          unfold ofL
          rw [lk_putL]
          split <;> rfl
        rw [this]
        unfold LE2
        split
        · rename_i e; subst e; simp only; omega
        · omega
theorem count_len {l : List Nd} (hs : Srt l) (hl : l.length ≤ 64) (nm : ByteArray) (up down : Int) : (countF l nm up down).1.length ≤ 64 := by
  unfold countF
  split
  · exact hl
  · split
    · exact hl
    · split
      · exact hl
      · rename_i h1 h2 h3
        simp only
        rw [len_putL hs]
        split
        · exact hl
        · rename_i h4
          have : lk l nm = none := by cases h : lk l nm with | none => rfl | some v => simp [h] at h4
          have : ¬ l.length = 64 := fun e => h3 ⟨this, e⟩
          omega
end Go.Proofs.Ytanbfejhhnhabaa

/- The reference's functions of CrdtCounts, out of what was printed of them. -/
namespace Go.Proofs.Ytanbfejhhnhabaa.CC
open Go.RowKit Go.Maps
open Go.Proofs.Ytanbfejhhnhabaa.PCrdtCounts
open Go.Proofs.YtanbfejhhnhabaaW.PrintWords
set_option maxRecDepth 100000
set_option linter.unusedVariables false
set_option linter.unusedSimpArgs false
set_option maxHeartbeats 1000000
def toS (a : Nd) : S33 := ⟨a.1, a.2.1, a.2.2⟩
theorem RD.kd3 {w : World} {A : Option Addr} {n c : Nat} {l : List Nd} (h : RD w 3 (.slice A n c) l.length (flat3 l)) : n = l.length ∧ l.length ≤ c ∧ c ≤ maxLen ∧ Kd.C k33 w A (l.map toS).length (l.map toS) ∨ l = [] ∧ n = 0 := by
  rcases h.2 with ⟨_, _, he, h0, _⟩ | ⟨g, off, cap, he, h1, h2, h3, h4⟩
  · simp at he
    have hl : l = [] := List.length_eq_zero_iff.1 h0
    subst hl
    exact .inr ⟨rfl, he.2.1⟩
  · simp at he
    obtain ⟨rfl, rfl, rfl⟩ := he
    refine .inl ⟨rfl, h2, h3, by simp, by unfold maxLen at h3; simp; omega, fun hp => ⟨_, rfl, fun j p hj => ?_⟩⟩
    simp only [List.getElem?_map, Option.map_eq_some_iff] at hj
    obtain ⟨a, ha, rfl⟩ := hj
    refine ⟨[.string a.1, .int .u64 a.2.1, .int .u64 a.2.2], rfl, k33_mk w (toS a), fun i u hi => ?_⟩
    have e : (⟨g, off, none⟩ : Addr).add (j * 3 + i) = ⟨g, off + (j * 3 + i), none⟩ := by unfold Addr.add; split <;> simp_all
    rw [show k33.sz = 3 from rfl, e]
    refine h4 _ _ ?_
    have hf := flat3_get l j a ha
    match i, hi with
    | 0, hi => simp at hi; subst hi; exact hf.1
    | 1, hi => simp at hi; subst hi; exact hf.2.1
    | 2, hi => simp at hi; subst hi; exact hf.2.2
    | i + 3, hi => simp at hi
theorem RD.kdN {w : World} {A : Option Addr} {n c : Nat} {l : List Nd} (h : RD w 3 (.slice A n c) l.length (flat3 l)) : n = l.length ∧ l.length ≤ c ∧ l.length ≤ maxLen ∧ Kd.C k33 w A (l.map toS).length (l.map toS) := by
  rcases RD.kd3 h with ⟨h1, h2, h3, h4⟩ | ⟨rfl, rfl⟩
  · exact ⟨h1, h2, by omega, h4⟩
  · exact ⟨rfl, by simp, by simp, by simp, by simp, by simp⟩
theorem rd_at {l : List Nd} {j : Nat} {x : Nd} (h : l[j]? = some x) : rd_T33 (l.map toS) (j : Int) = toS x := by
  simp [rd_T33, List.getD, h]
theorem ba_iff {a b : ByteArray} : a.toList = b.toList ↔ a = b := ⟨fun h => Decidable.byContradiction fun e => ba_ne e h, fun h => by rw [h]⟩
theorem find_l0 (l : List Nd) (s : ByteArray) (hl : l.length ≤ maxLen) : ∀ (k j : Nat), j ≤ l.length → l.length - j < k →
    abacusref23_find.l0 k s (l.map toS) (l.length : Int) (j : Int) = some (s, (ofL (l.drop j) s).1, (ofL (l.drop j) s).2, (lk (l.drop j) s).isSome) := by
  intro k
  induction k with
  | zero => intro j _ h; omega
  | succ k ih =>
    intro j hj hk
    simp only [abacusref23_find.l0]
    by_cases h : j < l.length
    · obtain ⟨x, hx⟩ : ∃ x, l[j]? = some x := ⟨_, List.getElem?_eq_getElem h⟩
      rw [if_pos (by omega), if_pos (by omega), if_pos (by simp; omega), rd_at hx]
      have hdx : l.drop j = x :: l.drop (j + 1) := by
        rw [List.drop_eq_getElem_cons h]; congr 1; rw [List.getElem?_eq_getElem h] at hx; exact Option.some.inj hx
      rw [hdx]
      have e1 : (toS x).f0 = x.1 := rfl
      rw [e1]
      by_cases e : x.1 = s
      · rw [if_pos (ba_iff.2 e)]
        simp [toS, ofL, lk, e]
      · rw [if_neg (fun h2 => e (ba_iff.1 h2)), w64 (by unfold maxLen at hl; omega), ih (j + 1) (by omega) (by omega)]
        simp [ofL, lk, e]
    · obtain rfl : j = l.length := by omega
      rw [if_neg (by omega), List.drop_length]
      simp [ofL, lk]
theorem find_f (l : List Nd) (s : ByteArray) (hl : l.length ≤ maxLen) : abacusref23_find.f (l.length + 1) (l.map toS) s = some (s, (ofL l s).1, (ofL l s).2, (lk l s).isSome) := by
  unfold abacusref23_find.f
  have := find_l0 l s hl (l.length + 1) 0 (by omega) (by omega)
  simp only [List.drop_zero] at this
  simpa using this
/-- What the reference's put makes of the rest of a list. -/
def putR (x : Nd) : Bool → List Nd → List Nd
  | true, l => l.filter (fun y => decide (y.1 ≠ x.1))
  | false, [] => [x]
  | false, y :: r => if Op.bytesLess y.1.toList x.1.toList = true then (if y.1 = x.1 then putR x false r else y :: putR x false r) else x :: ((y :: r).filter (fun z => decide (z.1 ≠ x.1)))
theorem putR_put : ∀ (l : List Nd) (x : Nd), Srt l → putR x false l = putL l x
  | [], x, _ => rfl
  | y :: r, x, h => by
    obtain ⟨h1, h2⟩ := List.pairwise_cons.1 h
    have ih := putR_put r x h2
    simp only [putR, putL]
    rw [bytesLess_lt]
    by_cases e : y.1 = x.1
    · have hn : ¬ bts y.1 < bts x.1 := by rw [e]; exact bts_irrefl _
      have hn2 : ¬ bts x.1 < bts y.1 := by rw [e]; exact bts_irrefl _
      have hf : r.filter (fun z => decide (z.1 ≠ x.1)) = r := by
        rw [List.filter_eq_self]
        intro z hz
        have := bts_ne (h1 z hz)
        rw [e] at this
        simpa using this.symm
      rw [if_neg (by simpa using hn), if_neg hn2, if_pos e, List.filter_cons_of_neg (by simpa using e), hf]
    · by_cases hlt : bts y.1 < bts x.1
      · have hn2 : ¬ bts x.1 < bts y.1 := fun h => bts_irrefl _ (bts_trans h hlt)
        rw [if_pos (by simpa using hlt), if_neg e, if_neg hn2, if_neg e, ih]
      · have hgt : bts x.1 < bts y.1 := bts_lt_of hlt e
        have hf : (y :: r).filter (fun z => decide (z.1 ≠ x.1)) = y :: r := by
          rw [List.filter_eq_self]
          intro z hz
          rcases List.mem_cons.1 hz with rfl | hz
          · simpa using e
          · have := bts_ne (bts_trans hgt (h1 z hz))
            simpa using this.symm
        rw [if_neg (by simpa using hlt), if_pos hgt, hf]
end Go.Proofs.Ytanbfejhhnhabaa.CC

namespace Go.Proofs.Ytanbfejhhnhabaa
open Go.RowKit Go.Maps
open Go.Proofs.Ytanbfejhhnhabaa.PCrdtCounts
open Go.Proofs.YtanbfejhhnhabaaW.PrintWords
set_option maxRecDepth 100000
set_option linter.unusedVariables false
set_option linter.unusedSimpArgs false
set_option maxHeartbeats 1000000
theorem find_any (v : Value) (l : List Nd) (s : ByteArray) (w : World) (h : RN w v l) :
    Calls Try.prog 32 #[v, .string s] w fun e w' => e = .returned (.tuple #[ndV s (ofL l s).1 (ofL l s).2, .bool (lk l s).isSome]) ∧ Fr [] w w' := by
  obtain ⟨p1, q1, rfl⟩ := h.at_
  obtain ⟨-, c1, m1, K1⟩ := CC.RD.kdN h
  have hc := abacusref23_find.calls (l.length + 1) p1 q1 (l.map CC.toS) s s (ofL l s).1 (ofL l s).2 (lk l s).isSome w K1 (by simpa using c1) (CC.find_f l s m1)
  simp only [List.length_map] at hc
  refine hc.mono ?_
  rintro e w' ⟨rfl, hd⟩
  exact ⟨rfl, Fr.of_below hd⟩
theorem letter_f (c : Int) : abacusref12_letter.f c = some (letterF c) := by
  unfold abacusref12_letter.f letterF
  by_cases h1 : 97 ≤ c
  · rw [if_pos (by omega)]
    by_cases h2 : c ≤ 122
    · rw [if_pos h2]; simp [h1, h2]
    · rw [if_neg h2, if_pos (by omega), if_neg (by omega)]
      simp [h2]
      omega
  · rw [if_neg (by omega)]
    by_cases h3 : 65 ≤ c
    · rw [if_pos (by omega)]
      by_cases h4 : c ≤ 90
      · rw [if_pos h4]; simp [h3, h4]
      · rw [if_neg h4]; simp [h1, h4]
    · rw [if_neg (by omega)]; simp [h1, h3]
theorem digit_f (c : Int) : abacusref12_digit.f c = some (decide (48 ≤ c) && decide (c ≤ 57)) := by
  unfold abacusref12_digit.f
  by_cases h1 : 48 ≤ c
  · rw [if_pos (by omega)]; simp [h1]
  · rw [if_neg (by omega)]; simp [h1]
theorem bt_gb (s : ByteArray) (j : Nat) : bt s (j : Int) = gb s j := by simp [bt, gb]
theorem name_l0 (s : ByteArray) (h64 : s.size ≤ 64) : ∀ (k j : Nat), j ≤ s.size → s.size - j < k → upto s j = true → abacusref12_Name.l0 k s (j : Int) = some (upto s s.size) := by
  intro k
  induction k with
  | zero => intro j _ h; omega
  | succ k ih =>
    intro j hj hk hu
    simp only [abacusref12_Name.l0]
    by_cases h : j < s.size
    · rw [if_pos (by omega), if_pos (by omega), bt_gb, letter_f, digit_f, w64 (by omega)]
      simp only [Option.bind_some]
      have hs := upto_succ s j
      rw [hu] at hs
      by_cases h1 : letterF (gb s j) = true
      · rw [if_pos h1]
        exact ih (j + 1) (by omega) (by omega) (by rw [hs]; simp [namedF, h1])
      · rw [if_neg h1]
        by_cases h2 : (decide (48 ≤ gb s j) && decide (gb s j ≤ 57)) = true
        · rw [if_pos h2]
          exact ih (j + 1) (by omega) (by omega) (by rw [hs]; unfold namedF; rw [h2]; simp)
        · rw [if_neg h2, upto_fail s s.size j h (by
            unfold namedF
            rw [Bool.eq_false_iff.2 h1, Bool.eq_false_iff.2 h2]; rfl)]
    · obtain rfl : j = s.size := by omega
      rw [if_neg (by omega), hu]
theorem name12_f (s : ByteArray) : abacusref12_Name.f (s.size + 3) s = some (nameF s) := by
  unfold abacusref12_Name.f
  have jt : abacusref12_Name.j0 (s.size + 3) s true = some false := by
    rw [show s.size + 3 = (s.size + 2) + 1 by omega]
    simp [abacusref12_Name.j0]
  by_cases h1 : s.size < 1
  · have e : nameF s = false := by unfold nameF; simp; omega
    rw [if_pos (by omega), jt, e]
  · rw [if_neg (by omega)]
    by_cases h2 : 64 < s.size
    · have e : nameF s = false := by unfold nameF; simp; omega
      rw [if_pos (by omega), jt, e]
    · rw [if_neg (by omega), if_pos (by omega)]
      have hb := bt_gb s 0
      have hb2 : bt s 0 = gb s 0 := hb
      rw [hb2, letter_f]
      simp only [Option.bind_some]
      cases h3 : letterF (gb s 0) with
      | false =>
        have e : nameF s = false := by unfold nameF; rw [h3]; simp
        rw [e]
        exact jt
      | true =>
        have h0 := name_l0 s (by omega) (s.size + 2) 0 (by omega) (by omega) rfl
        have e : nameF s = upto s s.size := by unfold nameF; rw [h3]; simp; omega
        rw [e, show s.size + 3 = (s.size + 2) + 1 by omega]
        simp only [abacusref12_Name.j0, Bool.not_true, Bool.false_eq_true, if_false]
        exact h0
theorem name12_any (s : ByteArray) (w : World) :
    Calls Try.prog 48 #[.string s] w fun e w' => e = .returned (.bool (nameF s)) ∧ Fr [] w w' := by
  refine (abacusref12_Name.calls (s.size + 3) s (nameF s) w (name12_f s)).mono ?_
  rintro e w' ⟨rfl, hd⟩
  exact ⟨rfl, drawn_fr hd⟩
end Go.Proofs.Ytanbfejhhnhabaa
