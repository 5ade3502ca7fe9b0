/- The reference's Sorted and Asks, out of what was printed of them. -/
import Derived.Test.YtbbnafnnbhbbcaaGreatDoorRefA
import Derived.Test.YtbbnafnnbhbbcaaGreatDoorPOnceAsksx4
namespace Go.Proofs.YtbbnafnnbhbbcaaGreatDoor
open Go.RowKit Go.Maps
open Go.Proofs.YtbbnafnnbhbbcaaGreatDoor.POnceAsks
open Go.Proofs.YtbbnafnnbhbbcaaGreatDoorW.PrintWords
set_option maxRecDepth 100000
set_option linter.unusedVariables false
set_option linter.unusedSimpArgs false
set_option maxHeartbeats 1000000
def toS (a : ByteArray × Int) : S31 := ⟨a.1, a.2⟩
def ofS (x : S31) : ByteArray × Int := (x.f0, x.f1)
theorem of_to (l : List (ByteArray × Int)) : (l.map toS).map ofS = l := by simp [toS, ofS, Function.comp_def]
theorem RD.kd {w : World} {A : Option Addr} {n c : Nat} {l : List (ByteArray × Int)} (h : RD w 2 (.slice A n c) l.length (flat l)) : n = l.length ∧ l.length ≤ c ∧ Kd.C k31 w A (l.map toS).length (l.map toS) := by
  rcases h.2 with ⟨he, h0⟩ | ⟨g, off, cap, he, h1, h2, h3, h4⟩
  · simp at he
    have hl : l = [] := List.length_eq_zero_iff.1 h0
    subst hl
    exact ⟨by simp; omega, by simp, by simp, by simp, by simp⟩
  · simp at he
    obtain ⟨rfl, rfl, rfl⟩ := he
    refine ⟨rfl, h2, by simp, by unfold maxLen at h3; simp; omega, fun hp => ⟨_, rfl, fun j p hj => ?_⟩⟩
    simp only [List.getElem?_map, Option.map_eq_some_iff] at hj
    obtain ⟨a, ha, rfl⟩ := hj
    refine ⟨[.string a.1, .int .u8 a.2], rfl, k31_mk w (toS a), fun i u hi => ?_⟩
    have e : (⟨g, off, none⟩ : Addr).add (j * 2 + i) = ⟨g, off + (j * 2 + i), none⟩ := by unfold Addr.add; split <;> simp_all
    rw [show k31.sz = 2 from rfl, e]
    refine h4 _ _ ?_
    have hf := flat_get l j a ha
    match i, hi with
    | 0, hi => simp at hi; subst hi; exact hf.1
    | 1, hi => simp at hi; subst hi; exact hf.2
    | i + 2, hi => simp at hi
theorem kd_sv {w : World} {base B : Nat} {ok : Nat → Prop} {v : Value} {xs : List S31} (h : Kd.R k31 31 w base ok v xs) (hb : B ≤ base) : SV w B 2 v xs.length (flat (xs.map ofS)) := by
  obtain ⟨_, inner, ho, hl, hr⟩ := h
  have e : inner = flat (xs.map ofS) := by
    apply List.ext_getElem?
    intro i
    have hlen : inner.length = xs.length * 2 := hl
    have hlf : (flat (xs.map ofS)).length = xs.length * 2 := by rw [flat_len]; simp
    by_cases hi : i < xs.length * 2
    · obtain ⟨j, r, hr2, rfl⟩ : ∃ j r, r < 2 ∧ i = j * 2 + r := ⟨i / 2, i % 2, by omega, by omega⟩
      have hj : j < xs.length := by omega
      have hp := hr j xs[j] (List.getElem?_eq_getElem hj)
      have hcs := k31_openM hp
      have hf := flat_get (xs.map ofS) j (ofS xs[j]) (by simp [hj])
      have hg : inner[j * 2 + r]? = ([Value.string xs[j].f0, .int .u8 xs[j].f1] : List Value)[r]? := by
        rw [← hcs]
        show _ = (List.take 2 (List.drop (j * 2) inner))[r]?
        rw [List.getElem?_take_of_lt hr2, List.getElem?_drop]
      rw [hg]
      match r, hr2 with
      | 0, _ => exact hf.1.symm
      | 1, _ => exact hf.2.symm
    · rw [List.getElem?_eq_none (by omega), List.getElem?_eq_none (by omega)]
  subst e
  exact SV.of_owns ho hb
theorem drawn_fr {w w' : World} (h : Drawn0 w w') : Fr [] w w' := by
  obtain ⟨n, rfl⟩ := h
  exact (Fr.refl _ _).drN n
/-- Insertion. -/
def ltS (a b : ByteArray) : Bool := Op.bytesLess a.toList b.toList
def insF (out : List S31) (a : S31) : List S31 := out.takeWhile (fun x => ltS x.f0 a.f0) ++ [a] ++ out.dropWhile (fun x => ltS x.f0 a.f0)
theorem insF_len (out : List S31) (a : S31) : (insF out a).length = out.length + 1 := by
  unfold insF
  have := congrArg List.length (List.takeWhile_append_dropWhile (p := fun x : S31 => ltS x.f0 a.f0) (l := out))
  rw [List.length_append] at this
  rw [List.length_append, List.length_append, List.length_singleton]
  omega
theorem take_tw {α : Type} (p : α → Bool) (l : List α) : l.take (l.takeWhile p).length = l.takeWhile p ∧ l.drop (l.takeWhile p).length = l.dropWhile p := by
  have h := List.takeWhile_append_dropWhile (p := p) (l := l)
  refine ⟨?_, ?_⟩
  · have e : l.take (l.takeWhile p).length = (l.takeWhile p ++ l.dropWhile p).take (l.takeWhile p).length := by rw [h]
    rw [e, List.take_left']
    rfl
  · have e : l.drop (l.takeWhile p).length = (l.takeWhile p ++ l.dropWhile p).drop (l.takeWhile p).length := by rw [h]
    rw [e, List.drop_left']
    rfl
theorem tw_len {α : Type} (p : α → Bool) (l : List α) : (l.takeWhile p).length ≤ l.length := (List.takeWhile_sublist p).length_le
theorem tw_at {α : Type} (p : α → Bool) (l : List α) (j : Nat) (d : α) (h : j < l.length) : (j < (l.takeWhile p).length → p (l.getD j d) = true) ∧ (j = (l.takeWhile p).length → p (l.getD j d) = false) := by
  induction l generalizing j with
  | nil => simp at h
  | cons x l ih =>
    by_cases hx : p x = true
    · rw [List.takeWhile_cons_of_pos hx]
      cases j with
      | zero => exact ⟨fun _ => by simpa using hx, fun h => by simp at h⟩
      | succ j =>
        have := ih j (by simpa using h)
        simpa using this
    · rw [List.takeWhile_cons_of_neg hx]
      exact ⟨fun h => by simp at h, fun h => by simp at h; subst h; simpa using hx⟩
theorem w64 {n : Nat} (h : n < 9223372036854775807) : wrap64 ((n : Int) + 1) = ((n + 1 : Nat) : Int) := by
  unfold wrap64
  omega
theorem l1_eq (x3 x8 : List S31) (x9 x10 : Int) (a : S31) (hn : x3.length < 1000000) : ∀ (d j k : Nat), (x3.takeWhile (fun x => ltS x.f0 a.f0)).length = j + d → d < k →
    abacusref13_Sorted.l1 k x3 (j : Int) x8 x9 x10 a.f0 a.f1 = abacusref13_Sorted.l0 (k - (d + 1)) (insF x3 a) x8 x9 (wrap64 (x10 + 1)) := by
  intro d
  induction d with
  | zero =>
    intro j k hd hk
    obtain ⟨k, rfl⟩ : ∃ m, k = m + 1 := ⟨k - 1, by omega⟩
    have hle : (x3.takeWhile (fun x => ltS x.f0 a.f0)).length ≤ x3.length := tw_len _ _
    have tt := take_tw (fun x : S31 => ltS x.f0 a.f0) x3
    rw [show (x3.takeWhile (fun x => ltS x.f0 a.f0)).length = j by omega] at tt
    have hl1 : (x3.take j).length = j := by simp; omega
    have hl2 : (x3.drop j).length = x3.length - j := by simp
    have key : ∀ R : Option (List S31), abacusref13_Sorted.l0 k (((([] : List S31) ++ x3.take j) ++ [(⟨a.f0, a.f1⟩ : S31)]) ++ x3.drop j) x8 x9 (wrap64 (x10 + 1)) = abacusref13_Sorted.l0 (k + 1 - (0 + 1)) (insF x3 a) x8 x9 (wrap64 (x10 + 1)) := by
      intro _
      rw [tt.1, tt.2]
      rfl
    simp only [abacusref13_Sorted.l1]
    by_cases hj : j < x3.length
    · have hp := (tw_at (fun x : S31 => ltS x.f0 a.f0) x3 j z31 hj).2 (by omega)
      have hp' : ¬ (Op.bytesLess (((rd_T31 x3 (j : Int)).f0).toList) a.f0.toList) = true := by
        have : Op.bytesLess (((x3.getD j z31).f0).toList) a.f0.toList = false := hp
        simp only [rd_T31, Int.toNat_natCast]
        rw [this]
        simp
      rw [if_pos (by omega), if_pos (by omega), if_neg hp', if_pos (by omega)]
      simp only [Option.bind_some, Int.toNat_natCast]
      rw [if_pos (by simp; omega), if_pos (by simp; omega), if_pos (by simp; omega)]
      exact key none
    · rw [if_neg (by omega), if_pos (by omega), if_pos (by omega)]
      simp only [Option.bind_some, Int.toNat_natCast]
      rw [if_pos (by simp; omega), if_pos (by simp; omega), if_pos (by simp; omega)]
      exact key none
  | succ d ih =>
    intro j k hd hk
    obtain ⟨k, rfl⟩ : ∃ m, k = m + 1 := ⟨k - 1, by omega⟩
    have hle : (x3.takeWhile (fun x => ltS x.f0 a.f0)).length ≤ x3.length := tw_len _ _
    have hp := (tw_at (fun x : S31 => ltS x.f0 a.f0) x3 j z31 (by omega)).1 (by omega)
    have hp' : (Op.bytesLess (((rd_T31 x3 (j : Int)).f0).toList) a.f0.toList) = true := by
      simp only [rd_T31, Int.toNat_natCast]
      exact hp
    simp only [abacusref13_Sorted.l1]
    rw [if_pos (by omega), if_pos (by omega), if_pos hp', w64 (by omega), ih (j + 1) k (by omega) (by omega)]
    congr 1
    omega
theorem l0_eq (l : List S31) (hn : l.length < 10000) : ∀ (d i k : Nat) (out : List S31), l.length = i + d → out.length = i → d * (l.length + 3) < k →
    abacusref13_Sorted.l0 k out l (l.length : Int) (i : Int) = some ((l.drop i).foldl insF out) := by
  intro d
  induction d with
  | zero =>
    intro i k out hi ho hk
    obtain ⟨k, rfl⟩ : ∃ m, k = m + 1 := ⟨k - 1, by omega⟩
    simp only [abacusref13_Sorted.l0]
    rw [if_neg (by omega), List.drop_of_length_le (by omega)]
    rfl
  | succ d ih =>
    intro i k out hi ho hk
    obtain ⟨k, rfl⟩ : ∃ m, k = m + 1 := ⟨k - 1, by omega⟩
    have hlt : i < l.length := by omega
    simp only [abacusref13_Sorted.l0]
    rw [if_pos (by omega), if_pos (by omega), if_pos (by omega)]
    have hle : (out.takeWhile (fun x => ltS x.f0 (rd_T31 l (i : Int)).f0)).length ≤ out.length := tw_len _ _
    have hm : (d + 1) * (l.length + 3) = d * (l.length + 3) + (l.length + 3) := Nat.succ_mul _ _
    have e := l1_eq out l (l.length : Int) (i : Int) (rd_T31 l (i : Int)) (by omega) _ 0 k (by simp; rfl) (by omega)
    rw [show ((0 : Nat) : Int) = 0 from rfl] at e
    rw [e, w64 (by omega), ih (i + 1) _ _ (by omega) (by rw [insF_len]; omega) (by omega)]
    rw [List.drop_eq_getElem_cons hlt]
    simp only [List.foldl_cons, rd_T31, Int.toNat_natCast, List.getD_eq_getElem?_getD, List.getElem?_eq_getElem hlt, Option.getD_some]
def sortF (l : List (ByteArray × Int)) : List (ByteArray × Int) := ((l.map toS).foldl insF []).map ofS
theorem sorted_any (v : Value) (l : List (ByteArray × Int)) (w : World) (h : RD w 2 v l.length (flat l)) (hn : l.length ≤ 4096) :
    Calls Tryz.prog 28 #[v] w fun e w' => ∃ v', e = .returned v' ∧ SV w' w.heap.size 2 v' (sortF l).length (flat (sortF l)) ∧ Fr [] w w' := by
  obtain ⟨A, c, rfl⟩ := h.at_
  obtain ⟨h1, h2, h3⟩ := h.kd
  have hl : (l.map toS).length = l.length := by simp
  have hf : abacusref13_Sorted.f (l.length * (l.length + 3) + 1) (l.map toS) = some ((l.map toS).foldl insF []) := by
    unfold abacusref13_Sorted.f
    have := l0_eq (l.map toS) (by omega) l.length 0 (l.length * (l.length + 3) + 1) [] (by omega) rfl (by rw [hl]; omega)
    simpa using this
  have := abacusref13_Sorted.calls _ A c (l.map toS) _ w h3 (by omega) hf
  rw [hl] at this
  refine this.mono ?_
  rintro e w' ⟨v', rfl, hR, hB⟩
  refine ⟨v', rfl, ?_, Fr.of_below hB⟩
  have := kd_sv hR (Nat.le_refl _)
  simpa [sortF] using this
theorem asks_l0 (l : List S31) (hn : l.length < 10000) : ∀ (d i k : Nat), l.length = i + d → d < k → abacusref13_Asks.l0 k l l (l.length : Int) (i : Int) = some true := by
  intro d
  induction d with
  | zero =>
    intro i k hi hk
    obtain ⟨k, rfl⟩ : ∃ m, k = m + 1 := ⟨k - 1, by omega⟩
    simp only [abacusref13_Asks.l0]
    rw [if_neg (by omega)]
  | succ d ih =>
    intro i k hi hk
    obtain ⟨k, rfl⟩ : ∃ m, k = m + 1 := ⟨k - 1, by omega⟩
    simp only [abacusref13_Asks.l0]
    rw [if_pos (by omega), if_pos (by omega), if_pos (by omega), if_pos (by omega), if_neg (by simp), w64 (by omega)]
    exact ih (i + 1) k (by omega) (by omega)
theorem asks_any (v v2 : Value) (l : List (ByteArray × Int)) (w : World) (h : RD w 2 v l.length (flat l)) (h2 : RD w 2 v2 l.length (flat l)) (hn : l.length ≤ 4096) :
    Calls Tryz.prog 26 #[v, v2] w fun e w' => e = .returned (.bool true) ∧ Fr [] w w' := by
  obtain ⟨A, c, rfl⟩ := h.at_
  obtain ⟨A2, c2, rfl⟩ := h2.at_
  obtain ⟨_, k2, k3⟩ := h.kd
  obtain ⟨_, k5, k6⟩ := h2.kd
  have hl : (l.map toS).length = l.length := by simp
  have hf : abacusref13_Asks.f (l.length + 1) (l.map toS) (l.map toS) = some true := by
    unfold abacusref13_Asks.f
    rw [if_pos rfl]
    have := asks_l0 (l.map toS) (by omega) l.length 0 (l.length + 1) (by omega) (by omega)
    simpa using this
  have := abacusref13_Asks.calls _ A c (l.map toS) A2 c2 (l.map toS) _ w k3 (by omega) k6 (by omega) hf
  rw [hl] at this
  refine this.mono ?_
  rintro e w' ⟨rfl, hD⟩
  exact ⟨rfl, drawn_fr hD⟩
end Go.Proofs.YtbbnafnnbhbbcaaGreatDoor
