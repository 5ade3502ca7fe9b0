/- OnceGrows: the walk. -/
import Derived.Test.YtbbnafnnbhbbcaaGreatDoorOLives
namespace Go.Proofs.YtbbnafnnbhbbcaaGreatDoor
open Go.RowKit Go.Maps
set_option maxRecDepth 100000
set_option linter.unusedVariables false
set_option linter.unusedSimpArgs false
set_option maxHeartbeats 4000000
/-- What an Ask answers, and what there is behind it. -/
def askF (l : List (ByteArray × Int)) (s : ByteArray) (k : Int) : List (ByteArray × Int) × Int × Bool × Int :=
  if rightF s k = 0 then
    match placeF l s with
    | some i => if (l[i]?.map (·.2)) = some k then (l, i, false, 0) else (l, 0, false, 132)
    | none => if l.length = 4096 then (l, 0, false, 3) else (l ++ [(s, k)], l.length, true, 0)
  else (l, 0, false, rightF s k)
theorem RG.len {w : World} {br base : Nat} {m : Int} {l : List (ByteArray × Int)} (h : RG w br base m l) : l.length ≤ 4096 := by
  obtain ⟨⟨s0, s1, d, p, h1, h2⟩, h3, h4⟩ := h
  rcases h2 with ⟨_, _, rfl⟩ | ⟨bv, h5, h6, h7⟩
  · simp
  · exact h7.n
theorem ask_any (br base : Nat) (l : List (ByteArray × Int)) (s : ByteArray) (k : Int) (w : World) (h : RG w br base 0 l) (hs : s.size ≤ maxLen) :
    Calls Tryz.prog 8 #[.pointer (some ⟨br, 0, none⟩), .agg #[.string s, .int .u8 k]] w fun e w' => ∃ l' n f y, askF l s k = (l', n, f, y) ∧ e = .returned (.tuple #[.int .i64 n, .bool f, .int .i64 y]) ∧ RG w' br base 0 l' ∧ Fr [br] w w' := by
  unfold askF
  by_cases hr : rightF s k = 0
  · rw [if_pos hr]
    cases hp : placeF l s with
    | some i =>
      have hk : knownF l s k = if (l[i]?.map (·.2)) = some k then ((i : Int), true, 0) else (0, true, 132) := by unfold knownF; rw [hp]
      by_cases hkk : (l[i]?.map (·.2)) = some k
      · rw [if_pos hkk] at hk
        refine (ask_known br base l s k i 0 w h hr hs hk).mono ?_
        rintro e w' ⟨rfl, hR, hF⟩
        exact ⟨l, i, false, 0, by simp only [if_pos hkk], rfl, hR, hF⟩
      · rw [if_neg hkk] at hk
        refine (ask_known br base l s k 0 132 w h hr hs hk).mono ?_
        rintro e w' ⟨rfl, hR, hF⟩
        exact ⟨l, 0, false, 132, by simp only [if_neg hkk], rfl, hR, hF⟩
    | none =>
      by_cases hn : l.length = 4096
      · refine (ask_many br base l s k w h hr hs hp hn).mono ?_
        rintro e w' ⟨rfl, hR, hF⟩
        exact ⟨l, 0, false, 3, by simp only [if_pos hn], rfl, hR, hF⟩
      · have := h.len
        refine (ask_new br base l s k w h hr hs hp (by omega)).mono ?_
        rintro e w' ⟨rfl, hR, hF⟩
        exact ⟨_, _, true, 0, by simp only [if_neg hn], rfl, hR, hF⟩
  · rw [if_neg hr]
    refine (ask_wrong br base l s k w h hr).mono ?_
    rintro e w' ⟨rfl, hR, hF⟩
    exact ⟨l, 0, false, _, rfl, rfl, hR, hF⟩
theorem rview_rv (br base : Nat) (m : Int) (l : List (ByteArray × Int)) (w : World) (h : RG w br base m l) :
    Calls Tryz.prog 6 #[.pointer (some ⟨br, 0, none⟩)] w fun e w' => ∃ bv, e = .returned (.pointer (some ⟨bv, 0, none⟩)) ∧ RV w' br base m l bv ∧ Fr [br] w w' := by
  go_enter Tryz.func6, Tryz.ntmps6
  go_wp2_with ((go_at_call 16); (with_reducible refine (view_rv br base m l _ h).mono ?_); rintro e w1 ⟨bv, rfl, hV, hF⟩)
  go_ret
  exact ⟨bv, rfl, hV, hF⟩
/-- What Find answers. -/
def findF (l : List (ByteArray × Int)) (s : ByteArray) : Int × Int × Bool :=
  match placeF l s with
  | none => (0, 0, false)
  | some i => (i, (l[i]?.map (·.2)).getD 0, true)
theorem find_any (bv base : Nat) (l : List (ByteArray × Int)) (s : ByteArray) (w : World) (h : VW w base bv l) (hs : s.size ≤ maxLen) :
    Calls Tryz.prog 30 #[.pointer (some ⟨bv, 0, none⟩), .string s] w fun e w' => ∃ at_ kd is_, findF l s = (at_, kd, is_) ∧ e = .returned (.tuple #[.int .i64 at_, .int .u8 kd, .bool is_]) ∧ Fr [] w w' := by
  unfold findF
  cases hp : placeF l s with
  | none =>
    refine (find_none bv base l s w h hs hp).mono ?_
    rintro e w' ⟨rfl, hF⟩
    exact ⟨_, _, _, rfl, rfl, hF⟩
  | some i =>
    obtain ⟨k, hk⟩ := place_get hp
    refine (find_some bv base i l s k w h hs hp hk).mono ?_
    rintro e w' ⟨rfl, hF⟩
    exact ⟨_, _, _, by simp [hk], rfl, hF⟩
/-- What an Ask's answer says. -/
def Out (l : List (ByteArray × Int)) (s : ByteArray) (k : Int) (l' : List (ByteArray × Int)) (n : Int) (f : Bool) (y : Int) : Prop :=
  (f = true ∧ y = 0 ∧ n = l.length ∧ l' = l ++ [(s, k)] ∧ findF l' s = (n, k, true)) ∨ (f = false ∧ y = 0 ∧ l' = l ∧ findF l' s = (n, k, true)) ∨ (f = false ∧ (y == 0) = false ∧ l' = l)
theorem askF_out {l : List (ByteArray × Int)} {s : ByteArray} {k : Int} {l' : List (ByteArray × Int)} {n : Int} {f : Bool} {y : Int} (h : askF l s k = (l', n, f, y)) : Out l s k l' n f y := by
  unfold askF at h
  by_cases hr : rightF s k = 0
  · rw [if_pos hr] at h
    cases hp : placeF l s with
    | some i =>
      simp only [hp] at h
      by_cases hkk : (l[i]?.map (·.2)) = some k
      · rw [if_pos hkk] at h
        simp only [Prod.mk.injEq] at h
        obtain ⟨rfl, rfl, rfl, rfl⟩ := h
        refine .inr (.inl ⟨rfl, rfl, rfl, ?_⟩)
        unfold findF
        rw [hp]
        simp only [hkk]
        rfl
      · rw [if_neg hkk] at h
        simp only [Prod.mk.injEq] at h
        obtain ⟨rfl, rfl, rfl, rfl⟩ := h
        exact .inr (.inr ⟨rfl, rfl, rfl⟩)
    | none =>
      simp only [hp] at h
      by_cases hn : l.length = 4096
      · rw [if_pos hn] at h
        simp only [Prod.mk.injEq] at h
        obtain ⟨rfl, rfl, rfl, rfl⟩ := h
        exact .inr (.inr ⟨rfl, rfl, rfl⟩)
      · rw [if_neg hn] at h
        simp only [Prod.mk.injEq] at h
        obtain ⟨rfl, rfl, rfl, rfl⟩ := h
        refine .inl ⟨rfl, rfl, rfl, rfl, ?_⟩
        unfold findF
        rw [place_snoc_same k hp]
        simp
  · rw [if_neg hr] at h
    simp only [Prod.mk.injEq] at h
    obtain ⟨rfl, rfl, rfl, rfl⟩ := h
    exact .inr (.inr ⟨rfl, by simpa using hr, rfl⟩)
theorem Out.pre {l l0 : List (ByteArray × Int)} {s : ByteArray} {k : Int} {l' : List (ByteArray × Int)} {n : Int} {f : Bool} {y : Int} (h : Out l s k l' n f y) (hp : l0 <+: l) : l0 <+: l' := by
  rcases h with ⟨_, _, _, rfl, _⟩ | ⟨_, _, rfl, _⟩ | ⟨_, _, rfl⟩
  · exact hp.trans (List.prefix_append _ _)
  · exact hp
  · exact hp
end Go.Proofs.YtbbnafnnbhbbcaaGreatDoor
