/- A registry of asks: its view, whoever asks first. -/
import Derived.Test.YtbbnafnnbhbbcaaGreatDoorView
import Derived.Test.YtbbnafnnbhbbcaaGreatDoorFind
import Derived.Test.YtbbnafnnbhbbcaaGreatDoorCopy
namespace Go.Proofs.YtbbnafnnbhbbcaaGreatDoor
open Go.RowKit Go.Maps
set_option maxRecDepth 100000
set_option linter.unusedVariables false
set_option linter.unusedSimpArgs false
set_option maxHeartbeats 4000000
/-- A registry that has the asks l; m: its lock's word. What its views have lies from base on. -/
structure RG (w : World) (br base : Nat) (m : Int) (l : List (ByteArray × Int)) : Prop where
  ex : ∃ s0 s1 d p, Blk w br #[.int .i32 m, .int .u32 s0, .int .u32 d, .int .i32 0, .int .u32 s1, .pointer p] 74 ∧ ((d = 0 ∧ p = none ∧ l = []) ∨ ∃ bv, d = 1 ∧ p = some ⟨bv, 0, none⟩ ∧ VW w base bv l)
  lo : br < base
  hi : base ≤ w.heap.size
theorem RG.fr0 {w w' : World} {br base : Nat} {m : Int} {l : List (ByteArray × Int)} (h : RG w br base m l) (f : Fr [] w w') : RG w' br base m l := by
  obtain ⟨⟨s0, s1, d, p, h1, h2⟩, h3, h4⟩ := h
  refine ⟨⟨s0, s1, d, p, f.blk h1 (by simp), ?_⟩, h3, Nat.le_trans h4 f.size⟩
  rcases h2 with h2 | ⟨bv, h5, h6, h7⟩
  · exact .inl h2
  · exact .inr ⟨bv, h5, h6, h7.frb f (by simp)⟩
theorem RG.al {w : World} {br base : Nat} {m : Int} {l : List (ByteArray × Int)} (h : RG w br base m l) (o : Obj) : RG (w.alloc o) br base m l := h.fr0 ((Fr.refl _ _).alloc _)
theorem RG.lt {w : World} {br base : Nat} {m : Int} {l : List (ByteArray × Int)} (h : RG w br base m l) : br < w.heap.size := by
  obtain ⟨⟨s0, s1, d, p, h1, h2⟩, h3, h4⟩ := h
  exact h1.lt
theorem view_any (br base : Nat) (m : Int) (l : List (ByteArray × Int)) (w : World) (h : RG w br base m l) :
    Calls Tryz.prog 16 #[.pointer (some ⟨br, 0, none⟩)] w fun e w' => ∃ bv, e = .returned (.pointer (some ⟨bv, 0, none⟩)) ∧ VW w' base bv l ∧ RG w' br base m l ∧ Fr [br] w w' := by
  obtain ⟨⟨s0, s1, d, p, h1, h2⟩, h3, h4⟩ := h
  rcases h2 with ⟨rfl, rfl, rfl⟩ | ⟨bv, rfl, rfl, h7⟩
  · refine (view_first br _ s0 s1 w h1).mono ?_
    rintro e w' ⟨bv, rfl, hb, hv, hr, hF⟩
    have hV : VW w' base bv [] := VW.empty hv (by omega)
    exact ⟨bv, rfl, hV, ⟨⟨s0, s1, 1, _, hr, .inr ⟨bv, rfl, rfl, hV⟩⟩, h3, Nat.le_trans h4 hF.size⟩, hF⟩
  · obtain ⟨⟨sv, mv, hv, hv2, hv3⟩, hv4, hv5⟩ := id h7
    refine (view_again br bv _ _ rfl s0 s1 w h1 hv).mono ?_
    rintro e w' ⟨rfl, rfl⟩
    have hF : Fr [br] w (w.alloc (.cells #[.pointer (some ⟨br, 0, none⟩)] 25)) := (Fr.refl _ _).alloc _
    have hF0 : Fr [] w (w.alloc (.cells #[.pointer (some ⟨br, 0, none⟩)] 25)) := (Fr.refl _ _).alloc _
    have hV := h7.frb hF0 (by simp)
    exact ⟨bv, rfl, hV, ⟨⟨s0, s1, 1, _, h1.alloc _, .inr ⟨bv, rfl, rfl, hV⟩⟩, h3, Nat.le_trans h4 hF.size⟩, hF⟩
theorem rview_any (br base : Nat) (m : Int) (l : List (ByteArray × Int)) (w : World) (h : RG w br base m l) :
    Calls Tryz.prog 6 #[.pointer (some ⟨br, 0, none⟩)] w fun e w' => ∃ bv, e = .returned (.pointer (some ⟨bv, 0, none⟩)) ∧ VW w' base bv l ∧ RG w' br base m l ∧ Fr [br] w w' := by
  go_enter Tryz.func6, Tryz.ntmps6
  go_wp2_with ((go_at_call 16); (with_reducible refine (view_any br base m l _ h).mono ?_); rintro e w1 ⟨bv, rfl, hV, hR, hF⟩)
  go_ret
  exact ⟨bv, rfl, hV, hR, hF⟩
/-- What known answers. -/
def knownF (l : List (ByteArray × Int)) (s : ByteArray) (k : Int) : Int × Bool × Int :=
  match placeF l s with
  | none => (0, false, 0)
  | some i => if (l[i]?.map (·.2)) = some k then (i, true, 0) else (0, true, 132)
theorem known_any (bv base : Nat) (l : List (ByteArray × Int)) (s : ByteArray) (k : Int) (w : World) (h : VW w base bv l) (hs : s.size ≤ maxLen) :
    Calls Tryz.prog 19 #[.pointer (some ⟨bv, 0, none⟩), .agg #[.string s, .int .u8 k]] w fun e w' => e = .returned (.tuple #[.int .i64 (knownF l s k).1, .bool (knownF l s k).2.1, .int .i64 (knownF l s k).2.2]) ∧ Fr [] w w' := by
  unfold knownF
  cases hp : placeF l s with
  | none => exact known_none bv base l s k w h hs hp
  | some i =>
    obtain ⟨k', hk⟩ := place_get hp
    by_cases hkk : k' = k
    · subst hkk
      simp only [hk, Option.map_some, if_true]
      exact known_same bv base i l s k' w h hs hp hk
    · simp only [hk, Option.map_some, Option.some.injEq, hkk, if_false]
      exact known_other bv base i l s k k' w h hs hp hk hkk
end Go.Proofs.YtbbnafnnbhbbcaaGreatDoor
