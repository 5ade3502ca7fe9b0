/- A map of names to places. -/
import Derived.Test.YtbbnafnnbhbbcaaGreatDoorRight
import Derived.Maps.Own
import Derived.Maps.OwnOps
import Derived.Maps.OwnSet
namespace Go.Proofs.YtbbnafnnbhbbcaaGreatDoor
open Go.RowKit Go.Maps
set_option maxRecDepth 100000
set_option linter.unusedVariables false
set_option linter.unusedSimpArgs false
set_option maxHeartbeats 2000000
theorem mlaw : Keyed Tryz.prog 9 := string_keyed Tryz.underlying9
theorem mzero (w : World) : (zeroValue 3).run Tryz.prog w = .ok (.int .i64 0) w := by kernel_rfl
/-- A text as a key. -/
def key (s : ByteArray) : Lit := .string s.data.toList
theorem mkey (s : ByteArray) (h : s.size ≤ maxLen) : keyOf Tryz.prog 9 (.string s) = some (key s) := WideMaps.keyOf_string_mk Tryz.underlying9 h
noncomputable abbrev ME : Value → Option (DataW Unit × List MemPlace) := plainElem Tryz.prog 3
/-- The map's datum has at each text what f says. -/
def MD (D : DataW Unit) (f : ByteArray → Option Nat) : Prop := ∀ s, s.size ≤ maxLen → Maps.has D (key s) = (f s).isSome ∧ D.atKey (key s) (.lit (.int .i64 0)) = .lit (.int .i64 (((f s).getD 0 : Nat) : Int))
/-- The map value in a view: of at most n texts: it has what f says. -/
def MV (w : World) (base : Nat) (mv : Value) (n : Nat) (f : ByteArray → Option Nat) : Prop :=
  (mv = .map none ∧ ∀ s, f s = none) ∨ ∃ b D, mv = .map (some b) ∧ base ≤ b ∧ w.ownsMap Tryz.prog 9 ME b n D ∧ MD D f
theorem MV.nil (w : World) (base : Nat) : MV w base (.map none) 0 (fun _ => none) := .inl ⟨rfl, fun _ => rfl⟩
theorem MV.look {w : World} {base : Nat} {mv : Value} {n : Nat} {f : ByteArray → Option Nat} (h : MV w base mv n f) (s : ByteArray) (hs : s.size ≤ maxLen) :
    (Instr.lookup 77 mv (.string s) true).run Tryz.prog w = .ok (.tuple #[.int .i64 (((f s).getD 0 : Nat) : Int), .bool (f s).isSome]) w := by
  rcases h with ⟨rfl, hf⟩ | ⟨b, D, rfl, hb, ho, hD⟩
  · rw [hf s]
    rcases mlaw.find w (mkey s hs) [] (by simp) with ⟨h1, _⟩ | ⟨j, e0, _, h2, _⟩
    · simp [Instr.lookup, run_underlying Tryz.underlying77, mlaw.check w _ (mkey s hs), h1, mzero, Result.andThen]
    · simp at h2
  · obtain ⟨h1, h2⟩ := hD s hs
    obtain ⟨v, ps, hrun, hv⟩ := ho.look_ok mlaw Tryz.underlying77 (mzero w) (plainElem_int Tryz.underlying3 (by decide)) (mkey s hs)
    rw [h2] at hv
    obtain ⟨a, rfl, hz, _⟩ := plainElem_int_inv Tryz.underlying3 hv
    simp only [Prod.mk.injEq, DataW.lit.injEq, Lit.int.injEq, true_and] at hz
    rw [hrun, h1, ← hz.1]
end Go.Proofs.YtbbnafnnbhbbcaaGreatDoor
