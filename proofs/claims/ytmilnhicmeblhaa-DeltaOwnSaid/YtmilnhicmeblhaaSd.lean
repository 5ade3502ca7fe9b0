/- The package delta: a sender in memory. -/
import Derived.Test.YtmilnhicmeblhaaAp
import Derived.Test.YtmilnhicmeblhaaAl
namespace Go.Proofs.Ytmilnhicmeblhaa
open Go.RowKit Go.Sort
set_option maxRecDepth 100000
set_option linter.unusedVariables false
set_option linter.unusedSimpArgs false
set_option maxHeartbeats 4000000
/-- Pushes that wait: their numbers; their changes' slices, their changes. -/
abbrev Wq := List (Int × Value × List Ch)
def flatP (s : ByteArray) (q : Wq) : List Value := q.flatMap fun x => [.string s, .int .u64 x.1, x.2.1]
theorem flatP_len (s : ByteArray) (q : Wq) : (flatP s q).length = q.length * 3 := flatMap_len (f := fun x : Int × Value × List Ch => [Value.string s, .int .u64 x.1, x.2.1]) (fun _ => rfl) q
theorem flatP_app (s : ByteArray) (a b : Wq) : flatP s (a ++ b) = flatP s a ++ flatP s b := by simp [flatP]
theorem flatP_get (s : ByteArray) (q : Wq) (i : Nat) (x : Int × Value × List Ch) (h : q[i]? = some x) : (flatP s q)[i * 3]? = some (.string s) ∧ (flatP s q)[i * 3 + 1]? = some (.int .u64 x.1) ∧ (flatP s q)[i * 3 + 2]? = some x.2.1 := by
  have h1 := flatMap_at (f := fun x : Int × Value × List Ch => [Value.string s, .int .u64 x.1, x.2.1]) (s := 3) (fun _ => rfl) q i x 0 h (by decide)
  have h2 := flatMap_at (f := fun x : Int × Value × List Ch => [Value.string s, .int .u64 x.1, x.2.1]) (s := 3) (fun _ => rfl) q i x 1 h (by decide)
  have h3 := flatMap_at (f := fun x : Int × Value × List Ch => [Value.string s, .int .u64 x.1, x.2.1]) (s := 3) (fun _ => rfl) q i x 2 h (by decide)
  exact ⟨h1, h2, h3⟩
/-- What waits, without the slices. -/
def waits (q : Wq) : List (Int × List Ch) := q.map fun x => (x.1, x.2.2)
/-- A sender at p: its blocks are among F. -/
structure SD (w : World) (F : List Nat) (p : Nat) (s : ByteArray) (num : Int) (vl vw : Value) (last : List Ct) (q : Wq) : Prop where
  bk : Blk w p #[.string s, .int .u64 num, vl, vw] 114
  pF : p ∈ F
  la : SV w 0 2 vl last.length (flat2 last)
  laF : ∀ g, vl.ownBlock = some g → g ∈ F ∧ g ≠ p
  rl : rightC last = true
  wl : WC last
  wt : SV w 0 3 vw q.length (flatP s q)
  wtF : ∀ g, vw.ownBlock = some g → g ∈ F ∧ g ≠ p ∧ vl.ownBlock ≠ some g
  ch : ∀ x ∈ q, SV w 0 4 x.2.1 x.2.2.length (flat4 x.2.2) ∧ (∀ g, x.2.1.ownBlock = some g → g ∈ F ∧ g ≠ p ∧ vw.ownBlock ≠ some g) ∧ rightH x.2.2 = true ∧ WH x.2.2
  lt : ∀ g ∈ F, g < w.heap.size
theorem SD.fr {S : List Nat} {w w' : World} {F : List Nat} {p : Nat} {s : ByteArray} {num : Int} {vl vw : Value} {last : List Ct} {q : Wq} (h : SD w F p s num vl vw last q) (f : Fr S w w') (hS : ∀ g ∈ F, g ∉ S) : SD w' F p s num vl vw last q :=
  ⟨f.blk h.bk (hS p h.pF), h.pF, h.la.fr f (fun g hg => hS g (h.laF g hg).1), h.laF, h.rl, h.wl, h.wt.fr f (fun g hg => hS g (h.wtF g hg).1), h.wtF, fun x hx => by
    obtain ⟨h1, h2, h3⟩ := h.ch x hx
    exact ⟨h1.fr f (fun g hg => hS g (h2 g hg).1), h2, h3⟩, fun g hg => Nat.lt_of_lt_of_le (h.lt g hg) f.size⟩
theorem SD.fr0 {w w' : World} {F : List Nat} {p : Nat} {s : ByteArray} {num : Int} {vl vw : Value} {last : List Ct} {q : Wq} (h : SD w F p s num vl vw last q) (f : Fr [] w w') : SD w' F p s num vl vw last q := h.fr f (by simp)
theorem SD.made (w : World) (s : ByteArray) : SD (w.alloc (.cells #[.string s, .int .u64 0, .slice none 0 0, .slice none 0 0] 114)) [w.heap.size] w.heap.size s 0 (.slice none 0 0) (.slice none 0 0) [] [] :=
  ⟨Blk.new _ _ _, by simp, SV.nil _ _ _, by simp [Value.ownBlock], rfl, (by intro x h; cases h), SV.nil _ _ _, by simp [Value.ownBlock], by simp, by simp⟩
/-- A Send that went through: the new last counts, one push more. -/
theorem SD.sent {w w' : World} {F : List Nat} {p : Nat} {s : ByteArray} {num num' : Int} {vl vw vl' vw' vc : Value} {last now : List Ct} {q : Wq} {c : List Ch} {base : Nat} (h : SD w F p s num vl vw last q)
    (hb : base = w.heap.size) (f : Fr (p :: vw.ownBlock.toList) w w') (bk : Blk w' p #[.string s, .int .u64 num', vl', vw'] 114)
    (hl : SV w' base 2 vl' now.length (flat2 now)) (hr : rightC now = true) (hw : WC now)
    (hc : SV w' base 4 vc c.length (flat4 c)) (hcr : rightH c = true) (hcw : WH c)
    (hq : SV w' 0 3 vw' (q.length + 1) (flatP s (q ++ [(num', vc, c)]))) (ho : ∀ g, vw'.ownBlock = some g → vw.ownBlock = some g ∨ (base ≤ g ∧ vl'.ownBlock ≠ some g ∧ vc.ownBlock ≠ some g)) :
    SD w' (F ++ (vl'.ownBlock.toList ++ vc.ownBlock.toList ++ vw'.ownBlock.toList)) p s num' vl' vw' now (q ++ [(num', vc, c)]) := by
  subst hb
  have hsz := f.size
  refine ⟨bk, List.mem_append_left _ h.pF, hl.base_le (Nat.zero_le _), fun g hg => ?_, hr, hw, by simpa using hq, fun g hg => ?_, fun x hx => ?_, fun g hg => ?_⟩
  · refine ⟨by simp [hg], ?_⟩
    have := (hl.own hg).1
    have := h.lt p h.pF
    omega
  · refine ⟨by simp [hg], ?_⟩
    rcases ho g hg with h1 | ⟨h1, h2, h3⟩
    · refine ⟨(h.wtF g h1).2.1, fun hv => ?_⟩
      have h2 := (hl.own hv).1
      have h3 := h.lt g (h.wtF g h1).1
      omega
    · refine ⟨?_, h2⟩
      have := h.lt p h.pF
      omega
  · rcases List.mem_append.1 hx with hx | hx
    · obtain ⟨h1, h2, h3⟩ := h.ch x hx
      refine ⟨h1.fr f (fun g hg hm => ?_), fun g hg => ?_, h3⟩
      · obtain ⟨k1, k2, k3⟩ := h2 g hg
        rcases List.mem_cons.1 hm with rfl | hm
        · exact k2 rfl
        · simp at hm
          exact k3 hm
      · obtain ⟨k1, k2, k3⟩ := h2 g hg
        refine ⟨List.mem_append_left _ k1, k2, fun hv => ?_⟩
        rcases ho g hv with h4 | ⟨h4, _⟩
        · exact k3 h4
        · have := h.lt g k1
          omega
    · simp at hx
      subst hx
      refine ⟨hc.base_le (Nat.zero_le _), fun g hg => ?_, hcr, hcw⟩
      have hg1 := (hc.own hg).1
      have := h.lt p h.pF
      refine ⟨by simp [hg], by omega, fun hv => ?_⟩
      rcases ho g hv with h4 | ⟨_, _, h5⟩
      · have := h.lt g (h.wtF g h4).1
        omega
      · exact h5 hg
  · rcases List.mem_append.1 hg with hg | hg
    · exact Nat.lt_of_lt_of_le (h.lt g hg) hsz
    · simp at hg
      rcases hg with hg | hg | hg
      · exact (hl.own hg).2
      · exact (hc.own hg).2
      · exact (hq.own hg).2
end Go.Proofs.Ytmilnhicmeblhaa
