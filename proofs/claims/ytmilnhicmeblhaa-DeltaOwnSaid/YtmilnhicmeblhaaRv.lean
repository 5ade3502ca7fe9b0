/- The package delta: a receiver in memory. -/
import Derived.Test.YtmilnhicmeblhaaMm
import Derived.Test.YtmilnhicmeblhaaSm
import Derived.Test.YtmilnhicmeblhaaCn
import Derived.Maps.RangeWalk
import Derived.Sort.MapsRangeIn
namespace Go.Proofs.Ytmilnhicmeblhaa
open Go.RowKit Go.Maps Go.Sort
set_option maxRecDepth 100000
set_option linter.unusedVariables false
set_option linter.unusedSimpArgs false
set_option maxHeartbeats 4000000
/-- What is had of a source: its name; its total's slice, its total, its number. -/
abbrev Sq := List (ByteArray × Slc × List Ct × Int)
def mapQ (q : Sq) : List (ByteArray × Hd) := q.map fun x => (x.1, (x.2.1, x.2.2.2))
structure RV (w : World) (F : List Nat) (p b n : Nat) (q : Sq) : Prop where
  bk : Blk w p #[.map (some b)] 99
  pF : p ∈ F
  bF : b ∈ F
  mp : NM XH w b n (mapQ q)
  gd : Good (mapQ q)
  tot : ∀ x ∈ q, SV w 0 2 (slV x.2.1) x.2.2.1.length (flat2 x.2.2.1) ∧ (∀ g, (slV x.2.1).ownBlock = some g → g ∈ F ∧ g ≠ b) ∧ rightC x.2.2.1 = true ∧ WC x.2.2.1
  lt : ∀ g ∈ F, g < w.heap.size
  len : q.length ≤ 256
  nm : ∀ x ∈ q, inW x.2.2.2
theorem RV.fr {S : List Nat} {w w' : World} {F : List Nat} {p b n : Nat} {q : Sq} (h : RV w F p b n q) (f : Fr S w w') (hS : ∀ g ∈ F, g ∉ S) : RV w' F p b n q :=
  ⟨f.blk h.bk (hS p h.pF), h.pF, h.bF, h.mp.fr f (hS b h.bF), h.gd, fun x hx => by
    obtain ⟨h1, h2, h3⟩ := h.tot x hx
    exact ⟨h1.fr f (fun g hg => hS g (h2 g hg).1), h2, h3⟩, fun g hg => Nat.lt_of_lt_of_le (h.lt g hg) f.size, h.len, h.nm⟩
theorem lk_mapQ {q : Sq} (hg : Good (mapQ q)) {x : ByteArray × Slc × List Ct × Int} (hx : x ∈ q) : lk (mapQ q) x.1 = some (x.2.1, x.2.2.2) := by
  have hnd := hg.nd
  unfold mapQ at *
  clear hg
  induction q with
  | nil => cases hx
  | cons y r ih =>
    rw [List.map_cons, lk]
    rw [List.map_cons, List.map_cons, List.nodup_cons] at hnd
    rcases List.mem_cons.1 hx with rfl | hx
    · rw [if_pos rfl]
    · have hne : y.1 ≠ x.1 := by
        intro e
        apply hnd.1
        rw [e]
        exact List.mem_map.2 ⟨(x.1, (x.2.1, x.2.2.2)), List.mem_map.2 ⟨x, hx, rfl⟩, rfl⟩
      rw [if_neg hne]
      exact ih hx hnd.2
theorem mk5_same {s t : ByteArray} : (mk5 s).sameKey (mk5 t) = decide (s = t) := by
  by_cases e : s = t
  · subst e
    simp [mk5, Lit.sameKey]
  · rw [decide_eq_false e]
    have := key_ne e
    simp only [mk5] at *
    simpa [Lit.sameKey] using this
/-- Which sources are still to come. -/
structure Vis (q vis rest : Sq) (left : Lit → Bool) : Prop where
  perm : q.Perm (vis ++ rest)
  left : ∀ s : ByteArray, s.size ≤ maxLen → (left (mk5 s) = true ↔ s ∈ rest.map (·.1))
theorem Vis.start {q : Sq} {D : DataW Unit} (hD : ND XH D (mapQ q)) : Vis q [] q (Maps.has D) := by
  refine ⟨by simp, fun s hs => ?_⟩
  rw [(hD s hs).1, lk_some_iff]
  unfold mapQ
  rw [List.map_map]
  rfl
theorem Vis.step {q vis rest : Sq} {left : Lit → Bool} (h : Vis q vis rest left) (hg : Good (mapQ q)) {s : ByteArray} (hs : s.size ≤ maxLen) (hl : left (mk5 s) = true) :
    ∃ x rest', x.1 = s ∧ rest.Perm (x :: rest') ∧ x ∈ q ∧ Vis q (vis ++ [x]) rest' (fun z => left z && !z.sameKey (mk5 s)) := by
  obtain ⟨x, hx, rfl⟩ := List.mem_map.1 ((h.left s hs).1 hl)
  obtain ⟨r1, r2, rfl⟩ := List.append_of_mem hx
  have hp : (r1 ++ x :: r2).Perm (x :: (r1 ++ r2)) := List.perm_middle
  have hq : q.Perm ((vis ++ [x]) ++ (r1 ++ r2)) := by
    refine h.perm.trans ?_
    rw [List.append_assoc]
    exact List.Perm.append_left vis hp
  refine ⟨x, r1 ++ r2, rfl, hp, h.perm.mem_iff.2 (List.mem_append_right _ hx), hq, fun t ht => ?_⟩
  have hnd : ((vis ++ [x] ++ (r1 ++ r2)).map (·.1)).Nodup := by
    have h1 : (q.map (·.1)).Nodup := by
      have := hg.nd
      unfold mapQ at this
      rwa [List.map_map] at this
    exact (hq.map (·.1)).nodup_iff.1 h1
  have hxn : x.1 ∉ (r1 ++ r2).map (·.1) := by
    intro hm
    rw [List.map_append, List.nodup_append] at hnd
    exact hnd.2.2 x.1 (by simp) x.1 hm rfl
  rw [Bool.and_eq_true, h.left t ht, mk5_same, Bool.not_eq_true', decide_eq_false_iff_not, (hp.map (·.1)).mem_iff, List.map_cons, List.mem_cons]
  constructor
  · rintro ⟨rfl | h1, h2⟩
    · exact absurd rfl h2
    · exact h1
  · intro h1
    exact ⟨.inr h1, fun e => hxn (e ▸ h1)⟩
theorem Vis.done {q vis rest : Sq} {left : Lit → Bool} (h : Vis q vis rest left) (hg : Good (mapQ q)) (hl : ∀ k, left k = false) : q.Perm vis := by
  have hr : rest = [] := by
    cases rest with
    | nil => rfl
    | cons x r =>
      have hxq : x ∈ q := h.perm.mem_iff.2 (by simp)
      have hs : x.1.size ≤ maxLen := by
        have := hg.sz (x.1, (x.2.1, x.2.2.2)) (List.mem_map.2 ⟨x, hxq, rfl⟩)
        unfold maxLen
        simp at this
        omega
      have := (h.left x.1 hs).2 (by simp)
      rw [hl] at this
      cases this
  have := h.perm
  rw [hr, List.append_nil] at this
  exact this
end Go.Proofs.Ytmilnhicmeblhaa
