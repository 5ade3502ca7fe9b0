/- Arguments that are slices, also slices in slices: what a law's walk may know of them. -/
import Derived.Test.YtmilnhicmeblhaaApp
import Derived.WalkKit
import Derived.ProofKit
import Derived.OpenShut
import Derived.ChangeOld
import Derived.Below
import Derived.SizedLaws
import Derived.Deep.SlicePairs
namespace Go.Proofs.Ytmilnhicmeblhaa
open Go.ChangeShapes Go.WideShapes Go.ChangeAt Go.RowKit Go.Deep
set_option linter.unusedVariables false
set_option linter.unusedSimpArgs false
set_option maxRecDepth 100000
set_option maxHeartbeats 2000000
theorem flatMap_len {α : Type} {f : α → List Value} {s : Nat} (hf : ∀ a, (f a).length = s) (l : List α) : (l.flatMap f).length = l.length * s := by
  induction l with
  | nil => simp
  | cons a r ih => simp only [List.flatMap_cons, List.length_append, List.length_cons, ih, hf, Nat.add_mul]; omega
theorem flatMap_at {α : Type} {f : α → List Value} {s : Nat} (hf : ∀ a, (f a).length = s) : ∀ (l : List α) (i : Nat) (a : α) (r : Nat), l[i]? = some a → r < s → (l.flatMap f)[i * s + r]? = (f a)[r]?
  | [], i, a, r, h, _ => by simp at h
  | x :: l, 0, a, r, h, hr => by
    simp at h
    subst h
    rw [List.flatMap_cons, List.getElem?_append_left (by rw [hf]; omega)]
    simp
  | x :: l, i + 1, a, r, h, hr => by
    have := flatMap_at hf l i a r (by simpa using h) hr
    rw [List.flatMap_cons, List.getElem?_append_right (by rw [hf, Nat.add_mul]; omega), hf, Nat.add_mul]
    rw [show i * s + 1 * s + r - s = i * s + r by omega]
    exact this
theorem add_none (b o j : Nat) : (⟨b, o, none⟩ : Addr).add j = ⟨b, o + j, none⟩ := by
  unfold Addr.add
  split <;> simp_all
theorem cell_lt {w : World} {a : Addr} {v : Value} (h : w.cell? a = some v) : a.spot = none ∧ a.block < w.heap.size := by
  unfold World.cell? at h
  split at h
  · rename_i c _ _ hb
    split at h
    · cases h
    · rename_i hs
      refine ⟨by simpa using hs, ?_⟩
      rcases Nat.lt_or_ge a.block w.heap.size with hl | hl
      · exact hl
      · rw [Array.getElem?_eq_none hl] at hb; cases hb
  · cases h
theorem wts_all {H : Type} {P : Program} {e : TypeId} : ∀ {ds : List (DataW H)} {d : DataW H}, d ∈ ds → ∀ z ∈ d.weights P e, z ∈ DataW.weightsAll P e ds
  | [], d, h, z, hz => by cases h
  | x :: r, d, h, z, hz => by
    simp only [DataW.weightsAll, List.mem_append]
    rcases List.mem_cons.1 h with rfl | h
    · exact .inl hz
    · exact .inr (wts_all h z hz)
/-- A slice of elements that one function tells by their cells. -/
theorem RD.open_ {H : Type} {enc : TypeId × Value → H} {P : Program} {W : World} {t e : TypeId} {fuel s bt : Nat} {v : Value} {x : DataW H × List MemPlace} {α : Type} (f : α → List Value) (G : α → Prop)
    (ht : P.underlying t = some (.slice e)) (hs : P.cellsOf e = s) (hs0 : 0 < s) (hb : P.bytesOf e = bt) (hf : ∀ a, (f a).length = s)
    (h : DataW.trod enc P W 0 (fun _ => true) true fuel t [v] = some x) (hw : ∀ z ∈ x.1.weights P t, z ≤ reachBytes)
    (dec : ∀ (n : Nat) (cs : List Value) (y : DataW H × List MemPlace), DataW.trod enc P W 0 (fun _ => true) true n e cs = some y → (∀ z ∈ y.1.weights P e, z ≤ reachBytes) → cs.length = s → ∃ a, cs = f a ∧ G a) :
    ∃ l : List α, RD W s v l.length (l.flatMap f) ∧ (∀ a ∈ l, G a) ∧ l.length * bt ≤ reachBytes := by
  rcases open_slice ht h with ⟨h0, _⟩ | ⟨a, n, c, m, k, D, Pl, hcs, _, hl, hm, hmm, hx, hD⟩
  · simp at h0
    subst h0
    exact ⟨[], RD.nil _ _, by simp, by simp⟩
  · simp at hcs
    subst hcs
    rw [if_pos rfl] at hmm
    subst hmm
    rw [hx] at hw
    simp only [DataW.weights, ht, hb] at hw
    have hlen := hw ((((List.range n).map D).length + ((List.range (m - n)).map fun j => D (n + j)).length) * bt) (by simp)
    simp only [List.length_map, List.length_range] at hlen
    have hnb : n * bt ≤ reachBytes := Nat.le_trans (Nat.mul_le_mul_right _ (by omega)) hlen
    have each : ∀ i, i < n → ∃ q : α, (∀ r, r < s → W.cell? ((a.add (i * s)).add r) = (f q)[r]?) ∧ G q := by
      intro i hi
      obtain ⟨cs', h1, h2⟩ := hD i (by omega)
      rw [hs] at h1
      obtain ⟨_, hcl, hcell⟩ := World.cells?_some h1
      obtain ⟨q, hq, hG⟩ := dec k cs' _ h2 (fun z hz => hw z (by
        refine List.mem_cons_of_mem _ (List.mem_append_left _ (wts_all (d := D i) (List.mem_map.2 ⟨i, List.mem_range.2 hi, rfl⟩) z hz))) ) hcl
      exact ⟨q, fun r hr => by rw [← hq]; exact hcell r hr, hG⟩
    rcases Nat.eq_zero_or_pos n with h0 | h0
    · subst h0
      exact ⟨[], RD.empty _ _ hm (fun h => by cases h), by simp, by simp⟩
    · obtain ⟨q0, hq0⟩ := each 0 h0
      haveI : Inhabited α := ⟨q0⟩
      obtain ⟨q, hq⟩ := choose_lt (α := α) (p := fun i x => (∀ r, r < s → W.cell? ((a.add (i * s)).add r) = (f x)[r]?) ∧ G x) each
      have hll : ((List.range n).map q).length = n := by simp
      have hc0 : W.cell? a = (f q0)[0]? := by simpa [Addr.add] using hq0.1 0 hs0
      have hs1 : ∃ u, (f q0)[0]? = some u := ⟨_, List.getElem?_eq_getElem (by rw [hf]; omega)⟩
      obtain ⟨u0, hu0⟩ := hs1
      obtain ⟨ab, ao, asp⟩ := a
      obtain ⟨hsp, hlt⟩ := cell_lt (hc0.trans hu0)
      simp only at hsp hlt
      subst hsp
      refine ⟨(List.range n).map q, ?_, ?_, by rw [hll]; exact hnb⟩
      · rw [hll]
        refine ⟨by rw [flatMap_len hf, hll], .inr ⟨ab, ao, _, rfl, hlt, hl, hm, fun j u hj => ?_⟩⟩
        have hjl := (List.getElem?_eq_some_iff.1 hj).1
        rw [flatMap_len hf, hll] at hjl
        have hj2 : j = j / s * s + j % s := by rw [Nat.mul_comm]; exact (Nat.div_add_mod j s).symm
        have hr : j % s < s := Nat.mod_lt _ hs0
        have hi : j / s < n := (Nat.div_lt_iff_lt_mul hs0).2 hjl
        have hat := flatMap_at hf ((List.range n).map q) (j / s) (q (j / s)) (j % s) (by simp [hi]) hr
        rw [← hj2, hj] at hat
        have hcell := (hq (j / s) hi).1 (j % s) hr
        rw [add_none, add_none, Nat.add_assoc, ← hj2] at hcell
        rw [hcell]
        exact hat.symm
      · intro y hy
        obtain ⟨i, hi, rfl⟩ := List.mem_map.1 hy
        exact (hq i (List.mem_range.1 hi)).2
theorem wts_arg {H : Type} {P : Program} {ts : List TypeId} {ds : List (DataW H)} (h : (DataW.weightsEach P ts ds).all (· ≤ reachBytes) = true) {j : Nat} {t : TypeId} {d : DataW H} (ht : ts[j]? = some t) (hd : ds[j]? = some d) : ∀ z ∈ d.weights P t, z ≤ reachBytes :=
  fun z hz => by simpa using List.all_eq_true.1 h z (DataW.weights_mem_each ht hd z hz)
theorem trod_value {H : Type} {enc : TypeId × Value → H} {P : Program} {W : World} {t e : TypeId} {fuel : Nat} {cs : List Value} {x : DataW H × List MemPlace} (ht : P.underlying t = some (.slice e)) (h : DataW.trod enc P W 0 (fun _ => true) true fuel t cs = some x) : ∃ v, cs = [v] := by
  rcases open_slice ht h with ⟨h0, _⟩ | ⟨a, n, c, m, k, D, Pl, hcs, _⟩
  · exact ⟨_, h0⟩
  · exact ⟨_, hcs⟩
theorem bnd_u64 {n : Int} (h : (Lit.int .u64 n).wf = true) : 0 ≤ n ∧ n < 18446744073709551616 := by
  have := bounds_u64 h
  omega
end Go.Proofs.Ytmilnhicmeblhaa
