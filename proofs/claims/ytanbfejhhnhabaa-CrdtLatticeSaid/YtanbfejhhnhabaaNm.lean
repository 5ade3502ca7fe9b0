/- A map of names to nodes. -/
import Derived.Test.YtanbfejhhnhabaaCm
import Derived.Test.YtanbfejhhnhabaaName
import Derived.Test.YtanbfejhhnhabaaApp
import Derived.Maps.Own
import Derived.Maps.OwnOps
import Derived.Maps.OwnSet
import Derived.Maps.Ext
import Derived.Sort.KeysCollected
import Derived.Sort.Walk0
namespace Go.Proofs.Ytanbfejhhnhabaa
open Go.RowKit Go.Maps Go.Sort
set_option maxRecDepth 100000
set_option linter.unusedVariables false
set_option linter.unusedSimpArgs false
set_option maxHeartbeats 2000000
theorem mlaw : Keyed Try.prog 9 := string_keyed Try.underlying9
/-- A text as a key. -/
def key (s : ByteArray) : Lit := .string s.data.toList
theorem mkey (s : ByteArray) (h : s.size ≤ maxLen) : keyOf Try.prog 9 (.string s) = some (key s) := WideMaps.keyOf_string_mk Try.underlying9 h
theorem key_ne {s t : ByteArray} (h : s ≠ t) : key s ≠ key t := by
  intro e
  simp only [key, Lit.string.injEq] at e
  exact h (bts_inj e)
/-- A node as a value, and as it is read. -/
abbrev ndV (s : ByteArray) (u d : Int) : Value := .agg #[.string s, .int .u64 u, .int .u64 d]
def ndD (s : ByteArray) (u d : Int) : DataW Unit := .agg [.lit (.string s.data.toList), .lit (.int .u64 u), .lit (.int .u64 d)]
def NE (v : Value) : Option (DataW Unit × List MemPlace) :=
  match v with
  | .agg cs =>
    match cs.toList with
    | [.string s, .int q u, .int q' d] => if q = .u64 ∧ q' = .u64 then some (ndD s u d, []) else none
    | _ => none
  | _ => none
theorem NE_mk (s : ByteArray) (u d : Int) : NE (ndV s u d) = some (ndD s u d, []) := rfl
theorem NE_inv {v : Value} {z : DataW Unit} {ps : List MemPlace} (h : NE v = some (z, ps)) : ∃ s u d, v = ndV s u d ∧ z = ndD s u d := by
  unfold NE at h
  split at h
  · rename_i cs
    split at h
    · rename_i s q u q' d hc
      split at h
      · rename_i hq
        obtain ⟨rfl, rfl⟩ := hq
        cases h
        refine ⟨s, u, d, ?_, rfl⟩
        show Value.agg cs = Value.agg _
        congr 1
        exact Array.toList_inj.1 (by rw [hc])
      · cases h
    · cases h
  · cases h
theorem ndD_inj {s s' : ByteArray} {u d u' d' : Int} (h : ndD s u d = ndD s' u' d') : s = s' ∧ u = u' ∧ d = d' := by
  unfold ndD at h
  simp at h
  refine ⟨?_, h.2.1, h.2.2⟩
  cases s; cases s'
  exact congrArg _ h.1
theorem mzero (w : World) : (zeroValue 33).run Try.prog w = .ok (ndV ByteArray.empty 0 0) w := by kernel_rfl
/-- What the datum says at a name. -/
def ND (D : DataW Unit) (l : List Nd) : Prop := ∀ s, s.size ≤ maxLen → Maps.has D (key s) = (lk l s).isSome ∧ ∀ z, D.atKey (key s) z = match lk l s with | some (u, d) => ndD s u d | none => z
structure NM (w : World) (b n : Nat) (l : List Nd) : Prop where
  ex : ∃ D, w.ownsMap Try.prog 9 NE b n D ∧ ND D l
theorem NM.lt {w : World} {b n : Nat} {l : List Nd} (h : NM w b n l) : b < w.heap.size := by
  obtain ⟨D, ⟨es, clock, he, _⟩, _⟩ := h.ex
  exact (Array.getElem?_eq_some_iff.1 he).1
theorem NM.fr {S : List Nat} {w w' : World} {b n : Nat} {l : List Nd} (h : NM w b n l) (f : Fr S w w') (hb : b ∉ S) : NM w' b n l := by
  obtain ⟨D, ⟨es, clock, he, r⟩, hD⟩ := h.ex
  exact ⟨D, ⟨es, clock, (f.block b (Array.getElem?_eq_some_iff.1 he).1 hb).trans he, r⟩, hD⟩
theorem NM.fr0 {w w' : World} {b n : Nat} {l : List Nd} (h : NM w b n l) (f : Fr [] w w') : NM w' b n l := h.fr f (by simp)
theorem NM.mono {w : World} {b n n' : Nat} {l : List Nd} (h : NM w b n l) (hn : n ≤ n') : NM w b n' l := by
  obtain ⟨D, ho, hD⟩ := h.ex
  exact ⟨D, ho.mono hn, hD⟩
theorem NM.made (w : World) (b : Nat) (hb : b = w.heap.size) : NM (w.alloc (.map #[] 0)) b 0 [] := by
  subst hb
  exact ⟨.map [], World.ownsMap_made _ _ _ _, fun s _ => ⟨rfl, fun z => rfl⟩⟩
theorem NM.neBlk {w : World} {b b' n : Nat} {cs : Array Value} {t : TypeId} {l : List Nd} (h : Blk w b' cs t) (ho : NM w b n l) : b' ≠ b := by
  rintro rfl
  obtain ⟨D, ⟨es, clock, he, _⟩, _⟩ := ho.ex
  unfold Blk at h
  rw [h] at he
  cases he
theorem ND.put {D : DataW Unit} {l : List Nd} (h : ND D l) (hD : IsMap D) (s : ByteArray) (hs : s.size ≤ maxLen) (u d : Int) : ND (D.put (key s) (ndD s u d)) (putL l (s, u, d)) := by
  intro t ht
  rw [lk_putL]
  by_cases e : t = s
  · subst e
    rw [if_pos rfl, has_put_same hD (mlaw.key (mkey t ht))]
    exact ⟨rfl, fun z => atKey_put_same hD (mlaw.key (mkey t ht)) _ z⟩
  · rw [if_neg e, has_put_other (key_ne e)]
    refine ⟨(h t ht).1, fun z => ?_⟩
    rw [atKey_put_other (key_ne e)]
    exact (h t ht).2 z
theorem Fr.of_grown1 {w w' : World} {b : Nat} (h : w.grownBy w' (some b)) : Fr [b] w w' := ⟨h.os, h.tape, h.output, h.size, fun k hk hs => h.block k hk (fun e => hs (by simp [Option.some.inj e]))⟩
/-- A store. -/
theorem NM.store {w : World} {b n : Nat} {l : List Nd} (h : NM w b n l) (s : ByteArray) (hs : s.size ≤ maxLen) (u d : Int) (hn : n < maxLen) :
    ∃ w', (Instr.mapUpdate 68 (.map (some b)) (.string s) (ndV s u d)).run Try.prog w = .ok () w' ∧ NM w' b (n + 1) (putL l (s, u, d)) ∧ Fr [b] w w' := by
  obtain ⟨D, ho, hD⟩ := h.ex
  obtain ⟨w', h1, h2, h3⟩ := ho.update mlaw Try.underlying68 hn (mkey s hs) (NE_mk s u d)
  exact ⟨w', h1, ⟨_, h2, hD.put ho.isMap s hs u d⟩, Fr.of_grown1 h3⟩
/-- What a look-up gives. -/
def lkV (l : List Nd) (s : ByteArray) : Value := match lk l s with | some (u, d) => ndV s u d | none => ndV ByteArray.empty 0 0
theorem lkV_some {l : List Nd} {s : ByteArray} {u d : Int} (h : lk l s = some (u, d)) : lkV l s = ndV s u d := by unfold lkV; rw [h]
theorem lkV_none {l : List Nd} {s : ByteArray} (h : lk l s = none) : lkV l s = ndV ByteArray.empty 0 0 := by unfold lkV; rw [h]
theorem lkV_of {l l' : List Nd} {s : ByteArray} (h : lk l s = lk l' s) : lkV l s = lkV l' s := by unfold lkV; rw [h]
theorem lkV_ex (l : List Nd) (s : ByteArray) : ∃ s', lkV l s = ndV s' (ofL l s).1 (ofL l s).2 := by
  unfold lkV ofL
  cases lk l s with
  | none => exact ⟨_, rfl⟩
  | some p => exact ⟨_, rfl⟩
/-- A look-up. -/
theorem NM.look {w : World} {b n : Nat} {l : List Nd} (h : NM w b n l) (s : ByteArray) (hs : s.size ≤ maxLen) :
    (Instr.lookup 68 (.map (some b)) (.string s) false).run Try.prog w = .ok (lkV l s) w := by
  obtain ⟨D, ho, hD⟩ := h.ex
  obtain ⟨v, ps, hrun, hv⟩ := ho.lookup mlaw Try.underlying68 (mzero w) (NE_mk ByteArray.empty 0 0) (mkey s hs)
  rw [(hD s hs).2] at hv
  obtain ⟨s', u', d', rfl, he⟩ := NE_inv hv
  rw [hrun]
  unfold lkV
  cases hl : lk l s with
  | none =>
    rw [hl] at he
    obtain ⟨rfl, rfl, rfl⟩ := ndD_inj he
    rfl
  | some p =>
    obtain ⟨u, d⟩ := p
    rw [hl] at he
    obtain ⟨rfl, rfl, rfl⟩ := ndD_inj he
    rfl
theorem NM.look_ok {w : World} {b n : Nat} {l : List Nd} (h : NM w b n l) (s : ByteArray) (hs : s.size ≤ maxLen) :
    (Instr.lookup 68 (.map (some b)) (.string s) true).run Try.prog w = .ok (.tuple #[lkV l s, .bool (lk l s).isSome]) w := by
  obtain ⟨D, ho, hD⟩ := h.ex
  obtain ⟨v, ps, hrun, hv⟩ := ho.look_ok mlaw Try.underlying68 (mzero w) (NE_mk ByteArray.empty 0 0) (mkey s hs)
  rw [(hD s hs).2] at hv
  rw [(hD s hs).1] at hrun
  obtain ⟨s', u', d', rfl, he⟩ := NE_inv hv
  rw [hrun]
  unfold lkV
  cases hl : lk l s with
  | none =>
    rw [hl] at he
    obtain ⟨rfl, rfl, rfl⟩ := ndD_inj he
    rfl
  | some p =>
    obtain ⟨u, d⟩ := p
    rw [hl] at he
    obtain ⟨rfl, rfl, rfl⟩ := ndD_inj he
    rfl
/-- The lists that maps hold: each name once, and short. -/
structure Good (l : List Nd) : Prop where
  st : Srt l
  sz : ∀ a ∈ l, a.1.size ≤ 64
theorem Good.nd {l : List Nd} (h : Good l) : (l.map (·.1)).Nodup := List.pairwise_map.2 (h.st.imp (fun h => bts_ne h))
theorem names_perm {w : World} {b n : Nat} {D : DataW Unit} {l : List Nd} (ho : w.ownsMap Try.prog 9 NE b n D) (hD : ND D l) (hg : Good l) : (l.map (fun a => bts a.1)).Perm (strKeys D) := by
  obtain ⟨es, hDe, hpw, _⟩ := ho.entries mlaw
  obtain ⟨es', hD', hko⟩ := ho.keysOf
  obtain rfl : es = es' := by rw [hDe] at hD'; simpa using hD'
  have hle := strKeys_le ho Try.underlying9
  subst hDe
  refine perm_strKeys hpw (fun p hp => by obtain ⟨v, hv⟩ := hko p hp; obtain ⟨x, _, hx, _⟩ := Maps.keyOf_str Try.underlying9 hv; exact ⟨x, hx⟩) ?_ ?_
  · have := hg.nd
    rw [show l.map (fun a => bts a.1) = (l.map (·.1)).map bts by simp [Function.comp_def]]
    exact List.pairwise_map.2 (this.imp (fun h e => h (bts_inj e)))
  · intro x
    by_cases hx : x.length ≤ maxLen
    · have hs : (⟨x.toArray⟩ : ByteArray).size ≤ maxLen := by simpa [ByteArray.size] using hx
      have := (hD ⟨x.toArray⟩ hs).1
      have ek : key (⟨x.toArray⟩ : ByteArray) = .string x := by simp [key]
      rw [ek] at this
      rw [this, lk_some_iff]
      constructor
      · intro h
        obtain ⟨a, ha, e⟩ := List.mem_map.1 h
        refine List.mem_map.2 ⟨a, ha, bts_inj ?_⟩
        rw [e]; simp [bts]
      · intro h
        obtain ⟨a, ha, e⟩ := List.mem_map.1 h
        refine List.mem_map.2 ⟨a, ha, ?_⟩
        show bts a.1 = x
        rw [show a.1 = _ from e]; simp [bts]
    · constructor
      · intro h
        obtain ⟨a, ha, rfl⟩ := List.mem_map.1 h
        exfalso; apply hx
        have := hg.sz a ha
        show (bts a.1).length ≤ maxLen
        have e : (bts a.1).length = a.1.size := Array.length_toList
        unfold maxLen
        omega
      · intro h
        exfalso
        apply hx
        refine hle x ?_
        unfold Maps.has at h
        simp only [List.any_eq_true] at h
        obtain ⟨p, hp, hs⟩ := h
        obtain ⟨v, hv⟩ := hko p hp
        obtain ⟨y, _, hy, _⟩ := Maps.keyOf_str Try.underlying9 hv
        rw [hy] at hs
        have : y = x := by simpa [Lit.sameKey] using hs
        subst this
        exact List.mem_map.2 ⟨p, hp, by rw [hy]; rfl⟩
theorem size_keys {D : DataW Unit} (h : IsMap D) : Maps.size D = (strKeys D).length := by
  obtain ⟨es, rfl⟩ := h
  simp [Maps.size, strKeys]
theorem NM.size {w : World} {b n : Nat} {l : List Nd} (h : NM w b n l) (hg : Good l) (ty : TypeId) : (Builtin.len_ #[68] ty #[.map (some b)]).run Try.prog w = .ok (.int .i64 l.length) w := by
  obtain ⟨D, ho, hD⟩ := h.ex
  have hp := names_perm ho hD hg
  have e : Maps.size D = l.length := by
    rw [size_keys ho.isMap, ← hp.length_eq]; simp
  rw [ho.len Try.underlying68 ty, e]
/-- The names of a sorted list, sorted. -/
theorem names_eq {ss : List (List UInt8)} {l : List Nd} {D : DataW Unit} (hg : Good l) (h1 : ss.Perm (strKeys D)) (h2 : (l.map (fun a => bts a.1)).Perm (strKeys D)) :
    ss.mergeSort (fun x y => decide (x ≤ y)) = l.map (fun a => bts a.1) := by
  have e1 : ss.mergeSort leB = (l.map (fun a => bts a.1)).mergeSort leB := mergeSort_of_perm (h1.trans h2.symm)
  have e0 : (fun x y : List UInt8 => decide (x ≤ y)) = leB := by funext x y; rfl
  rw [e0, e1]
  have tr : ∀ a b c : List UInt8, leB a b = true → leB b c = true → leB a c = true := fun a b c h1 h2 => by simp only [leB, decide_eq_true_eq] at *; exact List.le_trans h1 h2
  have tl : ∀ a b : List UInt8, (leB a b || leB b a) = true := fun a b => by simp only [leB, Bool.or_eq_true, decide_eq_true_eq]; exact List.le_total a b
  refine List.Perm.eq_of_pairwise (le := fun a b => leB a b = true) (fun a b _ _ h1 h2 => ?_) (List.pairwise_mergeSort tr tl _) ?_ (List.mergeSort_perm _ leB)
  · simp only [leB, decide_eq_true_eq] at h1 h2
    exact List.le_antisymm h1 h2
  · refine List.pairwise_map.2 (hg.st.imp ?_)
    intro x y h
    show leB (bts x.1) (bts y.1) = true
    unfold leB
    exact decide_eq_true (List.le_of_lt h)
end Go.Proofs.Ytanbfejhhnhabaa
