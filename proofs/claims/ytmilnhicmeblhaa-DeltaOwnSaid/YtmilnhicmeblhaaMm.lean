/- Maps of texts to values of one kind. -/
import Derived.Test.YtmilnhicmeblhaaOi
import Derived.Test.YtmilnhicmeblhaaPl
import Derived.Maps.Own
import Derived.Maps.OwnOps
import Derived.Maps.OwnSet
import Derived.Maps.Ext
import Derived.Sort.KeysCollected
import Derived.Sort.Walk0
namespace Go.Proofs.Ytmilnhicmeblhaa
open Go.RowKit Go.Maps Go.Sort
set_option maxRecDepth 100000
set_option linter.unusedVariables false
set_option linter.unusedSimpArgs false
set_option maxHeartbeats 2000000
theorem mlaw : Keyed Try.prog 9 := string_keyed Try.underlying9
/-- A text as a key. -/
def mk5 (s : ByteArray) : Lit := .string s.data.toList
theorem mkey (s : ByteArray) (h : s.size ≤ maxLen) : keyOf Try.prog 9 (.string s) = some (mk5 s) := WideMaps.keyOf_string_mk Try.underlying9 h
theorem key_ne {s t : ByteArray} (h : s ≠ t) : mk5 s ≠ mk5 t := by
  intro e
  simp only [mk5, Lit.string.injEq] at e
  exact h (bts_inj e)
/-- A kind of elements: as values, as data. -/
structure Elt (α : Type) where
  mt : TypeId
  et : TypeId
  und : Try.prog.underlying mt = some (.map 9 et)
  vl : α → Value
  enc : α → DataW Unit
  E : Value → Option (DataW Unit × List MemPlace)
  E_mk : ∀ a, E (vl a) = some (enc a, [])
  E_inv : ∀ v z ps, E v = some (z, ps) → ∃ a, v = vl a ∧ z = enc a
  inj : ∀ a b, enc a = enc b → a = b
  zero : α
  hz : ∀ w, (zeroValue et).run Try.prog w = .ok (vl zero) w
variable {α : Type}
/-- What the datum says at a name. -/
def ND (X : Elt α) (D : DataW Unit) (l : List (ByteArray × α)) : Prop := ∀ s, s.size ≤ maxLen → Maps.has D (mk5 s) = (lk l s).isSome ∧ ∀ z, D.atKey (mk5 s) z = match lk l s with | some a => X.enc a | none => z
structure NM (X : Elt α) (w : World) (b n : Nat) (l : List (ByteArray × α)) : Prop where
  ex : ∃ D, w.ownsMap Try.prog 9 X.E b n D ∧ ND X D l
variable {X : Elt α}
theorem NM.lt {w : World} {b n : Nat} {l : List (ByteArray × α)} (h : NM X w b n l) : b < w.heap.size := by
  obtain ⟨D, ⟨es, clock, he, _⟩, _⟩ := h.ex
  exact (Array.getElem?_eq_some_iff.1 he).1
theorem NM.fr {S : List Nat} {w w' : World} {b n : Nat} {l : List (ByteArray × α)} (h : NM X w b n l) (f : Fr S w w') (hb : b ∉ S) : NM X w' b n l := by
  obtain ⟨D, ⟨es, clock, he, r⟩, hD⟩ := h.ex
  exact ⟨D, ⟨es, clock, (f.block b (Array.getElem?_eq_some_iff.1 he).1 hb).trans he, r⟩, hD⟩
theorem NM.fr0 {w w' : World} {b n : Nat} {l : List (ByteArray × α)} (h : NM X w b n l) (f : Fr [] w w') : NM X w' b n l := h.fr f (by simp)
theorem NM.mono {w : World} {b n n' : Nat} {l : List (ByteArray × α)} (h : NM X w b n l) (hn : n ≤ n') : NM X w b n' l := by
  obtain ⟨D, ho, hD⟩ := h.ex
  exact ⟨D, ho.mono hn, hD⟩
theorem NM.made (X : Elt α) (w : World) (b : Nat) (hb : b = w.heap.size) : NM X (w.alloc (.map #[] 0)) b 0 [] := by
  subst hb
  exact ⟨.map [], World.ownsMap_made _ _ _ _, fun s _ => ⟨rfl, fun z => rfl⟩⟩
theorem NM.neBlk {w : World} {b b' n : Nat} {cs : Array Value} {t : TypeId} {l : List (ByteArray × α)} (h : Blk w b' cs t) (ho : NM X w b n l) : b' ≠ b := by
  rintro rfl
  obtain ⟨D, ⟨es, clock, he, _⟩, _⟩ := ho.ex
  unfold Blk at h
  rw [h] at he
  cases he
theorem NM.notCell {w : World} {b n o : Nat} {v : Value} {l : List (ByteArray × α)} (ho : NM X w b n l) (h : w.cell? ⟨b, o, none⟩ = some v) : False := by
  obtain ⟨D, ⟨es, clock, he, _⟩, _⟩ := ho.ex
  unfold World.cell? at h
  rw [he] at h
  cases h
theorem ND.put {D : DataW Unit} {l l' : List (ByteArray × α)} (h : ND X D l) (hD : IsMap D) (s : ByteArray) (hs : s.size ≤ maxLen) (a : α) (hl : ∀ t, lk l' t = if s = t then some a else lk l t) : ND X (D.put (mk5 s) (X.enc a)) l' := by
  intro t ht
  rw [hl]
  by_cases e : s = t
  · subst e
    rw [if_pos rfl, has_put_same hD (mlaw.key (mkey s ht))]
    exact ⟨rfl, fun z => atKey_put_same hD (mlaw.key (mkey s ht)) _ z⟩
  · rw [if_neg e, has_put_other (key_ne (Ne.symm e))]
    refine ⟨(h t ht).1, fun z => ?_⟩
    rw [atKey_put_other (key_ne (Ne.symm e))]
    exact (h t ht).2 z
/-- A store. -/
theorem NM.store {w : World} {b n : Nat} {l l' : List (ByteArray × α)} (h : NM X w b n l) (s : ByteArray) (hs : s.size ≤ maxLen) (a : α) (hn : n < maxLen) (hl : ∀ t, lk l' t = if s = t then some a else lk l t) :
    ∃ w', (Instr.mapUpdate X.mt (.map (some b)) (.string s) (X.vl a)).run Try.prog w = .ok () w' ∧ NM X w' b (n + 1) l' ∧ Fr [b] w w' := by
  obtain ⟨D, ho, hD⟩ := h.ex
  obtain ⟨w', h1, h2, h3⟩ := ho.update mlaw X.und hn (mkey s hs) (X.E_mk a)
  exact ⟨w', h1, ⟨_, h2, hD.put ho.isMap s hs a hl⟩, Fr.of_grownBy h3⟩
/-- What a look-up gives. -/
def lkV (X : Elt α) (l : List (ByteArray × α)) (s : ByteArray) : Value := X.vl ((lk l s).getD X.zero)
theorem NM.look {w : World} {b n : Nat} {l : List (ByteArray × α)} (h : NM X w b n l) (s : ByteArray) (hs : s.size ≤ maxLen) :
    (Instr.lookup X.mt (.map (some b)) (.string s) false).run Try.prog w = .ok (lkV X l s) w := by
  obtain ⟨D, ho, hD⟩ := h.ex
  obtain ⟨v, ps, hrun, hv⟩ := ho.lookup mlaw X.und (X.hz w) (X.E_mk X.zero) (mkey s hs)
  rw [(hD s hs).2] at hv
  obtain ⟨a, rfl, he⟩ := X.E_inv _ _ _ hv
  rw [hrun]
  unfold lkV
  cases hl : lk l s with
  | none =>
    rw [hl] at he
    rw [← X.inj _ _ he]; rfl
  | some p =>
    rw [hl] at he
    rw [← X.inj _ _ he]; rfl
theorem NM.look_ok {w : World} {b n : Nat} {l : List (ByteArray × α)} (h : NM X w b n l) (s : ByteArray) (hs : s.size ≤ maxLen) :
    (Instr.lookup X.mt (.map (some b)) (.string s) true).run Try.prog w = .ok (.tuple #[lkV X l s, .bool (lk l s).isSome]) w := by
  obtain ⟨D, ho, hD⟩ := h.ex
  obtain ⟨v, ps, hrun, hv⟩ := ho.look_ok mlaw X.und (X.hz w) (X.E_mk X.zero) (mkey s hs)
  rw [(hD s hs).2] at hv
  rw [(hD s hs).1] at hrun
  obtain ⟨a, rfl, he⟩ := X.E_inv _ _ _ hv
  rw [hrun]
  unfold lkV
  cases hl : lk l s with
  | none =>
    rw [hl] at he
    rw [← X.inj _ _ he]; rfl
  | some p =>
    rw [hl] at he
    rw [← X.inj _ _ he]; rfl
/-- The lists that maps hold: each name once, and short. -/
structure Good (l : List (ByteArray × α)) : Prop where
  nd : (l.map (·.1)).Nodup
  sz : ∀ a ∈ l, a.1.size ≤ 256
theorem lk_some_iff {l : List (ByteArray × α)} {s : ByteArray} : (lk l s).isSome = true ↔ s ∈ l.map (·.1) := by
  induction l with
  | nil => simp [lk]
  | cons x r ih =>
    rw [lk]
    by_cases e : x.1 = s
    · simp [e]
    · rw [if_neg e, ih]; simp [Ne.symm e]
theorem Good.of_srt {l : List (ByteArray × α)} (h : Srt l) (hs : ∀ a ∈ l, a.1.size ≤ 256) : Good l := ⟨List.pairwise_map.2 (h.imp (fun h => bts_ne h)), hs⟩
theorem names_perm {w : World} {b n : Nat} {D : DataW Unit} {l : List (ByteArray × α)} (ho : w.ownsMap Try.prog 9 X.E b n D) (hD : ND X D l) (hg : Good l) : (l.map (fun a => bts a.1)).Perm (strKeys D) := by
  obtain ⟨es, hDe, hpw, _⟩ := ho.entries mlaw
  obtain ⟨es', hD', hko⟩ := ho.keysOf
  obtain rfl : es = es' := by rw [hDe] at hD'; simpa using hD'
  have hle := strKeys_le ho Try.underlying9
  subst hDe
  refine perm_strKeys hpw (fun p hp => by obtain ⟨v, hv⟩ := hko p hp; obtain ⟨x, _, hx, _⟩ := Maps.keyOf_str Try.underlying9 hv; exact ⟨x, hx⟩) ?_ ?_
  · have := hg.nd
    rw [show l.map (fun a => bts a.1) = (l.map (·.1)).map bts by simp [Function.comp_def]]
    exact List.pairwise_map.2 (this.imp (fun h e => h (bts_inj e)))
  · intro x
    by_cases hx : x.length ≤ maxLen
    · have hs : (⟨x.toArray⟩ : ByteArray).size ≤ maxLen := by simpa [ByteArray.size] using hx
      have := (hD ⟨x.toArray⟩ hs).1
      have ek : mk5 (⟨x.toArray⟩ : ByteArray) = .string x := by simp [mk5]
      rw [ek] at this
      rw [this, lk_some_iff]
      constructor
      · intro h
        obtain ⟨a, ha, e⟩ := List.mem_map.1 h
        refine List.mem_map.2 ⟨a, ha, bts_inj ?_⟩
        rw [e]; simp [bts]
      · intro h
        obtain ⟨a, ha, e⟩ := List.mem_map.1 h
        refine List.mem_map.2 ⟨a, ha, ?_⟩
        show bts a.1 = x
        rw [show a.1 = _ from e]; simp [bts]
    · constructor
      · intro h
        obtain ⟨a, ha, rfl⟩ := List.mem_map.1 h
        exfalso; apply hx
        have := hg.sz a ha
        show (bts a.1).length ≤ maxLen
        have e : (bts a.1).length = a.1.size := Array.length_toList
        unfold maxLen
        omega
      · intro h
        exfalso
        apply hx
        refine hle x ?_
        unfold Maps.has at h
        simp only [List.any_eq_true] at h
        obtain ⟨p, hp, hs⟩ := h
        obtain ⟨v, hv⟩ := hko p hp
        obtain ⟨y, _, hy, _⟩ := Maps.keyOf_str Try.underlying9 hv
        rw [hy] at hs
        have : y = x := by simpa [Lit.sameKey] using hs
        subst this
        exact List.mem_map.2 ⟨p, hp, by rw [hy]; rfl⟩
theorem size_keys {D : DataW Unit} (h : IsMap D) : Maps.size D = (strKeys D).length := by
  obtain ⟨es, rfl⟩ := h
  simp [Maps.size, strKeys]
theorem NM.dsize {w : World} {b n : Nat} {D : DataW Unit} {l : List (ByteArray × α)} (ho : w.ownsMap Try.prog 9 X.E b n D) (hD : ND X D l) (hg : Good l) : Maps.size D = l.length := by
  rw [size_keys ho.isMap, ← (names_perm ho hD hg).length_eq]; simp
theorem NM.size {w : World} {b n : Nat} {l : List (ByteArray × α)} (h : NM X w b n l) (hg : Good l) (ty : TypeId) : (Builtin.len_ #[X.mt] ty #[.map (some b)]).run Try.prog w = .ok (.int .i64 l.length) w := by
  obtain ⟨D, ho, hD⟩ := h.ex
  have e := NM.dsize ho hD hg
  rw [ho.len X.und ty, e]
/-- The names of a sorted list, sorted. -/
theorem names_eq {ss : List (List UInt8)} {l : List (ByteArray × α)} {D : DataW Unit} (hg : Srt l) (h1 : ss.Perm (strKeys D)) (h2 : (l.map (fun a => bts a.1)).Perm (strKeys D)) :
    ss.mergeSort (fun x y => decide (x ≤ y)) = l.map (fun a => bts a.1) := by
  have e1 : ss.mergeSort leB = (l.map (fun a => bts a.1)).mergeSort leB := mergeSort_of_perm (h1.trans h2.symm)
  have e0 : (fun x y : List UInt8 => decide (x ≤ y)) = leB := by funext x y; rfl
  rw [e0, e1]
  have tr : ∀ a b c : List UInt8, leB a b = true → leB b c = true → leB a c = true := fun a b c h1 h2 => by simp only [leB, decide_eq_true_eq] at *; exact List.le_trans h1 h2
  have tl : ∀ a b : List UInt8, (leB a b || leB b a) = true := fun a b => by simp only [leB, Bool.or_eq_true, decide_eq_true_eq]; exact List.le_total a b
  refine List.Perm.eq_of_pairwise (le := fun a b => leB a b = true) (fun a b _ _ h1 h2 => ?_) (List.pairwise_mergeSort tr tl _) ?_ (List.mergeSort_perm _ leB)
  · simp only [leB, decide_eq_true_eq] at h1 h2
    exact List.le_antisymm h1 h2
  · refine List.pairwise_map.2 (hg.imp ?_)
    intro x y h
    show leB (bts x.1) (bts y.1) = true
    unfold leB
    exact decide_eq_true (List.le_of_lt h)
/-! The kinds. -/
def uE (v : Value) : Option (DataW Unit × List MemPlace) := match v with | .int .u64 n => some (.lit (.int .u64 n), []) | _ => none
/-- Numbers. -/
def XU : Elt Int where
  mt := 104
  et := 32
  und := Try.underlying104
  vl := .int .u64
  enc := fun n => .lit (.int .u64 n)
  E := uE
  E_mk := fun _ => rfl
  E_inv := fun v z ps h => by
    unfold uE at h
    split at h
    · cases h; exact ⟨_, rfl, rfl⟩
    · cases h
  inj := fun a b h => by simpa using h
  zero := 0
  hz := fun w => by kernel_rfl
def bE (v : Value) : Option (DataW Unit × List MemPlace) := match v with | .bool n => some (.lit (.bool n), []) | _ => none
/-- Yes or no. -/
def XB : Elt Bool where
  mt := 25
  et := 4
  und := Try.underlying25
  vl := .bool
  enc := fun n => .lit (.bool n)
  E := bE
  E_mk := fun _ => rfl
  E_inv := fun v z ps h => by
    unfold bE at h
    split at h
    · cases h; exact ⟨_, rfl, rfl⟩
    · cases h
  inj := fun a b h => by simpa using h
  zero := false
  hz := fun w => by kernel_rfl
/-- A slice by its place: block and offset, length, capacity. -/
abbrev Slc := Option (Nat × Nat) × Nat × Nat
def slV (x : Slc) : Value := .slice (x.1.map fun p => ⟨p.1, p.2, none⟩) x.2.1 x.2.2
theorem slV_of {a : Option Addr} {n c : Nat} (h : ∀ p, a = some p → p.spot = none) : ∃ x : Slc, Value.slice a n c = slV x := by
  cases a with
  | none => exact ⟨(none, n, c), rfl⟩
  | some p =>
    obtain ⟨b, o, s⟩ := p
    have := h _ rfl
    simp only at this
    subst this
    exact ⟨(some (b, o), n, c), rfl⟩
theorem SV.slc {w : World} {base size : Nat} {v : Value} {n : Nat} {xs : List Value} (h : SV w base size v n xs) : ∃ x : Slc, v = slV x ∧ x.2.1 = n := by
  rcases h.2 with ⟨rfl, rfl⟩ | ⟨g, o, c, rfl, _⟩
  · exact ⟨(none, 0, 0), rfl, rfl⟩
  · exact ⟨(some (g, o), n, c), rfl, rfl⟩
abbrev Hd := Slc × Int
def hdV (x : Hd) : Value := .agg #[slV x.1, .int .u64 x.2]
def nI (n : Nat) : DataW Unit := .lit (.int .i64 n)
def hdD (x : Hd) : DataW Unit := .agg [match x.1.1 with | none => .agg [] | some (b, o) => .agg [nI b, nI o], nI x.1.2.1, nI x.1.2.2, .lit (.int .u64 x.2)]
def hE (v : Value) : Option (DataW Unit × List MemPlace) :=
  match v with
  | .agg cs =>
    match cs.toList with
    | [.slice none n c, .int .u64 k] => some (hdD ((none, n, c), k), [])
    | [.slice (some ⟨b, o, none⟩) n c, .int .u64 k] => some (hdD ((some (b, o), n, c), k), [])
    | _ => none
  | _ => none
/-- What a source's pushes have added up to. -/
def XH : Elt Hd where
  mt := 97
  et := 101
  und := Try.underlying97
  vl := hdV
  enc := hdD
  E := hE
  E_mk := fun a => by
    obtain ⟨⟨p, n, c⟩, k⟩ := a
    cases p with
    | none => rfl
    | some p => obtain ⟨b, o⟩ := p; rfl
  E_inv := fun v z ps h => by
    unfold hE at h
    split at h
    · rename_i cs
      split at h
      · rename_i n c k hc
        cases h
        refine ⟨((none, n, c), k), ?_, rfl⟩
        show Value.agg cs = Value.agg _
        congr 1
        exact Array.toList_inj.1 (by rw [hc]; rfl)
      · rename_i b o n c k hc
        cases h
        refine ⟨((some (b, o), n, c), k), ?_, rfl⟩
        show Value.agg cs = Value.agg _
        congr 1
        exact Array.toList_inj.1 (by rw [hc]; rfl)
      · cases h
    · cases h
  inj := fun a b h => by
    obtain ⟨⟨p, n, c⟩, k⟩ := a
    obtain ⟨⟨p', n', c'⟩, k'⟩ := b
    unfold hdD nI at h
    simp only [DataW.agg.injEq, List.cons.injEq, DataW.lit.injEq, Lit.int.injEq, true_and, and_true, Int.ofNat_inj, Int.natCast_inj] at h
    obtain ⟨h1, h2, h3, h4⟩ := h
    subst h2 h3 h4
    cases p with
    | none =>
      cases p' with
      | none => rfl
      | some p' => simp at h1
    | some p =>
      cases p' with
      | none => simp at h1
      | some p' =>
        obtain ⟨x, y⟩ := p
        obtain ⟨x', y'⟩ := p'
        simp at h1
        obtain ⟨e1, e2⟩ := h1
        obtain rfl : x = x' := by omega
        obtain rfl : y = y' := by omega
        rfl
  zero := ((none, 0, 0), 0)
  hz := fun w => by kernel_rfl
end Go.Proofs.Ytmilnhicmeblhaa
