/- The package labels: which texts may be names. -/
import Derived.Test.YtanbfejhhnhabaaRows
import Derived.WalkKit
import Derived.WalkSpells
import Derived.WalkLawsBesides
import Derived.Lib.Hide
import Derived.Laws.EntriesVeiled
import Derived.Deep.RegionWith
import Derived.Deep.QuietTactic
import Derived.BigQuiet
import Derived.StillTailTactics
import Derived.StillTail
import Derived.Deep.RegionHeld3
import Derived.BigRegion
import Derived.Deep.DeepCutAuto
import Derived.Deep.CutBlock
import Derived.Deep.LoopGhost
/- States of counters that merge: plain mathematics of sorted lists of nodes. -/
namespace Go.Proofs.Ytanbfejhhnhabaa
set_option linter.unusedVariables false
set_option linter.unusedSimpArgs false
def bts (a : ByteArray) : List UInt8 := a.data.toList
theorem bts_inj {a b : ByteArray} (h : bts a = bts b) : a = b := by
  cases a; cases b
  exact congrArg _ (Array.toList_inj.1 h)
theorem bts_lt_of {a b : ByteArray} (h1 : ¬ bts a < bts b) (h2 : a ≠ b) : bts b < bts a := by
  rcases Decidable.em (bts b < bts a) with h | h
  · exact h
  · exact absurd (bts_inj (List.le_antisymm (List.not_lt.1 h) (List.not_lt.1 h1))) h2
theorem bts_irrefl (a : ByteArray) : ¬ bts a < bts a := List.lt_irrefl _
theorem bts_ne {a b : ByteArray} (h : bts a < bts b) : a ≠ b := by rintro rfl; exact bts_irrefl _ h
theorem bts_trans {a b c : ByteArray} (h : bts a < bts b) (k : bts b < bts c) : bts a < bts c := List.lt_trans h k
abbrev Nd := ByteArray × Int × Int
/-- What stands at a name. -/
def lk (l : List Nd) (s : ByteArray) : Option (Int × Int) :=
  match l with
  | [] => none
  | x :: r => if x.1 = s then some x.2 else lk r s
def Srt (l : List Nd) : Prop := l.Pairwise (fun x y => bts x.1 < bts y.1)
theorem Srt.nil : Srt [] := List.Pairwise.nil
def putL : List Nd → Nd → List Nd
  | [], x => [x]
  | y :: r, x => if bts x.1 < bts y.1 then x :: y :: r else if y.1 = x.1 then x :: r else y :: putL r x
theorem lk_putL (l : List Nd) (x : Nd) (s : ByteArray) : lk (putL l x) s = if s = x.1 then some x.2 else lk l s := by
  induction l with
  | nil => simp [putL, lk, eq_comm]
  | cons y r ih =>
    unfold putL
    split
    · simp [lk, eq_comm]
    · split
      · rename_i h
        simp only [lk]
        rw [h]
        by_cases e : s = x.1
        · rw [if_pos e.symm, if_pos e]
        · rw [if_neg (Ne.symm e), if_neg e, if_neg (Ne.symm e)]
      · rename_i h
        simp only [lk, ih]
        by_cases e : s = x.1
        · rw [if_pos e, if_neg (by rw [e]; exact h), if_pos e]
        · rw [if_neg e, if_neg e]
theorem mem_putL {l : List Nd} {x z : Nd} (h : z ∈ putL l x) : z = x ∨ z ∈ l := by
  induction l with
  | nil => simp [putL] at h; exact .inl h
  | cons y r ih =>
    unfold putL at h
    split at h
    · simpa using h
    · split at h
      · rcases List.mem_cons.1 h with h | h
        · exact .inl h
        · exact .inr (List.mem_cons_of_mem _ h)
      · rcases List.mem_cons.1 h with h | h
        · exact .inr (by rw [h]; exact List.mem_cons_self)
        · rcases ih h with h | h
          · exact .inl h
          · exact .inr (List.mem_cons_of_mem _ h)
theorem Srt.put {l : List Nd} (h : Srt l) (x : Nd) : Srt (putL l x) := by
  induction l with
  | nil => exact List.pairwise_singleton _ _
  | cons y r ih =>
    obtain ⟨h1, h2⟩ := List.pairwise_cons.1 h
    unfold putL
    split
    · rename_i hx
      refine List.pairwise_cons.2 ⟨fun z hz => ?_, h⟩
      rcases List.mem_cons.1 hz with rfl | hz
      · exact hx
      · exact bts_trans hx (h1 z hz)
    · split
      · rename_i he
        exact List.pairwise_cons.2 ⟨fun z hz => by rw [← he]; exact h1 z hz, h2⟩
      · rename_i hx he
        refine List.pairwise_cons.2 ⟨fun z hz => ?_, ih h2⟩
        rcases mem_putL hz with rfl | hz
        · exact bts_lt_of hx (fun e => he e.symm)
        · exact h1 z hz
theorem lk_none {l : List Nd} {s : ByteArray} (h : ∀ x ∈ l, x.1 ≠ s) : lk l s = none := by
  induction l with
  | nil => rfl
  | cons y r ih =>
    simp only [lk]
    rw [if_neg (h y List.mem_cons_self)]
    exact ih (fun x hx => h x (List.mem_cons_of_mem _ hx))
theorem lk_mem {l : List Nd} {s : ByteArray} {v : Int × Int} (h : lk l s = some v) : (s, v) ∈ l := by
  induction l with
  | nil => cases h
  | cons y r ih =>
    simp only [lk] at h
    split at h
    · rename_i e
      cases h
      subst e
      exact List.mem_cons_self
    · exact List.mem_cons_of_mem _ (ih h)
theorem lk_of_mem {l : List Nd} (hs : Srt l) {x : Nd} (h : x ∈ l) : lk l x.1 = some x.2 := by
  induction l with
  | nil => cases h
  | cons y r ih =>
    obtain ⟨h1, h2⟩ := List.pairwise_cons.1 hs
    simp only [lk]
    rcases List.mem_cons.1 h with rfl | h
    · rw [if_pos rfl]
    · rw [if_neg (bts_ne (h1 x h))]
      exact ih h2 h
theorem lk_some_iff (l : List Nd) (s : ByteArray) : (lk l s).isSome = true ↔ s ∈ l.map (·.1) := by
  induction l with
  | nil => simp [lk]
  | cons y r ih =>
    simp only [lk, List.map_cons, List.mem_cons]
    by_cases e : y.1 = s
    · rw [if_pos e]; simp [e]
    · rw [if_neg e, ih]
      constructor
      · exact fun h => .inr h
      · rintro (h | h)
        · exact absurd h.symm e
        · exact h
/-- Two sorted lists in which the same stands are one. -/
theorem Srt.ext : ∀ {l1 l2 : List Nd}, Srt l1 → Srt l2 → (∀ s, lk l1 s = lk l2 s) → l1 = l2
  | [], [], _, _, _ => rfl
  | [], y :: r, _, _, h => by have := h y.1; simp [lk] at this
  | x :: r, [], _, _, h => by have := h x.1; simp [lk] at this
  | x :: r1, y :: r2, h1, h2, h => by
    obtain ⟨a1, a2⟩ := List.pairwise_cons.1 h1
    obtain ⟨b1, b2⟩ := List.pairwise_cons.1 h2
    have hxy : x.1 = y.1 := by
      rcases Decidable.em (x.1 = y.1) with e | e
      · exact e
      · exfalso
        rcases Decidable.em (bts x.1 < bts y.1) with hl | hl
        · have h3 := h x.1
          rw [lk_of_mem h1 List.mem_cons_self] at h3
          have := lk_mem h3.symm
          rcases List.mem_cons.1 this with e2 | e2
          · exact e (congrArg (·.1) e2)
          · exact bts_irrefl _ (bts_trans hl (b1 _ e2))
        · have hl2 := bts_lt_of hl e
          have h3 := h y.1
          rw [lk_of_mem h2 List.mem_cons_self] at h3
          have := lk_mem h3
          rcases List.mem_cons.1 this with e2 | e2
          · exact e (congrArg (·.1) e2).symm
          · exact bts_irrefl _ (bts_trans hl2 (a1 _ e2))
    have hv : x.2 = y.2 := by
      have h3 := h x.1
      simp only [lk] at h3
      rw [if_pos hxy.symm] at h3
      simpa using h3
    have hx : x = y := Prod.ext hxy hv
    subst hx
    have : r1 = r2 := Srt.ext a2 b2 (fun s => by
      by_cases e : x.1 = s
      · rw [lk_none (fun z hz => by rw [← e]; exact (bts_ne (a1 z hz)).symm), lk_none (fun z hz => by rw [← e]; exact (bts_ne (b1 z hz)).symm)]
      · have h3 := h s
        simp only [lk] at h3
        rwa [if_neg e, if_neg e] at h3)
    rw [this]
theorem len_putL {l : List Nd} (h : Srt l) (x : Nd) : (putL l x).length = if (lk l x.1).isSome then l.length else l.length + 1 := by
  induction l with
  | nil => rfl
  | cons y r ih =>
    obtain ⟨h1, h2⟩ := List.pairwise_cons.1 h
    unfold putL
    split
    · rename_i hx
      have : lk (y :: r) x.1 = none := lk_none (fun z hz => by
        rcases List.mem_cons.1 hz with rfl | hz
        · exact (bts_ne hx).symm
        · exact (bts_ne (bts_trans hx (h1 z hz))).symm)
      rw [this]
      simp
    · split
      · rename_i he
        simp [lk, he]
      · rename_i he
        have e : lk (y :: r) x.1 = lk r x.1 := by simp only [lk]; rw [if_neg he]
        rw [e, List.length_cons, ih h2, List.length_cons]
        split <;> rfl
/-- The numbers at a name. -/
def ofL (l : List Nd) (s : ByteArray) : Int × Int := (lk l s).getD (0, 0)
/-- One node of the second list merged. -/
def mrg (a : List Nd) (out : List Nd) (x : Nd) : List Nd := putL out (x.1, max (ofL a x.1).1 x.2.1, max (ofL a x.1).2 x.2.2)
def mergeL (a b : List Nd) : List Nd := b.foldl (mrg a) a
theorem fold_srt (a : List Nd) : ∀ (b out : List Nd), Srt out → Srt (b.foldl (mrg a) out)
  | [], _, h => h
  | x :: b, out, h => fold_srt a b _ (h.put _)
theorem fold_lk (a : List Nd) : ∀ (b out : List Nd), Srt b → ∀ s, lk (b.foldl (mrg a) out) s = match lk b s with | some v => some (max (ofL a s).1 v.1, max (ofL a s).2 v.2) | none => lk out s
  | [], out, _, s => rfl
  | x :: b, out, h, s => by
    obtain ⟨h1, h2⟩ := List.pairwise_cons.1 h
    show lk (b.foldl (mrg a) (mrg a out x)) s = _
    rw [fold_lk a b (mrg a out x) h2 s]
    by_cases e : x.1 = s
    · subst e
      have : lk b x.1 = none := lk_none (fun z hz => (bts_ne (h1 z hz)).symm)
      rw [this]
      simp only [lk]
      unfold mrg
      rw [lk_putL]
      simp
    · simp only [lk]
      rw [if_neg e]
      cases lk b s with
      | some v => rfl
      | none =>
        unfold mrg
        rw [lk_putL]
        simp [Ne.symm e]
theorem mergeL_srt {a b : List Nd} (h : Srt a) : Srt (mergeL a b) := fold_srt a b a h
theorem mergeL_lk {a b : List Nd} (h : Srt b) (s : ByteArray) : lk (mergeL a b) s = match lk b s with | some v => some (max (ofL a s).1 v.1, max (ofL a s).2 v.2) | none => lk a s := fold_lk a b a h s
end Go.Proofs.Ytanbfejhhnhabaa

/- Whole blocks of memory, and what a call leaves as it was. -/
namespace Go.Proofs.Ytanbfejhhnhabaa
open Go.RowKit

/-- Block b holds these cells; none is frozen. -/
def Blk (w : World) (b : Nat) (cs : Array Value) (t : TypeId) : Prop := w.heap[b]? = some (.cells cs t (0, 0))
theorem Blk.lt {w : World} {b : Nat} {cs : Array Value} {t : TypeId} (h : Blk w b cs t) : b < w.heap.size := by
  unfold Blk at h
  exact (Array.getElem?_eq_some_iff.1 h).1
theorem Blk.cell {w : World} {b : Nat} {cs : Array Value} {t : TypeId} (h : Blk w b cs t) (i : Nat) : w.cell? ⟨b, i, none⟩ = cs[i]? := by
  unfold Blk at h
  simp [World.cell?, h]
theorem Blk.free {w : World} {b : Nat} {cs : Array Value} {t : TypeId} (h : Blk w b cs t) (i : Nat) : w.frozen? ⟨b, i, none⟩ = false := by
  unfold Blk at h
  simp [World.frozen?, h]
theorem Blk.alloc {w : World} {b : Nat} {cs : Array Value} {t : TypeId} (h : Blk w b cs t) (o : Obj) : Blk (w.alloc o) b cs t := by
  unfold Blk
  rw [Below.heap_alloc _ _ _ h.lt]; exact h
theorem Blk.drew {w : World} {b : Nat} {cs : Array Value} {t : TypeId} (h : Blk w b cs t) : Blk w.drew b cs t := h
theorem Blk.other {w : World} {b : Nat} {cs : Array Value} {t : TypeId} (h : Blk w b cs t) {a : Addr} (hne : b ≠ a.block) (v : Value) : Blk (w.setCell a v) b cs t := by
  unfold Blk
  rw [Below.heap_setCell _ _ _ _ hne]; exact h
theorem Blk.set {w : World} {b : Nat} {cs : Array Value} {t : TypeId} (h : Blk w b cs t) (i : Nat) (v : Value) : Blk (w.setCell ⟨b, i, none⟩ v) b (cs.setIfInBounds i v) t := by
  unfold Blk at h ⊢
  simp [World.setCell, Array.getElem?_modify, h]
theorem Blk.new (w : World) (cs : Array Value) (t : TypeId) : Blk (w.alloc (.cells cs t)) w.heap.size cs t := by
  unfold Blk
  show (w.heap.push _)[_]? = _
  simp
theorem Blk.cast {w : World} {b : Nat} {cs cs' : Array Value} {t : TypeId} (h : Blk w b cs t) (e : cs = cs') : Blk w b cs' t := by subst e; exact h
theorem Blk.ne {w : World} {b b' : Nat} {cs cs' : Array Value} {t t' : TypeId} (h : Blk w b cs t) (h' : Blk w b' cs' t') (ht : t ≠ t') : b ≠ b' := by
  rintro rfl
  unfold Blk at h h'
  rw [h] at h'
  injection h' with h'
  injection h' with _ h2
  exact ht h2

/-- What a call leaves: of the old blocks those of S alone may have been written. -/
structure Fr (S : List Nat) (w w' : World) : Prop where
  os : w'.os = w.os
  tape : w'.tape = w.tape
  output : w'.output = w.output
  size : w.heap.size ≤ w'.heap.size
  block : ∀ k, k < w.heap.size → k ∉ S → w'.heap[k]? = w.heap[k]?
theorem Fr.refl (S : List Nat) (w : World) : Fr S w w := ⟨rfl, rfl, rfl, Nat.le_refl _, fun _ _ _ => rfl⟩
theorem Fr.trans {S : List Nat} {a b c : World} (h : Fr S a b) (k : Fr S b c) : Fr S a c :=
  ⟨k.os.trans h.os, k.tape.trans h.tape, k.output.trans h.output, Nat.le_trans h.size k.size, fun i hi hs => (k.block i (Nat.lt_of_lt_of_le hi h.size) hs).trans (h.block i hi hs)⟩
theorem Fr.mono {S T : List Nat} {a b : World} (h : Fr S a b) (hs : ∀ k, k ∈ S → k ∈ T) : Fr T a b :=
  ⟨h.os, h.tape, h.output, h.size, fun i hi ht => h.block i hi (fun e => ht (hs i e))⟩
theorem Fr.alloc {S : List Nat} {a b : World} (h : Fr S a b) (o : Obj) : Fr S a (b.alloc o) :=
  h.trans ⟨rfl, rfl, rfl, by simp, fun k hk _ => Below.heap_alloc _ _ _ hk⟩
theorem Fr.drew {S : List Nat} {a b : World} (h : Fr S a b) : Fr S a b.drew := ⟨h.os, h.tape, h.output, h.size, h.block⟩
theorem Fr.set {S : List Nat} {a b : World} (h : Fr S a b) {p : Addr} (hp : p.block ∈ S ∨ a.heap.size ≤ p.block) (v : Value) : Fr S a (b.setCell p v) :=
  ⟨h.os, h.tape, h.output, by simpa [World.setCell] using h.size, fun k hk hs => by
    rw [Below.heap_setCell _ _ _ _ (by rintro rfl; exact hp.elim hs (fun h1 => absurd hk (by omega)))]
    exact h.block k hk hs⟩
theorem Fr.below {S : List Nat} {a b : World} {B : Nat} (h : Fr S a b) (hB : B ≤ a.heap.size) (hs : ∀ k, k ∈ S → B ≤ k) : Below B a b :=
  ⟨h.os, h.tape, h.output, h.size, fun k hk => h.block k (by omega) (fun e => by have := hs k e; omega)⟩
theorem Fr.of_below {S : List Nat} {a b : World} (h : Below a.heap.size a b) : Fr S a b :=
  ⟨h.os, h.tape, h.output, h.size, fun k hk _ => h.block k hk⟩
theorem Fr.blk {S : List Nat} {w w' : World} (h : Fr S w w') {b : Nat} {cs : Array Value} {t : TypeId} (hb : Blk w b cs t) (hs : b ∉ S) : Blk w' b cs t := by
  have := h.block b hb.lt hs
  unfold Blk at hb ⊢
  rw [this]; exact hb
/-- Blocks that were made since are no old ones: S may name them. -/
theorem Fr.weaken {S T : List Nat} {a b : World} (h : Fr S a b) (hs : ∀ k, k ∈ S → k ∈ T ∨ a.heap.size ≤ k) : Fr T a b :=
  ⟨h.os, h.tape, h.output, h.size, fun i hi ht => h.block i hi (fun e => (hs i e).elim ht (fun h1 => absurd hi (by omega)))⟩
theorem Fr.drN {S : List Nat} {a b : World} (h : Fr S a b) (n : Nat) : Fr S a (b.drewN n) := ⟨h.os, h.tape, h.output, h.size, h.block⟩
theorem Blk.drN {w : World} {b : Nat} {cs : Array Value} {t : TypeId} (h : Blk w b cs t) (n : Nat) : Blk (w.drewN n) b cs t := h
theorem Blk.mk0 (w : World) (cs : Array Value) (t : TypeId) (n : Nat) (hn : n = w.heap.size) : Blk (w.alloc (.cells cs t)) n cs t := by
  subst hn; exact Blk.new w cs t
/-! A cell that may be written: past new blocks and other stores. -/
structure Cel (w : World) (b o : Nat) (v : Value) : Prop where
  c : w.cell? ⟨b, o, none⟩ = some v
  f : w.frozen? ⟨b, o, none⟩ = false
theorem Cel.lt {w : World} {b o : Nat} {v : Value} (h : Cel w b o v) : b < w.heap.size := World.block_lt_of_cell? w ⟨b, o, none⟩ h.c
theorem Cel.al {w : World} {b o : Nat} {v : Value} (h : Cel w b o v) (x : Obj) : Cel (w.alloc x) b o v :=
  ⟨by rw [World.cell?_of_block (Below.heap_alloc w x _ h.lt)]; exact h.c, by rw [World.frozen?_of_block (Below.heap_alloc w x _ h.lt)]; exact h.f⟩
theorem Cel.st {w : World} {b o : Nat} {v : Value} (h : Cel w b o v) {a : Addr} (hne : b ≠ a.block) (u : Value) : Cel (w.setCell a u) b o v :=
  ⟨by rw [World.cell?_of_block (Below.heap_setCell w a u b hne)]; exact h.c, by rw [World.frozen?_of_block (Below.heap_setCell w a u b hne)]; exact h.f⟩
theorem Cel.dr {w : World} {b o : Nat} {v : Value} (h : Cel w b o v) : Cel w.drew b o v := ⟨h.c, h.f⟩
theorem Cel.drN {w : World} {b o : Nat} {v : Value} (h : Cel w b o v) (n : Nat) : Cel (w.drewN n) b o v := ⟨h.c, h.f⟩
theorem Cel.same {w : World} {b o : Nat} {v : Value} (h : Cel w b o v) (u : Value) : Cel (w.setCell ⟨b, o, none⟩ u) b o u :=
  ⟨World.cell?_setCell_same' _ _ _ (by rw [h.c]; rfl), by rw [World.frozen?_setCell]; exact h.f⟩
theorem Blk.cel {w : World} {b : Nat} {cs : Array Value} {t : TypeId} (h : Blk w b cs t) (i : Nat) {v : Value} (hv : cs[i]? = some v) : Cel w b i v := ⟨(h.cell i).trans hv, h.free i⟩
theorem Fr.cel {S : List Nat} {w w' : World} (h : Fr S w w') {b o : Nat} {v : Value} (hb : Cel w b o v) (hs : b ∉ S) : Cel w' b o v :=
  ⟨by rw [World.cell?_of_block (a := ⟨b, o, none⟩) (h.block b hb.lt hs)]; exact hb.c, by rw [World.frozen?_of_block (a := ⟨b, o, none⟩) (h.block b hb.lt hs)]; exact hb.f⟩
/-- A region whose operations before place n read alone, and are all waited for by what stands from n on: they go in the text's order; the world is a name. -/
theorem region_tail {P : Program} {id : Nat} {Q : Exit → Act → World → Prop} {a : Act} {w : World} {l : List Oper} (n : Nat) (hm : P.follows .mixedOrders = true) (hB : Region.lexTailB .any l.toArray n = true)
    (h : ∀ W, w.drew = W → wpStill P l.toArray W (fun a' => wpList P l.toArray Q (l.drop n) a' W) (l.take n) a) : (Code.region id l.toArray true).wp P Q a w :=
  wp_region_still_tail n hm hB (h _ rfl)
end Go.Proofs.Ytanbfejhhnhabaa

namespace Go.Proofs.Ytanbfejhhnhabaa
open Go.RowKit
set_option maxRecDepth 100000
set_option linter.unusedVariables false
set_option linter.unusedSimpArgs false
set_option maxHeartbeats 2000000
def letterF (c : Int) : Bool := (decide (97 ≤ c) && decide (c ≤ 122)) || (decide (65 ≤ c) && decide (c ≤ 90)) || (c == 95)
def namedF (c : Int) : Bool := letterF c || (decide (48 ≤ c) && decide (c ≤ 57))
theorem letter_any (c : Int) (w : World) :
    Calls Try.prog 52 #[.int .u8 c] w fun e w' => e = .returned (.bool (letterF c)) ∧ w = w' := by
  unfold letterF
  go_enter Try.func52, Try.ntmps52
  go_wp2
  all_goals go_ret
  all_goals (refine ⟨congrArg (fun b => Ending.returned (Value.bool b)) ?_, rfl⟩; rw [Bool.eq_iff_iff]; (try simp); (try omega))
theorem named_any (c : Int) (w : World) :
    Calls Try.prog 53 #[.int .u8 c] w fun e w' => e = .returned (.bool (namedF c)) ∧ w = w' := by
  unfold namedF
  go_enter Try.func53, Try.ntmps53
  go_wp2_with ((go_at_call 52); (with_reducible refine (letter_any c _).mono ?_); rintro e w1 ⟨rfl, rfl⟩)
  all_goals go_ret
  all_goals (refine ⟨congrArg (fun b => Ending.returned (Value.bool b)) ?_, rfl⟩; rw [Bool.eq_iff_iff]; simp_all; try omega)
/-- A text's byte. -/
def gb (s : ByteArray) (i : Nat) : Int := if h : i < s.size then (s[i].toNat : Int) else 0
def upto (s : ByteArray) (n : Nat) : Bool := (List.range n).all (fun i => namedF (gb s i))
theorem upto_succ (s : ByteArray) (n : Nat) : upto s (n + 1) = (upto s n && namedF (gb s n)) := by simp [upto, List.range_succ]
/-- A text that fails at a byte fails. -/
theorem upto_fail (s : ByteArray) (n i : Nat) (h : i < n) (hf : namedF (gb s i) = false) : upto s n = false := by
  unfold upto
  rw [List.all_eq_false]
  exact ⟨i, List.mem_range.2 h, by simp [hf]⟩
/-- Which texts may be names. -/
def nameF (s : ByteArray) : Bool := decide (1 ≤ s.size) && decide (s.size ≤ 64) && letterF (gb s 0) && upto s s.size
theorem name_any (s : ByteArray) (w : World) :
    Calls Try.prog 31 #[.string s] w fun e w' => e = .returned (.bool (nameF s)) ∧ w = w' := by
  by_cases h1 : s.size < 1
  · have e : nameF s = false := by unfold nameF; simp; omega
    rw [e]
    go_enter Try.func31, Try.ntmps31
    go_wp2
    go_ret
    exact ⟨rfl, rfl⟩
  · by_cases h2 : 64 < s.size
    · have e : nameF s = false := by unfold nameF; simp; omega
      rw [e]
      go_enter Try.func31, Try.ntmps31
      go_wp2
      go_ret
      exact ⟨rfl, rfl⟩
    · have h0 : 0 < s.size := by omega
      have g0 : gb s 0 = (s[0].toNat : Int) := by simp [gb, h0]
      have d1 : decide (1 ≤ s.size) = true := by simp; omega
      have d2 : decide (s.size ≤ 64) = true := by simp; omega
      have d3 : decide ((s.size : Int) < 1) = false := by simp; omega
      have d4 : decide (64 < (s.size : Int)) = false := by simp; omega
      by_cases hl : letterF (s[0].toNat : Int) = true
      · have e : nameF s = upto s s.size := by unfold nameF; rw [d1, d2, g0, hl]; rfl
        rw [e]
        clear e
        go_enter Try.func31, Try.ntmps31
        go_wp2_with ((go_at_call 52); (with_reducible refine (letter_any _ _).mono ?_); rintro e w1 ⟨rfl, rfl⟩)
        go_loopw [20] (fun v wr => ∃ i : Nat, i ≤ s.size ∧ v = .int .i64 i ∧ upto s i = true ∧ w = wr) (fun v _ => s.size - (intOf v).toNat)
        case atStart => exact ⟨0, by omega, rfl, rfl, rfl⟩
        case round =>
          obtain ⟨i, hi, rfl, hu, rfl⟩ := hrel
          by_cases hlt : i < s.size
          · have gi : gb s i = (s[i].toNat : Int) := by simp [gb, hlt]
            by_cases hn : namedF (s[i].toNat : Int) = true
            · go_wp2_with ((go_at_call 53); (with_reducible refine (named_any _ _).mono ?_); rintro e w1 ⟨rfl, rfl⟩)
              go_roundw
              case rel => exact ⟨i + 1, by omega, by go_num, by rw [upto_succ, hu, gi, hn]; rfl, trivial⟩
              case measure => simp [intOf]; omega
            · have hn' : namedF (s[i].toNat : Int) = false := by simpa using hn
              have e := upto_fail s s.size i hlt (by rw [gi]; exact hn')
              go_wp2_with ((go_at_call 53); (with_reducible refine (named_any _ _).mono ?_); rintro e w1 ⟨rfl, rfl⟩)
              go_ret
              exact ⟨by rw [e]; rfl, rfl⟩
          · obtain rfl : i = s.size := by omega
            go_wp2
            go_ret
            exact ⟨by rw [hu]; rfl, rfl⟩
      · have hl' : letterF (s[0].toNat : Int) = false := by simpa using hl
        have e : nameF s = false := by unfold nameF; rw [d1, d2, g0, hl']; rfl
        rw [e]
        go_enter Try.func31, Try.ntmps31
        go_wp2_with ((go_at_call 52); (with_reducible refine (letter_any _ _).mono ?_); rintro e w1 ⟨rfl, rfl⟩)
        go_ret
        exact ⟨rfl, rfl⟩
end Go.Proofs.Ytanbfejhhnhabaa
