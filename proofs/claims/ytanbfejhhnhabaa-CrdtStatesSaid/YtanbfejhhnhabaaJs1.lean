/- A map of names to nodes. -/
import Derived.Test.YtanbfejhhnhabaaJs0
import Derived.ArgAppend
import Derived.Laws.IdiomCopy
import Derived.Maps.Own
import Derived.Maps.OwnOps
import Derived.Maps.OwnSet
import Derived.Maps.Ext
import Derived.Sort.KeysCollected
import Derived.Sort.Walk0
/- A slice of the call's own that may begin inside its block: read, appended to, cut at its head. -/
namespace Go.Proofs.Ytanbfejhhnhabaa
open Go.RowKit
/-- v is a slice of n elements of 'size' cells each: the cells xs, in a block from base on. -/
def SV (w : World) (base size : Nat) (v : Value) (n : Nat) (xs : List Value) : Prop :=
  xs.length = n * size ∧ ((v = .slice none 0 0 ∧ n = 0) ∨
    ∃ g off cap, v = .slice (some ⟨g, off, none⟩) n cap ∧ base ≤ g ∧ g < w.heap.size ∧ n ≤ cap ∧ cap ≤ maxLen ∧ (∀ j u, xs[j]? = some u → w.cell? ⟨g, off + j, none⟩ = some u) ∧
      (∀ j, j < cap * size → (w.cell? ⟨g, off + j, none⟩).isSome = true) ∧ (∀ j, w.frozen? ⟨g, j, none⟩ = false))
theorem SV.nil (w : World) (base size : Nat) : SV w base size (.slice none 0 0) 0 [] := ⟨by simp, .inl ⟨rfl, rfl⟩⟩
theorem SV.len {w : World} {base size : Nat} {v : Value} {n : Nat} {xs : List Value} (h : SV w base size v n xs) : xs.length = n * size := h.1
theorem SV.at_ {w : World} {base size : Nat} {v : Value} {n : Nat} {xs : List Value} (h : SV w base size v n xs) : ∃ a c, v = .slice a n c := by
  rcases h.2 with ⟨rfl, rfl⟩ | ⟨g, off, cap, rfl, _⟩
  · exact ⟨_, _, rfl⟩
  · exact ⟨_, _, rfl⟩
theorem SV.own {w : World} {base size : Nat} {v : Value} {n : Nat} {xs : List Value} (h : SV w base size v n xs) {g : Nat} (hg : v.ownBlock = some g) : base ≤ g ∧ g < w.heap.size := by
  rcases h.2 with ⟨rfl, rfl⟩ | ⟨g', off, cap, rfl, h1, h2, _⟩
  · simp [Value.ownBlock] at hg
  · simp [Value.ownBlock] at hg; subst hg; exact ⟨h1, h2⟩
theorem SV.fr {S : List Nat} {w w' : World} {base size : Nat} {v : Value} {n : Nat} {xs : List Value} (h : SV w base size v n xs) (f : Fr S w w') (hs : ∀ g, v.ownBlock = some g → g ∉ S) : SV w' base size v n xs := by
  refine ⟨h.1, ?_⟩
  rcases h.2 with h2 | ⟨g, off, cap, rfl, h1, h2, h3, h4, h5, h6, h7⟩
  · exact .inl h2
  · have e := f.block g h2 (hs g rfl)
    exact .inr ⟨g, off, cap, rfl, h1, Nat.lt_of_lt_of_le h2 f.size, h3, h4, fun j u hj => (World.cell?_of_block (a := ⟨g, off + j, none⟩) e).trans (h5 j u hj), fun j hj => by rw [World.cell?_of_block (a := ⟨g, off + j, none⟩) e]; exact h6 j hj,
      fun j => by rw [World.frozen?_of_block (a := ⟨g, j, none⟩) e]; exact h7 j⟩
theorem SV.fr0 {w w' : World} {base size : Nat} {v : Value} {n : Nat} {xs : List Value} (h : SV w base size v n xs) (f : Fr [] w w') : SV w' base size v n xs := h.fr f (by simp)
theorem SV.al {w : World} {base size : Nat} {v : Value} {n : Nat} {xs : List Value} (h : SV w base size v n xs) (o : Obj) : SV (w.alloc o) base size v n xs := h.fr0 ((Fr.refl _ _).alloc _)
/-- Writes below 'base' or to new blocks leave it. -/
theorem SV.frb {S : List Nat} {w w' : World} {base size : Nat} {v : Value} {n : Nat} {xs : List Value} (h : SV w base size v n xs) (f : Fr S w w') (hs : ∀ b ∈ S, b < base) : SV w' base size v n xs :=
  h.fr f (fun g hg hm => by have := (h.own hg).1; have := hs g hm; omega)
theorem SV.of_owns {w : World} {base B e size : Nat} {v : Value} {n : Nat} {xs : List Value} (h : w.ownsRow base e size v n xs) (hb : B ≤ base) : SV w B size v n xs := by
  refine ⟨h.1, ?_⟩
  rcases h.2 with h2 | ⟨g, cap, cur, rfl, h3, h4, h5, h6, h7, h8⟩
  · exact .inl h2
  · refine .inr ⟨g, 0, cap, rfl, by omega, (Array.getElem?_eq_some_iff.1 h4).1, h5, h6, fun j u hj => ?_, fun j hj => ?_, fun j => by simp [World.frozen?, h4]⟩
    · have hj2 : cur[j]? = some u := by
        rw [← h8] at hj
        rw [List.getElem?_take] at hj
        split at hj
        · simpa using hj
        · cases hj
      simp [World.cell?, h4, hj2]
    · simp [World.cell?, h4]; omega
theorem Fr.setCells (g : Nat) : ∀ (vs : List Value) (o : Nat) (w : World), Fr [g] w (w.setCells g o vs) := by
  intro vs
  induction vs with
  | nil => intro o w; exact Fr.refl _ _
  | cons v vs ih => intro o w; exact Fr.trans ((Fr.refl [g] w).set (.inl (by simp)) v) (ih (o + 1) _)
/-- One more law on append: in one way. -/
theorem wpList_append_sv {P : Program} (w : World) {ops : Array Oper} {rest : List Oper} {o : Oper} {a : Act} {Q : Exit → Act → World → Prop}
    (hg : o.guard = none) (s x : Operand) (t : TypeId) (hop : o.op = Op.call { callee := Callee.builtin Builtin.append, args := #[s, x], argTypes := #[t, t] })
    (e : TypeId) (i : TypeInfo) (z : Value) (size bytes : Nat) (h1 : P.underlying t = some (.slice e)) (h2 : P.info? e = some i) (h3 : i.zero = some z) (h4 : i.size = size) (h5 : i.bytes = bytes) (h6 : z.cells.size = size) (h7 : 0 < size)
    (base : Nat) (v : Value) (n : Nat) (xs : List Value) (hs : a.eval s = v) (hS : SV w base size v n xs) (hB : base ≤ w.heap.size)
    (ad : Addr) (m c : Nat) (news : List Value) (hx : a.eval x = .slice (some ad) m c) (hn : news.length = m * size) (hc : ∀ j u, news[j]? = some u → w.cell? (ad.add j) = some u) (h1c : ∀ u ∈ news, u.oneCell' = true)
    (b1 : n + m ≤ maxLen) (b2 : (n + m) * bytes ≤ 140737488355328)
    (hK : ∀ v' w', SV w' base size v' (n + m) (xs ++ news) → Fr v.ownBlock.toList w w' → wpList P ops Q rest (a.put o.dst v') w') :
    wpList P ops Q (o :: rest) a w := by
  obtain ⟨hlen, hv⟩ := hS
  rcases hv with ⟨rfl, rfl⟩ | ⟨g, off, cap, rfl, k1, k2, k3, k4, k5, k6, k7⟩
  · have hxs : xs = [] := List.length_eq_zero_iff.1 (by simpa using hlen)
    subst hxs
    refine wpList_append_own w hg s x t hop base e i z size bytes h1 h2 h3 h4 h5 h6 h7 _ 0 [] hs (World.ownsRow_nil w base e size) ad m c news hx hn hc h1c b1 b2 hB ?_
    intro v' w' hown hgrow _
    exact hK v' w' (SV.of_owns hown (Nat.le_refl _)) ⟨hgrow.os, hgrow.tape, hgrow.output, hgrow.size, fun k hk _ => hgrow.block k hk (by simp [Value.ownBlock])⟩
  · have key : (off : Nat) + cap * size ≥ off := by omega
    refine wpList_append_arg w hg s x t hop e i z size bytes h1 h2 h3 h4 h5 h6 h7 g off n cap xs hs hlen k5 ad m c news hx hn hc h1c ?_ b1 b2 ?_ ?_
    · intro hr j hj
      have hm : n * size + news.length ≤ cap * size := by rw [hn, ← Nat.add_mul]; exact Nat.mul_le_mul_right _ hr
      have := k6 (n * size + j) (by omega)
      rw [show off + n * size + j = off + (n * size + j) by omega]
      exact ⟨this, k7 _⟩
    · intro hr
      have hm : n * size + news.length ≤ cap * size := by rw [hn, ← Nat.add_mul]; exact Nat.mul_le_mul_right _ hr
      have hF := Fr.setCells g news (off + n * size) w
      have hsome : ∀ j, j < news.length → (w.cell? ⟨g, off + n * size + j, none⟩).isSome = true := fun j hj => by
        rw [show off + n * size + j = off + (n * size + j) by omega]; exact k6 _ (by omega)
      refine hK _ _ ⟨by rw [List.length_append, hlen, hn, Nat.add_mul], .inr ⟨g, off, cap, rfl, k1, Nat.lt_of_lt_of_le k2 hF.size, hr, k4, ?_, ?_, ?_⟩⟩ hF
      · intro j u hj
        by_cases hjl : j < n * size
        · rw [List.getElem?_append_left (by omega)] at hj
          rw [World.cell?_setCells_out _ _ _ _ _ (by intro _ _; left; show off + j < off + n * size; omega)]
          exact k5 j u hj
        · rw [List.getElem?_append_right (by omega), hlen] at hj
          have hjn : j - n * size < news.length := (List.getElem?_eq_some_iff.1 hj).1
          have := World.cell?_setCells_in g news (off + n * size) w hsome (j - n * size) hjn
          rw [show off + n * size + (j - n * size) = off + j by omega] at this
          rw [this]
          have h9 := (List.getElem?_eq_some_iff.1 hj).2
          rw [h9]
      · intro j hj
        by_cases hjl : off + j < off + n * size ∨ off + n * size + news.length ≤ off + j
        · rw [World.cell?_setCells_out _ _ _ _ _ (by intro _ _; exact hjl)]
          exact k6 j hj
        · have hjn : j - n * size < news.length := by omega
          have := World.cell?_setCells_in g news (off + n * size) w hsome (j - n * size) hjn
          rw [show off + n * size + (j - n * size) = off + j by omega] at this
          rw [this]; rfl
      · intro j
        rw [World.frozen?_setCells]; exact k7 j
    · intro hr v' w' hown hgrow
      exact hK v' w' (SV.of_owns hown hB) ⟨hgrow.os, hgrow.tape, hgrow.output, hgrow.size, fun k hk _ => hgrow.block k hk (by simp)⟩
end Go.Proofs.Ytanbfejhhnhabaa

/- A slice that is read; an append of what is read to an own slice. -/
namespace Go.Proofs.Ytanbfejhhnhabaa
open Go.RowKit
set_option linter.unusedVariables false
set_option linter.unusedSimpArgs false
/-- v is a slice of n elements of 'size' cells each: it reads as the cells xs. -/
def RD (w : World) (size : Nat) (v : Value) (n : Nat) (xs : List Value) : Prop :=
  xs.length = n * size ∧ ((∃ A c, v = .slice A 0 c ∧ n = 0 ∧ c ≤ maxLen ∧ (A = none → c = 0)) ∨
    ∃ g off cap, v = .slice (some ⟨g, off, none⟩) n cap ∧ g < w.heap.size ∧ n ≤ cap ∧ cap ≤ maxLen ∧ (∀ j u, xs[j]? = some u → w.cell? ⟨g, off + j, none⟩ = some u))
theorem RD.nil (w : World) (size : Nat) : RD w size (.slice none 0 0) 0 [] := ⟨by simp, .inl ⟨none, 0, rfl, rfl, Nat.zero_le _, fun _ => rfl⟩⟩
/-- Any empty slice. -/
theorem RD.empty (w : World) (size : Nat) {A : Option Addr} {c : Nat} (hc : c ≤ maxLen) (hA : A = none → c = 0) : RD w size (.slice A 0 c) 0 [] := ⟨by simp, .inl ⟨A, c, rfl, rfl, hc, hA⟩⟩
theorem SV.rd {w : World} {base size : Nat} {v : Value} {n : Nat} {xs : List Value} (h : SV w base size v n xs) : RD w size v n xs := by
  refine ⟨h.1, ?_⟩
  rcases h.2 with ⟨h2, h3⟩ | ⟨g, off, cap, h1, h2, h3, h4, h5, h6, _⟩
  · exact .inl ⟨none, 0, h2, h3, Nat.zero_le _, fun _ => rfl⟩
  · exact .inr ⟨g, off, cap, h1, h3, h4, h5, h6⟩
theorem RD.at_ {w : World} {size : Nat} {v : Value} {n : Nat} {xs : List Value} (h : RD w size v n xs) : ∃ a c, v = .slice a n c := by
  rcases h.2 with ⟨A, c, rfl, rfl, _⟩ | ⟨g, off, cap, rfl, _⟩
  · exact ⟨_, _, rfl⟩
  · exact ⟨_, _, rfl⟩
theorem RD.cells {w : World} {size : Nat} {v : Value} {n : Nat} {xs : List Value} (h : RD w size v n xs) (hn : 0 < n) : ∃ g o c, v = .slice (some ⟨g, o, none⟩) n c ∧ g < w.heap.size ∧ n ≤ c ∧ c ≤ maxLen ∧ (∀ j u, xs[j]? = some u → w.cell? ⟨g, o + j, none⟩ = some u) := by
  rcases h.2 with ⟨_, _, _, h2, _⟩ | ⟨g, o, c, h1, h2, h3, h4, h5⟩
  · omega
  · exact ⟨g, o, c, h1, h2, h3, h4, h5⟩
/-- The block that a slice reads. -/
theorem RD.fr {S : List Nat} {w w' : World} {size : Nat} {v : Value} {n : Nat} {xs : List Value} (h : RD w size v n xs) (f : Fr S w w') (hs : ∀ g, v.ownBlock = some g → g ∉ S) : RD w' size v n xs := by
  refine ⟨h.1, ?_⟩
  rcases h.2 with h2 | ⟨g, off, cap, rfl, h2, h3, h4, h5⟩
  · exact .inl h2
  · have e := f.block g h2 (hs g rfl)
    exact .inr ⟨g, off, cap, rfl, Nat.lt_of_lt_of_le h2 f.size, h3, h4, fun j u hj => (World.cell?_of_block (a := ⟨g, off + j, none⟩) e).trans (h5 j u hj)⟩
theorem RD.frp {S : List Nat} {w w' : World} {size : Nat} {v : Value} {n : Nat} {xs : List Value} (h : RD w size v n xs) (f : Fr S w w') (hs : ∀ g, v.ownBlock = some g → 0 < n → g ∉ S) : RD w' size v n xs := by
  rcases Nat.eq_zero_or_pos n with h0 | h0
  · refine ⟨h.1, ?_⟩
    subst h0
    rcases h.2 with h2 | ⟨g, off, cap, h1, h2, h3, h4, h5⟩
    · exact .inl h2
    · exact .inl ⟨_, cap, h1, rfl, h4, fun h => by cases h⟩
  · exact h.fr f (fun g hg => hs g hg h0)
theorem RD.fr0 {w w' : World} {size : Nat} {v : Value} {n : Nat} {xs : List Value} (h : RD w size v n xs) (f : Fr [] w w') : RD w' size v n xs := h.fr f (by simp)
theorem RD.own {w : World} {size : Nat} {v : Value} {n : Nat} {xs : List Value} (h : RD w size v n xs) (hn : 0 < n) {g : Nat} (hg : v.ownBlock = some g) : g < w.heap.size := by
  rcases h.2 with ⟨_, _, _, h2, _⟩ | ⟨g', off, cap, rfl, h1, _⟩
  · omega
  · simp [Value.ownBlock] at hg; subst hg; exact h1
theorem run_append_src_nil {P : Program} (w : World) (t ty e : TypeId) (i : TypeInfo) (ht : P.underlying t = some (.slice e)) (hi : P.info? e = some i) (a : Option Addr) (n c : Nat) (hc : n ≤ c) (ha : a = none → n = 0) :
    (Builtin.append_ #[t, t] ty #[.slice a n c, .slice none 0 0]).run P w = .ok (.slice a n c) w := by
  rcases a with _ | a
  · have hn := ha rfl
    subst hn
    simp [Builtin.append_, run_underlying ht, sizeOf, typeInfo, hi, Builtin.lenOf, Builtin.firstCells]
  · simp [Builtin.append_, run_underlying ht, sizeOf, typeInfo, hi, Builtin.lenOf, Builtin.firstCells, hc, storeCells]
/-- An append of a slice that is read, nil or not, to an own slice. -/
theorem wpList_append_svr {P : Program} (w : World) {ops : Array Oper} {rest : List Oper} {o : Oper} {a : Act} {Q : Exit → Act → World → Prop}
    (hg : o.guard = none) (s x : Operand) (t : TypeId) (hop : o.op = Op.call { callee := Callee.builtin Builtin.append, args := #[s, x], argTypes := #[t, t] })
    (e : TypeId) (i : TypeInfo) (z : Value) (size bytes : Nat) (h1 : P.underlying t = some (.slice e)) (h2 : P.info? e = some i) (h3 : i.zero = some z) (h4 : i.size = size) (h5 : i.bytes = bytes) (h6 : z.cells.size = size) (h7 : 0 < size)
    (base : Nat) (v : Value) (n : Nat) (xs : List Value) (hs : a.eval s = v) (hS : SV w base size v n xs) (hB : base ≤ w.heap.size)
    (y : Value) (m : Nat) (news : List Value) (hx : a.eval x = y) (hR : RD w size y m news) (h1c : ∀ u ∈ news, u.oneCell' = true)
    (b1 : n + m ≤ maxLen) (b2 : (n + m) * bytes ≤ 140737488355328)
    (hK : ∀ v' w', SV w' base size v' (n + m) (xs ++ news) → Fr v.ownBlock.toList w w' → wpList P ops Q rest (a.put o.dst v') w') :
    wpList P ops Q (o :: rest) a w := by
  obtain ⟨hnl, hR⟩ := hR
  rcases hR with ⟨Ay, cy, rfl, rfl, hcy, hAy⟩ | ⟨g, off, cap, rfl, k1, k2, k3, k4⟩
  · rcases Ay with _ | ad
    case some =>
      refine wpList_append_sv w hg s x t hop e i z size bytes h1 h2 h3 h4 h5 h6 h7 base v n xs hs hS hB ad 0 cy news hx hnl ?_ h1c b1 b2 hK
      intro j u hj
      have hnews : news = [] := List.length_eq_zero_iff.1 (by simpa using hnl)
      rw [hnews] at hj
      simp at hj
    obtain rfl := hAy rfl
    have hnews : news = [] := List.length_eq_zero_iff.1 (by simpa using hnl)
    subst hnews
    have hSo := hS
    obtain ⟨av, c, rfl⟩ := hS.at_
    have hcc : n ≤ c ∧ (av = none → n = 0) := by
      rcases hS.2 with ⟨he, h0⟩ | ⟨g, off, cap, he, _, _, hc, _⟩
      · simp at he
        exact ⟨by omega, fun _ => h0⟩
      · simp at he
        obtain ⟨rfl, rfl⟩ := he
        exact ⟨hc, fun h => by cases h⟩
    refine wpList_plain hg fun K hK' => ?_
    have hrun := run_append_src_nil (P := P) w t o.type e i h1 h2 av n c hcc.1 hcc.2
    unfold Oper.wp
    simp [execOp, hop, resolve, invoke, builtin, hs, hx, hrun, Result.andThen]
    refine hK' _ _ (hK _ _ (by simpa using hSo) (Fr.refl _ _))
  · refine wpList_append_sv w hg s x t hop e i z size bytes h1 h2 h3 h4 h5 h6 h7 base v n xs hs hS hB ⟨g, off, none⟩ m cap news hx hnl ?_ h1c b1 b2 hK
    intro j u hj
    rw [show (⟨g, off, none⟩ : Addr).add j = ⟨g, off + j, none⟩ by unfold Addr.add; split <;> simp_all]
    exact k4 j u hj
end Go.Proofs.Ytanbfejhhnhabaa

namespace Go.Proofs.Ytanbfejhhnhabaa
open Go.RowKit Go.Maps Go.Sort
set_option maxRecDepth 100000
set_option linter.unusedVariables false
set_option linter.unusedSimpArgs false
set_option maxHeartbeats 2000000
theorem mlaw : Keyed Try.prog 9 := string_keyed Try.underlying9
/-- A text as a key. -/
def key (s : ByteArray) : Lit := .string s.data.toList
theorem mkey (s : ByteArray) (h : s.size ≤ maxLen) : keyOf Try.prog 9 (.string s) = some (key s) := WideMaps.keyOf_string_mk Try.underlying9 h
theorem key_ne {s t : ByteArray} (h : s ≠ t) : key s ≠ key t := by
  intro e
  simp only [key, Lit.string.injEq] at e
  exact h (bts_inj e)
/-- A node as a value, and as it is read. -/
abbrev ndV (s : ByteArray) (u d : Int) : Value := .agg #[.string s, .int .u64 u, .int .u64 d]
def ndD (s : ByteArray) (u d : Int) : DataW Unit := .agg [.lit (.string s.data.toList), .lit (.int .u64 u), .lit (.int .u64 d)]
def NE (v : Value) : Option (DataW Unit × List MemPlace) :=
  match v with
  | .agg cs =>
    match cs.toList with
    | [.string s, .int q u, .int q' d] => if q = .u64 ∧ q' = .u64 then some (ndD s u d, []) else none
    | _ => none
  | _ => none
theorem NE_mk (s : ByteArray) (u d : Int) : NE (ndV s u d) = some (ndD s u d, []) := rfl
theorem NE_inv {v : Value} {z : DataW Unit} {ps : List MemPlace} (h : NE v = some (z, ps)) : ∃ s u d, v = ndV s u d ∧ z = ndD s u d := by
  unfold NE at h
  split at h
  · rename_i cs
    split at h
    · rename_i s q u q' d hc
      split at h
      · rename_i hq
        obtain ⟨rfl, rfl⟩ := hq
        cases h
        refine ⟨s, u, d, ?_, rfl⟩
        show Value.agg cs = Value.agg _
        congr 1
        exact Array.toList_inj.1 (by rw [hc])
      · cases h
    · cases h
  · cases h
theorem ndD_inj {s s' : ByteArray} {u d u' d' : Int} (h : ndD s u d = ndD s' u' d') : s = s' ∧ u = u' ∧ d = d' := by
  unfold ndD at h
  simp at h
  refine ⟨?_, h.2.1, h.2.2⟩
  cases s; cases s'
  exact congrArg _ h.1
theorem mzero (w : World) : (zeroValue 33).run Try.prog w = .ok (ndV ByteArray.empty 0 0) w := by kernel_rfl
/-- What the datum says at a name. -/
def ND (D : DataW Unit) (l : List Nd) : Prop := ∀ s, s.size ≤ maxLen → Maps.has D (key s) = (lk l s).isSome ∧ ∀ z, D.atKey (key s) z = match lk l s with | some (u, d) => ndD s u d | none => z
structure NM (w : World) (b n : Nat) (l : List Nd) : Prop where
  ex : ∃ D, w.ownsMap Try.prog 9 NE b n D ∧ ND D l
theorem NM.lt {w : World} {b n : Nat} {l : List Nd} (h : NM w b n l) : b < w.heap.size := by
  obtain ⟨D, ⟨es, clock, he, _⟩, _⟩ := h.ex
  exact (Array.getElem?_eq_some_iff.1 he).1
theorem NM.fr {S : List Nat} {w w' : World} {b n : Nat} {l : List Nd} (h : NM w b n l) (f : Fr S w w') (hb : b ∉ S) : NM w' b n l := by
  obtain ⟨D, ⟨es, clock, he, r⟩, hD⟩ := h.ex
  exact ⟨D, ⟨es, clock, (f.block b (Array.getElem?_eq_some_iff.1 he).1 hb).trans he, r⟩, hD⟩
theorem NM.fr0 {w w' : World} {b n : Nat} {l : List Nd} (h : NM w b n l) (f : Fr [] w w') : NM w' b n l := h.fr f (by simp)
theorem NM.mono {w : World} {b n n' : Nat} {l : List Nd} (h : NM w b n l) (hn : n ≤ n') : NM w b n' l := by
  obtain ⟨D, ho, hD⟩ := h.ex
  exact ⟨D, ho.mono hn, hD⟩
theorem NM.made (w : World) (b : Nat) (hb : b = w.heap.size) : NM (w.alloc (.map #[] 0)) b 0 [] := by
  subst hb
  exact ⟨.map [], World.ownsMap_made _ _ _ _, fun s _ => ⟨rfl, fun z => rfl⟩⟩
theorem NM.neBlk {w : World} {b b' n : Nat} {cs : Array Value} {t : TypeId} {l : List Nd} (h : Blk w b' cs t) (ho : NM w b n l) : b' ≠ b := by
  rintro rfl
  obtain ⟨D, ⟨es, clock, he, _⟩, _⟩ := ho.ex
  unfold Blk at h
  rw [h] at he
  cases he
theorem ND.put {D : DataW Unit} {l : List Nd} (h : ND D l) (hD : IsMap D) (s : ByteArray) (hs : s.size ≤ maxLen) (u d : Int) : ND (D.put (key s) (ndD s u d)) (putL l (s, u, d)) := by
  intro t ht
  rw [lk_putL]
  by_cases e : t = s
  · subst e
    rw [if_pos rfl, has_put_same hD (mlaw.key (mkey t ht))]
    exact ⟨rfl, fun z => atKey_put_same hD (mlaw.key (mkey t ht)) _ z⟩
  · rw [if_neg e, has_put_other (key_ne e)]
    refine ⟨(h t ht).1, fun z => ?_⟩
    rw [atKey_put_other (key_ne e)]
    exact (h t ht).2 z
theorem Fr.of_grown1 {w w' : World} {b : Nat} (h : w.grownBy w' (some b)) : Fr [b] w w' := ⟨h.os, h.tape, h.output, h.size, fun k hk hs => h.block k hk (fun e => hs (by simp [Option.some.inj e]))⟩
/-- A store. -/
theorem NM.store {w : World} {b n : Nat} {l : List Nd} (h : NM w b n l) (s : ByteArray) (hs : s.size ≤ maxLen) (u d : Int) (hn : n < maxLen) :
    ∃ w', (Instr.mapUpdate 68 (.map (some b)) (.string s) (ndV s u d)).run Try.prog w = .ok () w' ∧ NM w' b (n + 1) (putL l (s, u, d)) ∧ Fr [b] w w' := by
  obtain ⟨D, ho, hD⟩ := h.ex
  obtain ⟨w', h1, h2, h3⟩ := ho.update mlaw Try.underlying68 hn (mkey s hs) (NE_mk s u d)
  exact ⟨w', h1, ⟨_, h2, hD.put ho.isMap s hs u d⟩, Fr.of_grown1 h3⟩
/-- What a look-up gives. -/
def lkV (l : List Nd) (s : ByteArray) : Value := match lk l s with | some (u, d) => ndV s u d | none => ndV ByteArray.empty 0 0
theorem lkV_some {l : List Nd} {s : ByteArray} {u d : Int} (h : lk l s = some (u, d)) : lkV l s = ndV s u d := by unfold lkV; rw [h]
theorem lkV_none {l : List Nd} {s : ByteArray} (h : lk l s = none) : lkV l s = ndV ByteArray.empty 0 0 := by unfold lkV; rw [h]
theorem lkV_of {l l' : List Nd} {s : ByteArray} (h : lk l s = lk l' s) : lkV l s = lkV l' s := by unfold lkV; rw [h]
theorem lkV_ex (l : List Nd) (s : ByteArray) : ∃ s', lkV l s = ndV s' (ofL l s).1 (ofL l s).2 := by
  unfold lkV ofL
  cases lk l s with
  | none => exact ⟨_, rfl⟩
  | some p => exact ⟨_, rfl⟩
/-- A look-up. -/
theorem NM.look {w : World} {b n : Nat} {l : List Nd} (h : NM w b n l) (s : ByteArray) (hs : s.size ≤ maxLen) :
    (Instr.lookup 68 (.map (some b)) (.string s) false).run Try.prog w = .ok (lkV l s) w := by
  obtain ⟨D, ho, hD⟩ := h.ex
  obtain ⟨v, ps, hrun, hv⟩ := ho.lookup mlaw Try.underlying68 (mzero w) (NE_mk ByteArray.empty 0 0) (mkey s hs)
  rw [(hD s hs).2] at hv
  obtain ⟨s', u', d', rfl, he⟩ := NE_inv hv
  rw [hrun]
  unfold lkV
  cases hl : lk l s with
  | none =>
    rw [hl] at he
    obtain ⟨rfl, rfl, rfl⟩ := ndD_inj he
    rfl
  | some p =>
    obtain ⟨u, d⟩ := p
    rw [hl] at he
    obtain ⟨rfl, rfl, rfl⟩ := ndD_inj he
    rfl
theorem NM.look_ok {w : World} {b n : Nat} {l : List Nd} (h : NM w b n l) (s : ByteArray) (hs : s.size ≤ maxLen) :
    (Instr.lookup 68 (.map (some b)) (.string s) true).run Try.prog w = .ok (.tuple #[lkV l s, .bool (lk l s).isSome]) w := by
  obtain ⟨D, ho, hD⟩ := h.ex
  obtain ⟨v, ps, hrun, hv⟩ := ho.look_ok mlaw Try.underlying68 (mzero w) (NE_mk ByteArray.empty 0 0) (mkey s hs)
  rw [(hD s hs).2] at hv
  rw [(hD s hs).1] at hrun
  obtain ⟨s', u', d', rfl, he⟩ := NE_inv hv
  rw [hrun]
  unfold lkV
  cases hl : lk l s with
  | none =>
    rw [hl] at he
    obtain ⟨rfl, rfl, rfl⟩ := ndD_inj he
    rfl
  | some p =>
    obtain ⟨u, d⟩ := p
    rw [hl] at he
    obtain ⟨rfl, rfl, rfl⟩ := ndD_inj he
    rfl
/-- The lists that maps hold: each name once, and short. -/
structure Good (l : List Nd) : Prop where
  st : Srt l
  sz : ∀ a ∈ l, a.1.size ≤ 64
theorem Good.nd {l : List Nd} (h : Good l) : (l.map (·.1)).Nodup := List.pairwise_map.2 (h.st.imp (fun h => bts_ne h))
theorem names_perm {w : World} {b n : Nat} {D : DataW Unit} {l : List Nd} (ho : w.ownsMap Try.prog 9 NE b n D) (hD : ND D l) (hg : Good l) : (l.map (fun a => bts a.1)).Perm (strKeys D) := by
  obtain ⟨es, hDe, hpw, _⟩ := ho.entries mlaw
  obtain ⟨es', hD', hko⟩ := ho.keysOf
  obtain rfl : es = es' := by rw [hDe] at hD'; simpa using hD'
  have hle := strKeys_le ho Try.underlying9
  subst hDe
  refine perm_strKeys hpw (fun p hp => by obtain ⟨v, hv⟩ := hko p hp; obtain ⟨x, _, hx, _⟩ := Maps.keyOf_str Try.underlying9 hv; exact ⟨x, hx⟩) ?_ ?_
  · have := hg.nd
    rw [show l.map (fun a => bts a.1) = (l.map (·.1)).map bts by simp [Function.comp_def]]
    exact List.pairwise_map.2 (this.imp (fun h e => h (bts_inj e)))
  · intro x
    by_cases hx : x.length ≤ maxLen
    · have hs : (⟨x.toArray⟩ : ByteArray).size ≤ maxLen := by simpa [ByteArray.size] using hx
      have := (hD ⟨x.toArray⟩ hs).1
      have ek : key (⟨x.toArray⟩ : ByteArray) = .string x := by simp [key]
      rw [ek] at this
      rw [this, lk_some_iff]
      constructor
      · intro h
        obtain ⟨a, ha, e⟩ := List.mem_map.1 h
        refine List.mem_map.2 ⟨a, ha, bts_inj ?_⟩
        rw [e]; simp [bts]
      · intro h
        obtain ⟨a, ha, e⟩ := List.mem_map.1 h
        refine List.mem_map.2 ⟨a, ha, ?_⟩
        show bts a.1 = x
        rw [show a.1 = _ from e]; simp [bts]
    · constructor
      · intro h
        obtain ⟨a, ha, rfl⟩ := List.mem_map.1 h
        exfalso; apply hx
        have := hg.sz a ha
        show (bts a.1).length ≤ maxLen
        have e : (bts a.1).length = a.1.size := Array.length_toList
        unfold maxLen
        omega
      · intro h
        exfalso
        apply hx
        refine hle x ?_
        unfold Maps.has at h
        simp only [List.any_eq_true] at h
        obtain ⟨p, hp, hs⟩ := h
        obtain ⟨v, hv⟩ := hko p hp
        obtain ⟨y, _, hy, _⟩ := Maps.keyOf_str Try.underlying9 hv
        rw [hy] at hs
        have : y = x := by simpa [Lit.sameKey] using hs
        subst this
        exact List.mem_map.2 ⟨p, hp, by rw [hy]; rfl⟩
theorem size_keys {D : DataW Unit} (h : IsMap D) : Maps.size D = (strKeys D).length := by
  obtain ⟨es, rfl⟩ := h
  simp [Maps.size, strKeys]
theorem NM.size {w : World} {b n : Nat} {l : List Nd} (h : NM w b n l) (hg : Good l) (ty : TypeId) : (Builtin.len_ #[68] ty #[.map (some b)]).run Try.prog w = .ok (.int .i64 l.length) w := by
  obtain ⟨D, ho, hD⟩ := h.ex
  have hp := names_perm ho hD hg
  have e : Maps.size D = l.length := by
    rw [size_keys ho.isMap, ← hp.length_eq]; simp
  rw [ho.len Try.underlying68 ty, e]
/-- The names of a sorted list, sorted. -/
theorem names_eq {ss : List (List UInt8)} {l : List Nd} {D : DataW Unit} (hg : Good l) (h1 : ss.Perm (strKeys D)) (h2 : (l.map (fun a => bts a.1)).Perm (strKeys D)) :
    ss.mergeSort (fun x y => decide (x ≤ y)) = l.map (fun a => bts a.1) := by
  have e1 : ss.mergeSort leB = (l.map (fun a => bts a.1)).mergeSort leB := mergeSort_of_perm (h1.trans h2.symm)
  have e0 : (fun x y : List UInt8 => decide (x ≤ y)) = leB := by funext x y; rfl
  rw [e0, e1]
  have tr : ∀ a b c : List UInt8, leB a b = true → leB b c = true → leB a c = true := fun a b c h1 h2 => by simp only [leB, decide_eq_true_eq] at *; exact List.le_trans h1 h2
  have tl : ∀ a b : List UInt8, (leB a b || leB b a) = true := fun a b => by simp only [leB, Bool.or_eq_true, decide_eq_true_eq]; exact List.le_total a b
  refine List.Perm.eq_of_pairwise (le := fun a b => leB a b = true) (fun a b _ _ h1 h2 => ?_) (List.pairwise_mergeSort tr tl _) ?_ (List.mergeSort_perm _ leB)
  · simp only [leB, decide_eq_true_eq] at h1 h2
    exact List.le_antisymm h1 h2
  · refine List.pairwise_map.2 (hg.st.imp ?_)
    intro x y h
    show leB (bts x.1) (bts y.1) = true
    unfold leB
    exact decide_eq_true (List.le_of_lt h)
end Go.Proofs.Ytanbfejhhnhabaa
