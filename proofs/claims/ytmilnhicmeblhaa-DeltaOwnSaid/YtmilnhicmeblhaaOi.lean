/- A boxed own slice that a loop over an iterator appends to; straight code in a round by the plain walk. -/
import Derived.Test.YtmilnhicmeblhaaRo
import Derived.Test.YtmilnhicmeblhaaPq
import Derived.Test.YtmilnhicmeblhaaSvo
namespace Go.Proofs.Ytmilnhicmeblhaa
open Go.RowKit Go.Shelf
set_option linter.unusedVariables false
set_option linter.unusedSimpArgs false
theorem wpListIn_of {P : Program} {ops : Array Oper} {Q : Exit → Act → World → Prop} (lp n : Nat) (hQ : ¬ LetsOut Q) : ∀ (l : List Oper) (a : Act) (w : World), noDefer l = true → wpList P ops Q l a w → wpListIn (Fence.wide.inRound lp) n P ops Q l a w := by
  intro l
  induction l with
  | nil => intro a w _ h; exact h
  | cons o rest ih =>
    intro a w hd h
    have hd2 : noDefer rest = true := by
      unfold noDefer at hd ⊢
      rw [List.all_cons, Bool.and_eq_true] at hd
      exact hd.2
    have ho : ∀ c, o.op ≠ .defer c := by
      intro c e
      have := List.all_eq_true.1 hd o List.mem_cons_self
      rw [e] at this
      cases this
    unfold wpList at h
    unfold wpListIn
    split
    · rename_i hw
      rw [if_pos hw] at h
      rcases h with h | ⟨_, h⟩
      · exact wpIn_of_wp_op lp n ho (Oper.wp_mono (fun a w h => ih a w hd2 h) h)
      · exact absurd h hQ
    · rename_i hw
      rw [if_neg hw] at h
      exact ⟨fun _ _ => trivial, ih _ _ hd2 h⟩
/-- A region in the text's order, in a round: by the plain walk. -/
theorem round_list {P : Program} {id : Nat} {l : List Oper} {Q : Exit → Act → World → Prop} {a : Act} {w : World} {lp n : Nat} (hd : noDefer l = true) (hQ : ¬ LetsOut Q) (h : wpList P l.toArray Q l a w) : (Code.region id l.toArray false).wpIn (Fence.wide.inRound lp) n P Q a w :=
  wpIn_region_lit (wpListIn_of lp n hQ l a w hd h)
theorem SV.base_le {w : World} {b b' size : Nat} {v : Value} {n : Nat} {xs : List Value} (h : SV w b size v n xs) (hb : b' ≤ b) : SV w b' size v n xs := by
  obtain ⟨h1, h2⟩ := h
  refine ⟨h1, ?_⟩
  rcases h2 with h2 | ⟨g, o, c, e, k1, k2⟩
  · exact .inl h2
  · exact .inr ⟨g, o, c, e, Nat.le_trans hb k1, k2⟩
theorem Fr.of_grownBy {W W' : World} {row : Option Nat} (h : W.grownBy W' row) : Fr row.toList W W' :=
  ⟨h.os, h.tape, h.output, h.size, fun k hk hs => h.block k hk (fun e => hs (by subst e; simp))⟩
theorem cells_of_cell {W : World} {a : Addr} {v : Value} (h : W.cell? a = some v) {o : Obj} (ho : W.heap[a.block]? = some o) : o.isCells = true := by
  unfold World.cell? at h
  rw [ho] at h
  cases o <;> first | rfl | (simp at h)
theorem Blk.own_ {W W' : World} {b : Nat} {cs : Array Value} {t : TypeId} {row : Option Nat} (h : Blk W b cs t) (hg : W.grownBy W' row) (hr : ∀ r, row = some r → ∃ o : Obj, W.heap[r]? = some o ∧ o.isCells = false) : Blk W' b cs t := by
  have := hg.block b h.lt (fun e => by
    obtain ⟨o, ho, hc⟩ := hr b e.symm
    unfold Blk at h
    rw [h] at ho
    cases ho
    cases hc)
  unfold Blk at h ⊢
  rw [this]; exact h
theorem SV.own_ {W W' : World} {base size : Nat} {v : Value} {n : Nat} {xs : List Value} {row : Option Nat} (h : SV W base size v n xs) (h0 : v = .slice none 0 0 ∨ 0 < n) (hs : 0 < size) (hg : W.grownBy W' row) (hr : ∀ r, row = some r → ∃ o : Obj, W.heap[r]? = some o ∧ o.isCells = false) : SV W' base size v n xs := by
  refine h.fr (Fr.of_grownBy hg) (fun g hgv hm => ?_)
  rcases h.2 with ⟨rfl, _⟩ | ⟨g', off, cap, rfl, k1, k2, k3, k4, k5, k6, k7⟩
  · simp [Value.ownBlock] at hgv
  · simp only [Value.ownBlock, Option.some.injEq] at hgv
    subst hgv
    have hn : 0 < n := by rcases h0 with h0 | h0; · cases h0
                          · exact h0
    have hc := k6 0 (Nat.mul_pos (by omega) hs)
    obtain ⟨u, hu⟩ := Option.isSome_iff_exists.1 hc
    cases row with
    | none => simp at hm
    | some r =>
      simp at hm
      subst hm
      obtain ⟨o, ho, hcc⟩ := hr _ rfl
      have := cells_of_cell hu ho
      rw [this] at hcc
      cases hcc
/-- Box Bo holds a slice of the loop's own that has the cells xs; of what lay when the loop began the box alone has been written. -/
structure OI (W0 : World) (Bo : Nat) (t : TypeId) (size n : Nat) (xs : List Value) (W : World) : Prop where
  ex : ∃ v, Blk W Bo #[v] t ∧ SV W W0.heap.size size v n xs ∧ (v = .slice none 0 0 ∨ 0 < n)
  fr : Fr [Bo] W0 W
theorem OI.own {β : Type} {W0 : World} {Bo : Nat} {t : TypeId} {size : Nat} (hs : 0 < size) (n : β → Nat) (xs : β → List Value) : OwnFrom W0.heap.size (fun (s : β) W => OI W0 Bo t size (n s) (xs s) W) := by
  intro s W W' row h hg hr
  obtain ⟨⟨v, h1, h2, h3⟩, hf⟩ := h
  have hr2 : ∀ r, row = some r → ∃ o : Obj, W.heap[r]? = some o ∧ o.isCells = false := fun r e => (hr r e).2
  refine ⟨⟨v, h1.own_ hg hr2, h2.own_ h3 hs hg hr2, h3⟩, ?_⟩
  refine ((hf.mono (T := Bo :: row.toList) (by simp)).trans ((Fr.of_grownBy hg).mono (fun k hk => List.mem_cons_of_mem _ hk))).weaken ?_
  intro k hk
  rcases List.mem_cons.1 hk with rfl | hk
  · exact .inl (by simp)
  · cases row with
    | none => simp at hk
    | some r => simp at hk; subst hk; exact .inr (hr _ rfl).1
theorem OI.cast {W0 W : World} {Bo : Nat} {t : TypeId} {size n n' : Nat} {xs xs' : List Value} (h : OI W0 Bo t size n xs W) (e : n = n') (e' : xs = xs') : OI W0 Bo t size n' xs' W := by subst e e'; exact h
/-- What a round's writes leave of what is no cells. -/
theorem KeepsFrom.of_fr {B : Nat} {S : List Nat} {W W' : World} (h : Fr S W W') (hS : ∀ s ∈ S, s < B ∨ ∃ o : Obj, W.heap[s]? = some o ∧ o.isCells = true) : KeepsFrom B W W' :=
  ⟨h.size, fun k o hB hk ho => by
    refine (h.block k (Array.getElem?_eq_some_iff.1 hk).1 (fun hm => ?_)).trans hk
    rcases hS k hm with h1 | ⟨o', h1, h2⟩
    · omega
    · rw [hk] at h1
      cases h1
      rw [ho] at h2
      cases h2⟩
theorem SV.isCells {W : World} {base size : Nat} {v : Value} {n : Nat} {xs : List Value} (h : SV W base size v n xs) (hs : 0 < size) (h0 : v = .slice none 0 0 ∨ 0 < n) {g : Nat} (hg : v.ownBlock = some g) : base ≤ g ∧ g < W.heap.size ∧ ∃ o : Obj, W.heap[g]? = some o ∧ o.isCells = true := by
  refine ⟨(h.own hg).1, (h.own hg).2, ?_⟩
  rcases h.2 with ⟨rfl, _⟩ | ⟨g', off, cap, rfl, k1, k2, k3, k4, k5, k6, k7⟩
  · simp [Value.ownBlock] at hg
  · simp only [Value.ownBlock, Option.some.injEq] at hg
    subst hg
    have hn : 0 < n := by rcases h0 with h0 | h0; · cases h0
                          · exact h0
    obtain ⟨u, hu⟩ := Option.isSome_iff_exists.1 (k6 0 (Nat.mul_pos (by omega) hs))
    exact ⟨_, Array.getElem?_eq_getElem k2, cells_of_cell hu (Array.getElem?_eq_getElem k2)⟩
/-- A round that appends m elements and stores the slice in its box. -/
theorem OI.step {W0 W w1 w2 : World} {Bo : Nat} {t : TypeId} {size n m : Nat} {xs news : List Value} {v v' : Value} (hs : 0 < size) (hB : Bo < W0.heap.size)
    (hb : Blk W Bo #[v] t) (hv : SV W W0.heap.size size v n xs) (h0 : v = .slice none 0 0 ∨ 0 < n) (hf : Fr [Bo] W0 W)
    (h1 : Fr [] W w1) (h2 : SV w2 W0.heap.size size v' (n + m) (xs ++ news)) (h3 : Fr v.ownBlock.toList w1 w2) (hm : 0 < m) :
    OI W0 Bo t size (n + m) (xs ++ news) (w2.setCell ⟨Bo, 0, none⟩ v') ∧ KeepsFrom W0.heap.size W (w2.setCell ⟨Bo, 0, none⟩ v') ∧ Fr (Bo :: v.ownBlock.toList) W (w2.setCell ⟨Bo, 0, none⟩ v') := by
  have hvB : ∀ g, v.ownBlock = some g → W0.heap.size ≤ g ∧ g < W.heap.size ∧ ∃ o : Obj, W.heap[g]? = some o ∧ o.isCells = true := fun g hg => hv.isCells hs h0 hg
  have f12 : Fr v.ownBlock.toList W w2 := (h1.mono (by simp)).trans h3
  have f3 : Fr (Bo :: v.ownBlock.toList) W (w2.setCell ⟨Bo, 0, none⟩ v') := (f12.mono (T := Bo :: v.ownBlock.toList) (fun k hk => List.mem_cons_of_mem _ hk)).set (p := ⟨Bo, 0, none⟩) (.inl List.mem_cons_self) _
  have hb2 : Blk w2 Bo #[v] t := f12.blk hb (by
    intro hm
    simp at hm
    have := (hvB _ hm).1
    omega)
  refine ⟨⟨⟨v', (hb2.set 0 v').cast (by simp), h2.fr ((Fr.refl [Bo] w2).set (.inl (by simp)) v') (fun g hg hmem => ?_), .inr (by omega)⟩, ?_⟩, ?_, f3⟩
  · simp at hmem
    have := (h2.own hg).1
    omega
  · refine ((hf.mono (T := Bo :: v.ownBlock.toList) (by simp)).trans f3).weaken ?_
    intro k hk
    rcases List.mem_cons.1 hk with rfl | hk
    · exact .inl (by simp)
    · simp at hk
      exact .inr (hvB _ hk).1
  · refine KeepsFrom.of_fr f3 ?_
    intro k hk
    rcases List.mem_cons.1 hk with rfl | hk
    · exact .inl hB
    · simp at hk
      exact .inr (hvB _ hk).2.2
end Go.Proofs.Ytmilnhicmeblhaa
