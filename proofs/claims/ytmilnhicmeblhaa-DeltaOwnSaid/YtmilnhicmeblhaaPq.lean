/- The package delta: pairs, the iterators' contracts. -/
import Derived.Test.YtmilnhicmeblhaaPrCC
import Derived.Test.YtmilnhicmeblhaaPrCH
import Derived.Test.YtmilnhicmeblhaaPrHH
namespace Go.Proofs.Ytmilnhicmeblhaa
open Go.RowKit Go.Shelf Go.Sort
set_option maxRecDepth 100000
set_option linter.unusedVariables false
set_option linter.unusedSimpArgs false
set_option maxHeartbeats 4000000
theorem zipP_at : ∀ (a b : List ByteArray) (i k : Nat) (x : It), x ∈ zipP a b i k → (∀ j, x.2.1 = some j → i ≤ j ∧ a[j - i]? = some x.1) ∧ (∀ j, x.2.2 = some j → k ≤ j ∧ b[j - k]? = some x.1) ∧ (x.2.1.isSome = true ∨ x.2.2.isSome = true)
  | [], [], i, k, x, h => by simp [zipP] at h
  | y :: r, [], i, k, x, h => by
    simp only [zipP, List.mem_cons] at h
    rcases h with rfl | h
    · exact ⟨fun j e => (by cases e; exact ⟨Nat.le_refl _, by simp⟩), fun j e => (by cases e), .inl rfl⟩
    · obtain ⟨h1, h2, h3⟩ := zipP_at r [] (i + 1) k x h
      refine ⟨fun j e => ?_, h2, h3⟩
      obtain ⟨q1, q2⟩ := h1 j e
      exact ⟨by omega, by rw [show j - i = j - (i + 1) + 1 by omega]; exact q2⟩
  | [], y :: s, i, k, x, h => by
    simp only [zipP, List.mem_cons] at h
    rcases h with rfl | h
    · exact ⟨fun j e => (by cases e), fun j e => (by cases e; exact ⟨Nat.le_refl _, by simp⟩), .inr rfl⟩
    · obtain ⟨h1, h2, h3⟩ := zipP_at [] s i (k + 1) x h
      refine ⟨h1, fun j e => ?_, h3⟩
      obtain ⟨q1, q2⟩ := h2 j e
      exact ⟨by omega, by rw [show j - k = j - (k + 1) + 1 by omega]; exact q2⟩
  | y :: r, z :: s, i, k, x, h => by
    unfold zipP at h
    split at h
    · rename_i hyz
      rcases List.mem_cons.1 h with rfl | h
      · exact ⟨fun j e => (by cases e; exact ⟨Nat.le_refl _, by simp⟩), fun j e => (by cases e; exact ⟨Nat.le_refl _, by simp [hyz]⟩), .inl rfl⟩
      · obtain ⟨h1, h2, h3⟩ := zipP_at r s (i + 1) (k + 1) x h
        refine ⟨fun j e => ?_, fun j e => ?_, h3⟩
        · obtain ⟨q1, q2⟩ := h1 j e
          exact ⟨by omega, by rw [show j - i = j - (i + 1) + 1 by omega]; exact q2⟩
        · obtain ⟨q1, q2⟩ := h2 j e
          exact ⟨by omega, by rw [show j - k = j - (k + 1) + 1 by omega]; exact q2⟩
    · split at h
      · rcases List.mem_cons.1 h with rfl | h
        · exact ⟨fun j e => (by cases e; exact ⟨Nat.le_refl _, by simp⟩), fun j e => (by cases e), .inl rfl⟩
        · obtain ⟨h1, h2, h3⟩ := zipP_at r (z :: s) (i + 1) k x h
          refine ⟨fun j e => ?_, h2, h3⟩
          obtain ⟨q1, q2⟩ := h1 j e
          exact ⟨by omega, by rw [show j - i = j - (i + 1) + 1 by omega]; exact q2⟩
      · rcases List.mem_cons.1 h with rfl | h
        · exact ⟨fun j e => (by cases e), fun j e => (by cases e; exact ⟨Nat.le_refl _, by simp⟩), .inr rfl⟩
        · obtain ⟨h1, h2, h3⟩ := zipP_at (y :: r) s i (k + 1) x h
          refine ⟨h1, fun j e => ?_, h3⟩
          obtain ⟨q1, q2⟩ := h2 j e
          exact ⟨by omega, by rw [show j - k = j - (k + 1) + 1 by omega]; exact q2⟩
termination_by a b => a.length + b.length
/-- What the iterator hands over. -/
abbrev ItZ {α β : Type} (A : List (ByteArray × α)) (B : List (ByteArray × β)) := { x : It // x ∈ zipP (A.map (·.1)) (B.map (·.1)) 0 0 }
theorem ItZ.at_ {α β : Type} {A : List (ByteArray × α)} {B : List (ByteArray × β)} (x : ItZ A B) :
    (∃ i a, x.1.2.1 = some i ∧ x.1.2.2 = none ∧ A[i]? = some (x.1.1, a)) ∨ (∃ k b, x.1.2.1 = none ∧ x.1.2.2 = some k ∧ B[k]? = some (x.1.1, b)) ∨
      (∃ i k a b, x.1.2.1 = some i ∧ x.1.2.2 = some k ∧ A[i]? = some (x.1.1, a) ∧ B[k]? = some (x.1.1, b)) := by
  obtain ⟨⟨s, oa, ob⟩, hx⟩ := x
  obtain ⟨h1, h2, h3⟩ := zipP_at _ _ 0 0 _ hx
  have g1 : ∀ i, oa = some i → ∃ a, A[i]? = some (s, a) := fun i e => by
    have := (h1 i e).2
    rw [Nat.sub_zero, List.getElem?_map] at this
    obtain ⟨⟨q, a⟩, e1, e2⟩ := Option.map_eq_some_iff.1 this
    simp only at e2
    subst e2
    exact ⟨a, e1⟩
  have g2 : ∀ i, ob = some i → ∃ a, B[i]? = some (s, a) := fun i e => by
    have := (h2 i e).2
    rw [Nat.sub_zero, List.getElem?_map] at this
    obtain ⟨⟨q, a⟩, e1, e2⟩ := Option.map_eq_some_iff.1 this
    simp only at e2
    subst e2
    exact ⟨a, e1⟩
  cases oa with
  | none =>
    cases ob with
    | none => simp at h3
    | some k => obtain ⟨b, hb⟩ := g2 k rfl; exact .inr (.inl ⟨k, b, rfl, rfl, hb⟩)
  | some i =>
    obtain ⟨a, ha⟩ := g1 i rfl
    cases ob with
    | none => exact .inl ⟨i, a, rfl, rfl, ha⟩
    | some k => obtain ⟨b, hb⟩ := g2 k rfl; exact .inr (.inr ⟨i, k, a, b, rfl, rfl, ha, hb⟩)
def liftJ {p : It → Prop} (J : List { x : It // p x } → World → Prop) : List It → World → Prop := fun l W => ∃ l', l'.map (·.1) = l ∧ J l' W
theorem liftJ_abides {p : It → Prop} {J : List { x : It // p x } → World → Prop} {B : Nat} (h : AbidesFrom B J) : AbidesFrom B (liftJ J) :=
  fun s W W' row ⟨l', e, hs⟩ hg hr => ⟨l', e, h l' W W' row hs hg hr⟩
theorem pairsCC_any (aa ba : Option Addr) (na ca nb cb : Nat) (w : World) :
    Calls Try.prog 44 #[.slice aa na ca, .slice ba nb cb, .func (.func 45) #[] #[], .func (.func 45) #[] #[]] w fun e w' =>
      e = .returned (.func (.func 66) #[] #[.pointer (some ⟨w.heap.size, 0, none⟩), .pointer (some ⟨w.heap.size + 1, 0, none⟩), .pointer (some ⟨w.heap.size + 2, 0, none⟩), .pointer (some ⟨w.heap.size + 3, 0, none⟩)]) ∧
      w' = (((w.alloc (.cells #[.slice aa na ca] 24)).alloc (.cells #[.slice ba nb cb] 24)).alloc (.cells #[.func (.func 45) #[] #[]] 91)).alloc (.cells #[.func (.func 45) #[] #[]] 91) := by
  go_enter Try.func44, Try.ntmps44
  go_wp2
  go_ret
  exact ⟨rfl, rfl⟩
theorem pairsCC_stops (n Ba Bb Bk Bj n₀ : Nat) (A : List Ct) (B : List Ct) (va vb : Value) (w : World) (hn0 : n₀ ≤ w.heap.size)
    (hA : RC w va A) (hB : RC w vb B) (ha : Blk w Ba #[va] 24) (hb : Blk w Bb #[vb] 24) (hk : Blk w Bk #[.func (.func 45) #[] #[]] 91) (hj : Blk w Bj #[.func (.func 45) #[] #[]] 91)
    (hnA : 0 < A.length → ∀ g, va.ownBlock = some g → g < n₀) (hnB : 0 < B.length → ∀ g, vb.ownBlock = some g → g < n₀) :
    SeqStopsK Fence.wide n Try.prog 66 #[.pointer (some ⟨Ba, 0, none⟩), .pointer (some ⟨Bb, 0, none⟩), .pointer (some ⟨Bk, 0, none⟩), .pointer (some ⟨Bj, 0, none⟩)]
      (fun x : ItZ A B => #[.string x.1.1, .agg #[adr va 2 x.1.2.1, adr vb 2 x.1.2.2]]) (KB n₀ [Ba, Bb, Bk, Bj]) (fun ys => ys.map (·.1) = zipP (A.map (·.1)) (B.map (·.1)) 0 0) (fun pre => pre.map (·.1) <+: zipP (A.map (·.1)) (B.map (·.1)) 0 0) (A.length + B.length) w := by
  intro l J Jx W hW hJ hJx hY h0
  refine callsIn_wide.2 ((pairsCC_in n l Ba Bb Bk Bj n₀ A B va vb (liftJ J) (liftJ Jx) W (liftJ_abides hJ) (Nat.le_trans hn0 hW.size) ?_
    (RD.below (hW.mono hn0) hA hnA) (RD.below (hW.mono hn0) hB hnB) (ha.below hW ha.lt) (hb.below hW hb.lt) (hk.below hW hk.lt) (hj.below hW hj.lt) hnA hnB ⟨[], rfl, h0⟩).mono ?_)
  · rintro pre x W1 hp ⟨pre', rfl, hJ1⟩ hl
    have hx : x ∈ zipP (A.map (·.1)) (B.map (·.1)) 0 0 := hp.subset (by simp)
    obtain ⟨fn, tmps, assign, body, hy, hR⟩ := hY pre' ⟨x, hx⟩ W1 hJ1 (by simpa using hl)
    refine ⟨fn, tmps, assign, body, hy, hR.mono ?_⟩
    rintro e W' (⟨rfl, h, k⟩ | ⟨rfl, h⟩)
    · exact .inl ⟨rfl, ⟨pre' ++ [⟨x, hx⟩], by simp, h⟩, k⟩
    · exact .inr ⟨rfl, ⟨pre' ++ [⟨x, hx⟩], by simp, h⟩⟩
  · rintro e W' ⟨he, h⟩
    refine ⟨he, ?_⟩
    rcases h with ⟨xs, rfl, l', e', h⟩ | ⟨pre, hp, l', e', h⟩
    · exact .inl ⟨l', e', h⟩
    · exact .inr ⟨l', (by rw [← e'] at hp; exact hp), h⟩
theorem pairsCH_any (aa ba : Option Addr) (na ca nb cb : Nat) (w : World) :
    Calls Try.prog 67 #[.slice aa na ca, .slice ba nb cb, .func (.func 45) #[] #[], .func (.func 59) #[] #[]] w fun e w' =>
      e = .returned (.func (.func 73) #[] #[.pointer (some ⟨w.heap.size, 0, none⟩), .pointer (some ⟨w.heap.size + 1, 0, none⟩), .pointer (some ⟨w.heap.size + 2, 0, none⟩), .pointer (some ⟨w.heap.size + 3, 0, none⟩)]) ∧
      w' = (((w.alloc (.cells #[.slice aa na ca] 24)).alloc (.cells #[.slice ba nb cb] 26)).alloc (.cells #[.func (.func 45) #[] #[]] 91)).alloc (.cells #[.func (.func 59) #[] #[]] 119) := by
  go_enter Try.func67, Try.ntmps67
  go_wp2
  go_ret
  exact ⟨rfl, rfl⟩
theorem pairsCH_stops (n Ba Bb Bk Bj n₀ : Nat) (A : List Ct) (B : List Ch) (va vb : Value) (w : World) (hn0 : n₀ ≤ w.heap.size)
    (hA : RC w va A) (hB : RH w vb B) (ha : Blk w Ba #[va] 24) (hb : Blk w Bb #[vb] 26) (hk : Blk w Bk #[.func (.func 45) #[] #[]] 91) (hj : Blk w Bj #[.func (.func 59) #[] #[]] 119)
    (hnA : 0 < A.length → ∀ g, va.ownBlock = some g → g < n₀) (hnB : 0 < B.length → ∀ g, vb.ownBlock = some g → g < n₀) :
    SeqStopsK Fence.wide n Try.prog 73 #[.pointer (some ⟨Ba, 0, none⟩), .pointer (some ⟨Bb, 0, none⟩), .pointer (some ⟨Bk, 0, none⟩), .pointer (some ⟨Bj, 0, none⟩)]
      (fun x : ItZ A B => #[.string x.1.1, .agg #[adr va 2 x.1.2.1, adr vb 4 x.1.2.2]]) (KB n₀ [Ba, Bb, Bk, Bj]) (fun ys => ys.map (·.1) = zipP (A.map (·.1)) (B.map (·.1)) 0 0) (fun pre => pre.map (·.1) <+: zipP (A.map (·.1)) (B.map (·.1)) 0 0) (A.length + B.length) w := by
  intro l J Jx W hW hJ hJx hY h0
  refine callsIn_wide.2 ((pairsCH_in n l Ba Bb Bk Bj n₀ A B va vb (liftJ J) (liftJ Jx) W (liftJ_abides hJ) (Nat.le_trans hn0 hW.size) ?_
    (RD.below (hW.mono hn0) hA hnA) (RD.below (hW.mono hn0) hB hnB) (ha.below hW ha.lt) (hb.below hW hb.lt) (hk.below hW hk.lt) (hj.below hW hj.lt) hnA hnB ⟨[], rfl, h0⟩).mono ?_)
  · rintro pre x W1 hp ⟨pre', rfl, hJ1⟩ hl
    have hx : x ∈ zipP (A.map (·.1)) (B.map (·.1)) 0 0 := hp.subset (by simp)
    obtain ⟨fn, tmps, assign, body, hy, hR⟩ := hY pre' ⟨x, hx⟩ W1 hJ1 (by simpa using hl)
    refine ⟨fn, tmps, assign, body, hy, hR.mono ?_⟩
    rintro e W' (⟨rfl, h, k⟩ | ⟨rfl, h⟩)
    · exact .inl ⟨rfl, ⟨pre' ++ [⟨x, hx⟩], by simp, h⟩, k⟩
    · exact .inr ⟨rfl, ⟨pre' ++ [⟨x, hx⟩], by simp, h⟩⟩
  · rintro e W' ⟨he, h⟩
    refine ⟨he, ?_⟩
    rcases h with ⟨xs, rfl, l', e', h⟩ | ⟨pre, hp, l', e', h⟩
    · exact .inl ⟨l', e', h⟩
    · exact .inr ⟨l', (by rw [← e'] at hp; exact hp), h⟩
theorem pairsHH_any (aa ba : Option Addr) (na ca nb cb : Nat) (w : World) :
    Calls Try.prog 58 #[.slice aa na ca, .slice ba nb cb, .func (.func 59) #[] #[], .func (.func 59) #[] #[]] w fun e w' =>
      e = .returned (.func (.func 72) #[] #[.pointer (some ⟨w.heap.size, 0, none⟩), .pointer (some ⟨w.heap.size + 1, 0, none⟩), .pointer (some ⟨w.heap.size + 2, 0, none⟩), .pointer (some ⟨w.heap.size + 3, 0, none⟩)]) ∧
      w' = (((w.alloc (.cells #[.slice aa na ca] 26)).alloc (.cells #[.slice ba nb cb] 26)).alloc (.cells #[.func (.func 59) #[] #[]] 119)).alloc (.cells #[.func (.func 59) #[] #[]] 119) := by
  go_enter Try.func58, Try.ntmps58
  go_wp2
  go_ret
  exact ⟨rfl, rfl⟩
theorem pairsHH_stops (n Ba Bb Bk Bj n₀ : Nat) (A : List Ch) (B : List Ch) (va vb : Value) (w : World) (hn0 : n₀ ≤ w.heap.size)
    (hA : RH w va A) (hB : RH w vb B) (ha : Blk w Ba #[va] 26) (hb : Blk w Bb #[vb] 26) (hk : Blk w Bk #[.func (.func 59) #[] #[]] 119) (hj : Blk w Bj #[.func (.func 59) #[] #[]] 119)
    (hnA : 0 < A.length → ∀ g, va.ownBlock = some g → g < n₀) (hnB : 0 < B.length → ∀ g, vb.ownBlock = some g → g < n₀) :
    SeqStopsK Fence.wide n Try.prog 72 #[.pointer (some ⟨Ba, 0, none⟩), .pointer (some ⟨Bb, 0, none⟩), .pointer (some ⟨Bk, 0, none⟩), .pointer (some ⟨Bj, 0, none⟩)]
      (fun x : ItZ A B => #[.string x.1.1, .agg #[adr va 4 x.1.2.1, adr vb 4 x.1.2.2]]) (KB n₀ [Ba, Bb, Bk, Bj]) (fun ys => ys.map (·.1) = zipP (A.map (·.1)) (B.map (·.1)) 0 0) (fun pre => pre.map (·.1) <+: zipP (A.map (·.1)) (B.map (·.1)) 0 0) (A.length + B.length) w := by
  intro l J Jx W hW hJ hJx hY h0
  refine callsIn_wide.2 ((pairsHH_in n l Ba Bb Bk Bj n₀ A B va vb (liftJ J) (liftJ Jx) W (liftJ_abides hJ) (Nat.le_trans hn0 hW.size) ?_
    (RD.below (hW.mono hn0) hA hnA) (RD.below (hW.mono hn0) hB hnB) (ha.below hW ha.lt) (hb.below hW hb.lt) (hk.below hW hk.lt) (hj.below hW hj.lt) hnA hnB ⟨[], rfl, h0⟩).mono ?_)
  · rintro pre x W1 hp ⟨pre', rfl, hJ1⟩ hl
    have hx : x ∈ zipP (A.map (·.1)) (B.map (·.1)) 0 0 := hp.subset (by simp)
    obtain ⟨fn, tmps, assign, body, hy, hR⟩ := hY pre' ⟨x, hx⟩ W1 hJ1 (by simpa using hl)
    refine ⟨fn, tmps, assign, body, hy, hR.mono ?_⟩
    rintro e W' (⟨rfl, h, k⟩ | ⟨rfl, h⟩)
    · exact .inl ⟨rfl, ⟨pre' ++ [⟨x, hx⟩], by simp, h⟩, k⟩
    · exact .inr ⟨rfl, ⟨pre' ++ [⟨x, hx⟩], by simp, h⟩⟩
  · rintro e W' ⟨he, h⟩
    refine ⟨he, ?_⟩
    rcases h with ⟨xs, rfl, l', e', h⟩ | ⟨pre, hp, l', e', h⟩
    · exact .inl ⟨l', e', h⟩
    · exact .inr ⟨l', (by rw [← e'] at hp; exact hp), h⟩
end Go.Proofs.Ytmilnhicmeblhaa
