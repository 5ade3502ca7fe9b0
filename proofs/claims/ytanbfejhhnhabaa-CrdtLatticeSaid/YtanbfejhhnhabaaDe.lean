/- The package crdt: slices.Clone, slices.DeleteFunc on nodes. -/
import Derived.Test.YtanbfejhhnhabaaBl
namespace Go.Proofs.Ytanbfejhhnhabaa
open Go.RowKit Go.Maps Go.Sort
set_option maxRecDepth 100000
set_option linter.unusedVariables false
set_option linter.unusedSimpArgs false
set_option maxHeartbeats 8000000
theorem SV.setCells {w : World} {base size g o n c : Nat} {xs : List Value} (h : SV w base size (.slice (some ⟨g, o, none⟩) n c) n xs) (k : Nat) (news : List Value) (hk : k + news.length ≤ n * size) :
    SV (w.setCells g (o + k) news) base size (.slice (some ⟨g, o, none⟩) n c) n (xs.take k ++ news ++ xs.drop (k + news.length)) := by
  obtain ⟨hlen, h2⟩ := h
  have hl2 : (xs.take k ++ news ++ xs.drop (k + news.length)).length = n * size := by simp; omega
  refine ⟨hl2, ?_⟩
  rcases h2 with ⟨h3, _⟩ | ⟨g', o', c', he, k1, k2, k3, k4, k5, k6, k7⟩
  · cases h3
  · simp only [Value.slice.injEq, Option.some.injEq, Addr.mk.injEq] at he
    obtain ⟨⟨rfl, rfl, -⟩, -, rfl⟩ := he
    have hcs : n * size ≤ c * size := Nat.mul_le_mul_right _ k3
    have hsome : ∀ j, j < news.length → (w.cell? ⟨g, o + k + j, none⟩).isSome = true := fun j hj => by
      rw [show o + k + j = o + (k + j) by omega]; exact k6 _ (by omega)
    refine .inr ⟨g, o, c, rfl, k1, Nat.lt_of_lt_of_le k2 (Fr.setCells g news (o + k) w).size, k3, k4, ?_, ?_, fun j => by rw [World.frozen?_setCells]; exact k7 j⟩
    · intro j u hj
      by_cases hin : k ≤ j ∧ j < k + news.length
      · have := World.cell?_setCells_in g news (o + k) w hsome (j - k) (by omega)
        rw [show o + k + (j - k) = o + j by omega] at this
        rw [this]
        rw [List.append_assoc, List.getElem?_append_right (by simp; omega), List.getElem?_append_left (by simp; omega)] at hj
        simp only [List.length_take] at hj
        rw [show j - min k xs.length = j - k by omega] at hj
        have h9 := (List.getElem?_eq_some_iff.1 hj).2
        rw [h9]
      · rw [World.cell?_setCells_out _ _ _ _ _ (by intro _ _; show o + j < o + k ∨ o + k + news.length ≤ o + j; omega)]
        refine k5 j u ?_
        by_cases hjk : j < k
        · rw [List.append_assoc, List.getElem?_append_left (by simp; omega), List.getElem?_take, if_pos hjk] at hj
          exact hj
        · rw [List.getElem?_append_right (by simp; omega)] at hj
          simp only [List.length_append, List.length_take, List.getElem?_drop] at hj
          rw [show k + news.length + (j - (min k xs.length + news.length)) = j by omega] at hj
          exact hj
    · intro j hj
      by_cases hin : k ≤ j ∧ j < k + news.length
      · have := World.cell?_setCells_in g news (o + k) w hsome (j - k) (by omega)
        rw [show o + k + (j - k) = o + j by omega] at this
        rw [this]; rfl
      · rw [World.cell?_setCells_out _ _ _ _ _ (by intro _ _; show o + j < o + k ∨ o + k + news.length ≤ o + j; omega)]
        exact k6 j hj
theorem SV.cut {w : World} {base size g o n c : Nat} {xs : List Value} (h : SV w base size (.slice (some ⟨g, o, none⟩) n c) n xs) (i : Nat) (hi : i ≤ n) :
    SV w base size (.slice (some ⟨g, o, none⟩) i c) i (xs.take (i * size)) := by
  obtain ⟨hlen, h2⟩ := h
  have := Nat.mul_le_mul_right size hi
  refine ⟨by simp; omega, ?_⟩
  rcases h2 with ⟨h3, _⟩ | ⟨g', o', c', he, k1, k2, k3, k4, k5, k6, k7⟩
  · cases h3
  · simp only [Value.slice.injEq, Option.some.injEq, Addr.mk.injEq] at he
    obtain ⟨⟨rfl, rfl, -⟩, -, rfl⟩ := he
    refine .inr ⟨g, o, c, rfl, k1, k2, by omega, k4, fun j u hj => k5 j u ?_, k6, k7⟩
    rw [List.getElem?_take] at hj
    split at hj
    · exact hj
    · cases hj
theorem flat3_take (l : List Nd) (i : Nat) : (flat3 l).take (i * 3) = flat3 (l.take i) := by
  by_cases h : i ≤ l.length
  · conv => lhs; rw [← List.take_append_drop i l, flat3_app]
    rw [List.take_append_of_le_length (by rw [flat3_len]; simp; omega), List.take_of_length_le (by rw [flat3_len]; simp; omega)]
  · rw [List.take_of_length_le (by rw [flat3_len]; omega), List.take_of_length_le (by omega)]
theorem flat3_drop (l : List Nd) (i : Nat) : (flat3 l).drop (i * 3) = flat3 (l.drop i) := by
  have h1 : flat3 l = flat3 (l.take i) ++ flat3 (l.drop i) := by rw [← flat3_app, List.take_append_drop]
  have h2 := flat3_take l i
  have h3 := List.take_append_drop (i * 3) (flat3 l)
  rw [h2] at h3
  exact List.append_cancel_left (h3.trans h1)
theorem flat3_set (l : List Nd) (i : Nat) (s : ByteArray) (u d : Int) (h : i < l.length) :
    flat3 (l.set i (s, u, d)) = (flat3 l).take (i * 3) ++ [.string s, .int .u64 u, .int .u64 d] ++ (flat3 l).drop (i * 3 + 3) := by
  rw [List.set_eq_take_append_cons_drop, if_pos h, show i * 3 + 3 = (i + 1) * 3 by omega, flat3_take, flat3_drop, flat3_app]
  simp [flat3]
theorem SV.slot {w : World} {base g o n c i : Nat} {cur : List Nd} {s : ByteArray} {u d : Int} (h : SV w base 3 (.slice (some ⟨g, o, none⟩) n c) n (flat3 cur)) (hi : cur[i]? = some (s, u, d)) :
    w.cell? ⟨g, o + i * 3, none⟩ = some (.string s) ∧ w.cell? ⟨g, o + i * 3 + 1, none⟩ = some (.int .u64 u) ∧ w.cell? ⟨g, o + i * 3 + 2, none⟩ = some (.int .u64 d) ∧ (∀ j, w.frozen? ⟨g, j, none⟩ = false) ∧ base ≤ g ∧ g < w.heap.size ∧ n ≤ c ∧ c ≤ maxLen := by
  obtain ⟨hlen, h2⟩ := h
  rcases h2 with ⟨h3, _⟩ | ⟨g', o', c', he, k1, k2, k3, k4, k5, k6, k7⟩
  · cases h3
  · simp only [Value.slice.injEq, Option.some.injEq, Addr.mk.injEq] at he
    obtain ⟨⟨rfl, rfl, -⟩, -, rfl⟩ := he
    have e0 := k5 (i * 3) _ (flat3_get cur i _ hi).1
    have e1 := k5 (i * 3 + 1) _ (flat3_get cur i _ hi).2.1
    have e2 := k5 (i * 3 + 2) _ (flat3_get cur i _ hi).2.2
    rw [← Nat.add_assoc] at e1 e2
    exact ⟨e0, e1, e2, k7, k1, k2, k3, k4⟩
/-- The loop's relation. -/
structure DI (p : Nd → Bool) (l : List Nd) (j i : Nat) (cur : List Nd) : Prop where
  len : cur.length = l.length
  ij : i < j
  jn : j ≤ l.length
  kept : ((l.take j).filter (fun x => !p x)).length = i
  low : ∀ m, m < i → cur[m]? = ((l.take j).filter (fun x => !p x))[m]?
  high : ∀ m, j ≤ m → cur[m]? = l[m]?
theorem DI.start {p : Nd → Bool} {l : List Nd} {k : Nat} (h : l.findIdx? p = some k) : DI p l (k + 1) k l := by
  rw [List.findIdx?_eq_some_iff_getElem] at h
  obtain ⟨hk, hp, hn⟩ := h
  have e1 : (l.take k).filter (fun x => !p x) = l.take k := by
    rw [List.filter_eq_self]
    intro a ha
    obtain ⟨i, hi, rfl⟩ := List.getElem_of_mem ha
    have hi2 : i < k := by simp at hi; omega
    have := hn i hi2
    simpa using this
  have e2 : (l.take (k + 1)).filter (fun x => !p x) = l.take k := by
    rw [take_snoc (List.getElem?_eq_getElem hk), List.filter_append, e1]
    simp [hp]
  refine ⟨rfl, by omega, by omega, by rw [e2]; simp; omega, fun m hm => ?_, fun _ _ => rfl⟩
  rw [e2, List.getElem?_take, if_pos hm]
theorem DI.keep {p : Nd → Bool} {l cur : List Nd} {j i : Nat} {x : Nd} (h : DI p l j i cur) (hx : l[j]? = some x) (hp : p x = false) : DI p l (j + 1) (i + 1) (cur.set i x) := by
  have hj := (List.getElem?_eq_some_iff.1 hx).1
  have hij := h.ij
  have e : (l.take (j + 1)).filter (fun x => !p x) = (l.take j).filter (fun x => !p x) ++ [x] := by
    rw [take_snoc hx, List.filter_append]; simp [hp]
  refine ⟨by simpa using h.len, by omega, by omega, by rw [e]; simp [h.kept], fun m hm => ?_, fun m hm => ?_⟩
  · rw [e]
    by_cases hmi : m = i
    · subst hmi
      rw [List.getElem?_append_right (by rw [h.kept]; omega), h.kept, List.getElem?_set_self (by rw [h.len]; omega)]
      simp
    · rw [List.getElem?_set_ne (by omega), List.getElem?_append_left (by rw [h.kept]; omega)]
      exact h.low m (by omega)
  · rw [List.getElem?_set_ne (by omega)]
    exact h.high m (by omega)
theorem DI.skip {p : Nd → Bool} {l cur : List Nd} {j i : Nat} {x : Nd} (h : DI p l j i cur) (hx : l[j]? = some x) (hp : p x = true) : DI p l (j + 1) i cur := by
  have hj := (List.getElem?_eq_some_iff.1 hx).1
  have hij := h.ij
  have e : (l.take (j + 1)).filter (fun x => !p x) = (l.take j).filter (fun x => !p x) := by
    rw [take_snoc hx, List.filter_append]; simp [hp]
  exact ⟨h.len, by omega, by omega, by rw [e]; exact h.kept, by rw [e]; exact h.low, fun m hm => h.high m (by omega)⟩
theorem DI.done {p : Nd → Bool} {l cur : List Nd} {i : Nat} (h : DI p l l.length i cur) : cur.take i = l.filter (fun x => !p x) ∧ i = (l.filter (fun x => !p x)).length := by
  have hk := h.kept
  have hlo := h.low
  have hij := h.ij
  have hl := h.len
  rw [List.take_length] at hk hlo
  refine ⟨List.ext_getElem? fun m => ?_, hk.symm⟩
  by_cases hm : m < i
  · rw [List.getElem?_take, if_pos hm, hlo m hm]
  · rw [List.getElem?_eq_none (by simp; omega), List.getElem?_eq_none (by omega)]
theorem clear3 (w : World) (base g o n c m c' k : Nat) (cur : List Nd) (h : SV w base 3 (.slice (some ⟨g, o, none⟩) n c) n (flat3 cur)) (hk : k < n) (hm : m = n - k) :
    ∀ ty, (Builtin.clear_ #[28] ty #[.slice (some ⟨g, o + k * 3, none⟩) m c']).run Try.prog w = .ok (.tuple #[]) (w.setCells g (o + k * 3) (Builtin.zeroCells #[.string ByteArray.empty, .int .u64 0, .int .u64 0] m).toList) := by
  intro ty
  obtain ⟨hlen, h2⟩ := h
  rcases h2 with ⟨h3, _⟩ | ⟨g', o', c'', he, k1, k2, k3, k4, k5, k6, k7⟩
  · cases h3
  · simp only [Value.slice.injEq, Option.some.injEq, Addr.mk.injEq] at he
    obtain ⟨⟨rfl, rfl, -⟩, -, rfl⟩ := he
    have hsz : (Builtin.zeroCells #[Value.string ByteArray.empty, .int .u64 0, .int .u64 0] m).toList.length = m * 3 := by simp [Builtin.zeroCells]
    have hst := run_storeCells_cells (P := Try.prog) g (o + k * 3) (Builtin.zeroCells #[Value.string ByteArray.empty, .int .u64 0, .int .u64 0] m).toList 0 w
      (fun j hj => by rw [hsz] at hj; rw [show o + k * 3 + 0 + j = o + (k * 3 + j) by omega]; exact k6 _ (by omega)) (fun j _ => k7 _) (by
        intro v hv
        simp [Builtin.zeroCells] at hv
        obtain ⟨i, hi, rfl⟩ := hv
        have : i % 3 < 3 := Nat.mod_lt _ (by omega)
        rcases (by omega : i % 3 = 0 ∨ i % 3 = 1 ∨ i % 3 = 2) with e | e | e <;> rw [e] <;> rfl)
    simp only [Nat.add_zero] at hst
    obtain ⟨q, rfl⟩ : ∃ q, m = q + 1 := ⟨m - 1, by omega⟩
    have hz := mzero w
    simp [Builtin.clear_, run_underlying Try.underlying28, hz, hst, Value.cells]
theorem SV.empty {w : World} {g base size : Nat} {t : TypeId} (h : Blk w g #[] t) (hb : base ≤ g) : SV w base size (.slice (some ⟨g, 0, none⟩) 0 0) 0 [] :=
  ⟨by simp, .inr ⟨g, 0, 0, rfl, hb, h.lt, by omega, by decide, by simp, by simp, fun j => h.free j⟩⟩
theorem clone_any (v : Value) (l : List Nd) (w : World) (h : RN w v l) (hn : l.length ≤ 4096) :
    Calls Try.prog 46 #[v] w fun e w' => ∃ v', e = .returned v' ∧ SN w' w.heap.size v' l ∧ Fr [] w w' := by
  have hnil : ∀ (W : World) (a : Option Addr) (n c : Nat), (binOp .eql 28 (.slice a n c) (.slice none 0 0)).run Try.prog W = .ok (.bool a.isNone) W := fun W a n c => Lib.run_eql_slice_nil W _ _ a n c 0 0 Try.underlying28
  rcases h.2 with ⟨rfl, h0⟩ | ⟨g, o, c, rfl, g2, g3, g4, g5⟩
  · have hl : l = [] := List.length_eq_zero_iff.1 h0
    subst hl
    go_enter Try.func46, Try.ntmps46
    go_wp2
    go_ret
    exact ⟨_, rfl, SV.nil _ _ _, Fr.refl _ _⟩
  · obtain ⟨i0, hi0, hz0, hz1, hz2⟩ := info_parts infoN
    have hg5 : ∀ j u, (flat3 l)[j]? = some u → (w.alloc (.cells #[] 33)).cell? ((⟨g, o, none⟩ : Addr).add j) = some u := fun j u hj => by
      have e : (⟨g, o, none⟩ : Addr).add j = ⟨g, o + j, none⟩ := by unfold Addr.add; split <;> simp_all
      rw [e, World.cell?_of_block (a := ⟨g, o + j, none⟩) (Below.heap_alloc w _ g g2)]
      exact g5 j u hj
    go_enter Try.func46, Try.ntmps46
    go_wp2_with (at_builtin; (refine wpList_append_sv _ rfl _ _ 28 rfl 33 i0 (ndV ByteArray.empty 0 0) 3 32 Try.underlying28 hi0 hz0 hz1 hz2 rfl (by decide) w.heap.size _ 0 [] rfl (SV.empty (Blk.new _ _ _) (Nat.le_refl _)) ?_ ⟨g, o, none⟩ l.length c (flat3 l) rfl (flat3_len l) hg5 (flat3_one l) ?_ ?_ ?_); (focus (simp)); (focus (unfold maxLen; omega)); (focus omega); intro v4 w4 hS4 hF4)
    go_ret
    simp only [Nat.zero_add, List.nil_append] at hS4
    refine ⟨_, rfl, hS4, ?_⟩
    have hF5 : Fr (Value.slice (some ⟨w.heap.size, 0, none⟩) 0 0).ownBlock.toList (w.alloc (.cells #[] 33)) w4 := hF4
    exact (((Fr.refl [] w).alloc _).mono (by simp)).trans hF5 |>.weaken (by intro z hz; right; simp [Value.ownBlock] at hz; omega)
theorem delete_any (F : Nat) (caps : Array Value) (p : Nd → Bool) (base : Nat) (v : Value) (l : List Nd) (w : World) (h : SN w base v l) (hl : l.length ≤ 4096)
    (hE : ∀ (args : Array Value) (W : World), (callFunc F args).run Try.prog W = .ok (.enter F args) W)
    (hC : ∀ a W, a ∈ l → Fr v.ownBlock.toList w W → Calls Try.prog F (#[ndV a.1 a.2.1 a.2.2] ++ caps) W fun e w' => e = .returned (.bool (p a)) ∧ Fr [] W w') :
    Calls Try.prog 45 #[v, .func (.func F) #[] caps] w fun e w' => ∃ v', e = .returned v' ∧ SN w' base v' (l.filter (fun x => !p x)) ∧ Fr v.ownBlock.toList w w' := by
  have hI := index_any F caps p v l w h.rd (by omega) hE (fun a W ha hF => hC a W ha (hF.mono (by simp)))
  cases hf : l.findIdx? p with
  | none =>
    have e : idxF l p = -1 := by unfold idxF; rw [hf]
    rw [e] at hI
    have ef : l.filter (fun x => !p x) = l := by
      rw [List.findIdx?_eq_none_iff] at hf
      rw [List.filter_eq_self]
      intro a ha
      simp [hf a ha]
    rw [ef]
    have HI := Lib.hid hI
    have H := Lib.hid h
    clear h hI hC hE ef hf e
    go_enter Try.func45, Try.ntmps45
    go_wp2_with ((go_at_call 58); (with_reducible refine HI.out.mono ?_); rintro e w1 ⟨rfl, hF1⟩)
    go_ret
    exact ⟨_, rfl, H.out.fr0 hF1, hF1.mono (by simp)⟩
  | some k0 =>
    have e : idxF l p = k0 := by unfold idxF; rw [hf]
    rw [e] at hI
    have hst := DI.start hf
    have hk0 : k0 < l.length := hst.jn
    obtain ⟨g, o, c, rfl, g1, g2, g3, g4, -⟩ := h.cells (by omega)
    have HI := Lib.hid hI
    have H := Lib.hid h
    have HC := Lib.hid hC
    have HST := Lib.hid hst
    clear h hI hC hf e hst
    have hn1 : ((k0 : Int) == -1) = false := beq_eq_false_iff_ne.2 (by omega)
    go_enter Try.func45, Try.ntmps45
    go_wp2_with ((go_at_call 58); (with_reducible refine HI.out.mono ?_); rintro e w1 ⟨rfl, hF1⟩)
    have HF1 := Lib.hid hF1
    clear hF1
    go_loopw [5, 6] (fun x u wr => ∃ (i j : Nat) (cur : List Nd), x = .int .i64 i ∧ u = .int .i64 j ∧ Hid (DI p l j i cur) ∧ Hid (SV wr base 3 (.slice (some ⟨g, o, none⟩) l.length c) l.length (flat3 cur)) ∧ Hid (Fr [g] w wr)) (fun _ u _ => l.length - (intOf u).toNat)
    case atStart => exact ⟨k0, k0 + 1, l, rfl, by go_num, HST, Lib.hid (H.out.fr0 HF1.out), Lib.hid (HF1.out.mono (by simp))⟩
    case round =>
      obtain ⟨i, j, cur, rfl, rfl, hD, hS, hF⟩ := hrel
      have hij := hD.out.ij
      have hjn := hD.out.jn
      have hcl := hD.out.len
      by_cases hjl : j < l.length
      · obtain ⟨⟨s, u, d⟩, hj0⟩ : ∃ a, l[j]? = some a := ⟨_, List.getElem?_eq_getElem hjl⟩
        have HJ := Lib.hid hj0
        obtain ⟨k0, k1, k2, -⟩ := hS.out.slot ((hD.out.high j (Nat.le_refl _)).trans hj0)
        obtain ⟨⟨s', u', d'⟩, hi0⟩ : ∃ a, cur[i]? = some a := ⟨_, List.getElem?_eq_getElem (by omega)⟩
        have HI0 := Lib.hid hi0
        have hm := List.mem_of_getElem? hj0
        clear hj0 hi0 HI HST
        cases hp : p (s, u, d) with
        | true =>
          have HP := Lib.hid hp
          have hcall := HC.out (s, u, d) (wr.alloc (.cells #[.string s, .int .u64 u, .int .u64 d] 33)) hm (hF.out.alloc _)
          rw [hp] at hcall
          have HCC := Lib.hid hcall
          clear hcall hp HC
          go_wp2_with ((with_reducible refine HCC.out.mono ?_); rintro e w2 ⟨rfl, hF2⟩)
          go_roundw
          case rel => exact ⟨i, j + 1, cur, rfl, by go_num, Lib.hid (hD.out.skip HJ.out HP.out), Lib.hid (hS.out.fr0 (((Fr.refl [] wr).alloc _).trans hF2)), Lib.hid ((hF.out.alloc _).trans (hF2.mono (by simp)))⟩
          case measure => simp [intOf]; omega
        | false =>
          have HP := Lib.hid hp
          have hcall := HC.out (s, u, d) (wr.alloc (.cells #[.string s, .int .u64 u, .int .u64 d] 33)) hm (hF.out.alloc _)
          rw [hp] at hcall
          have HCC := Lib.hid hcall
          clear hcall hp HC
          go_wp2_with ((with_reducible refine HCC.out.mono ?_); rintro e w2 ⟨rfl, hF2⟩; have hb2 := hF2.blk (Blk.new wr #[.string s, .int .u64 u, .int .u64 d] 33) (by simp); have hbc2 := hb2.cell; have hbl2 := hb2.lt; have hS2 := Lib.hid (hS.out.fr0 (((Fr.refl [] wr).alloc _).trans hF2)); obtain ⟨q0, q1, q2, q3, q4, q5, q6, q7⟩ := hS2.out.slot HI0.out)
          go_roundw
          case rel =>
            have hset := hS2.out.setCells (i * 3) [.string s, .int .u64 u, .int .u64 d] (by simp; omega)
            have e3 := flat3_set cur i s u d (by omega)
            simp only [List.length_cons, List.length_nil] at hset
            rw [← e3] at hset
            refine ⟨i + 1, j + 1, cur.set i (s, u, d), by go_num, by go_num, Lib.hid (hD.out.keep HJ.out HP.out), Lib.hid hset, Lib.hid ?_⟩
            exact (((hF.out.alloc _).trans (hF2.mono (by simp))).trans (Fr.setCells g [.string s, .int .u64 u, .int .u64 d] (o + i * 3) w2))
          case measure => simp [intOf]; omega
      · obtain rfl : j = l.length := by omega
        obtain ⟨e1, e2⟩ := hD.out.done
        have hcl := clear3 wr base g o l.length c (l.length - i) (c - i) i cur hS.out hij rfl
        have E1 := Lib.hid e1
        have E2 := Lib.hid e2
        clear e1 e2 HC HI
        go_wp2
        go_ret
        have hset := hS.out.setCells (i * 3) (Builtin.zeroCells #[.string ByteArray.empty, .int .u64 0, .int .u64 0] (l.length - i)).toList (by simp [Builtin.zeroCells]; omega)
        have hcut := hset.cut i (by omega)
        rw [List.append_assoc, List.take_append_of_le_length (by simp [flat3_len]; omega), List.take_take, Nat.min_self, flat3_take, E1.out] at hcut
        refine ⟨.slice (some ⟨g, o, none⟩) i c, rfl, ?_, hF.out.trans (Fr.setCells g _ _ _)⟩
        unfold SN
        rw [← E2.out]
        exact hcut
end Go.Proofs.Ytanbfejhhnhabaa
