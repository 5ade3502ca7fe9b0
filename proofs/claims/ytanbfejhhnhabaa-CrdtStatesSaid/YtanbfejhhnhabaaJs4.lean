/- The package crdt: Below. -/
import Derived.Test.YtanbfejhhnhabaaJs3
/- The package crdt: Value, Below. -/
namespace Go.Proofs.Ytanbfejhhnhabaa
open Go.RowKit Go.Maps Go.Sort
set_option maxRecDepth 100000
set_option linter.unusedVariables false
set_option linter.unusedSimpArgs false
set_option maxHeartbeats 8000000
/-- What Value answers. -/
def valueF (l : List Nd) : Int × Int := if rightL l = true then (valL l, 0) else (0, 230)
theorem cvalue_any (v : Value) (l : List Nd) (w : World) (h : RN w v l) (a : Arg l) :
    Calls Try.prog 24 #[v] w fun e w' => e = .returned (.tuple #[.int .i64 (valueF l).1, .int .i64 (valueF l).2]) ∧ Fr [] w w' := by
  have H := Lib.hid h
  obtain ⟨p, q, e⟩ := h.at_
  subst e
  clear h
  by_cases hr : rightL l = true
  · have hb := right_bnd hr a.pos
    have hl := right_len hr
    have HC := Lib.hid (chkF_ok hr)
    have EV : Hid (valueF l = (valL l, 0)) := Lib.hid (by unfold valueF; rw [if_pos hr])
    clear hr
    go_enter Try.func24, Try.ntmps24
    go_wp2_with (first | ((go_at_call 26); (with_reducible refine (chk _ l _ H.out a).mono ?_); rintro e w1 ⟨rfl, hF1⟩; have hz := HC.out) | ((go_at_call 40); (with_reducible refine (value_any _ l _ (H.out.fr0 hF1) hb hl).mono ?_); rintro e w2 ⟨rfl, hF2⟩))
    go_ret2
    exact ⟨by rw [EV.out]; rfl, hF1.trans hF2⟩
  · have HC := Lib.hid (chkF_no hr)
    have EV : Hid (valueF l = (0, 230)) := Lib.hid (by unfold valueF; rw [if_neg hr])
    clear hr
    go_enter Try.func24, Try.ntmps24
    go_wp2_with ((go_at_call 26); (with_reducible refine (chk _ l _ H.out a).mono ?_); rintro e w1 ⟨rfl, hF1⟩; have hz := HC.out)
    go_ret2
    exact ⟨by rw [EV.out]; rfl, hF1⟩
/-- At which place the first one stands. -/
def idxF (l : List Nd) (p : Nd → Bool) : Int := match l.findIdx? p with | some i => (i : Int) | none => -1
theorem below1_any (pl b n : Nat) (l : List Nd) (s : ByteArray) (u d : Int) (w : World) (h : NM w b n l) (hs : s.size ≤ maxLen) (hp : Blk w pl #[.map (some b)] 68) :
    Calls Try.prog 43 #[ndV s u d, .pointer (some ⟨pl, 0, none⟩)] w fun e w' => e = .returned (.bool (!hasL l (s, u, d))) ∧ Fr [] w w' := by
  have hc := hp.cell
  have hl := hp.lt
  have hnot : ∀ (x : Bool) (w : World), (Op.unary .not (.bool x)).run Try.prog w = .ok (.bool (!x)) w := fun _ _ => rfl
  have hF : Fr [] w (w.alloc (.cells #[.string s, .int .u64 u, .int .u64 d] 33)) := (Fr.refl _ _).alloc _
  go_enter Try.func43, Try.ntmps43
  go_wp2_with ((go_at_call 44); (with_reducible refine (has_any b n l s u d _ (h.fr0 hF) hs).mono ?_); rintro e w1 ⟨rfl, hF1⟩)
  go_ret
  exact ⟨rfl, hF.trans hF1⟩
theorem delta1_any (pl b n : Nat) (l : List Nd) (s : ByteArray) (u d : Int) (w : World) (h : NM w b n l) (hs : s.size ≤ maxLen) (hp : Blk w pl #[.map (some b)] 68) :
    Calls Try.prog 47 #[ndV s u d, .pointer (some ⟨pl, 0, none⟩)] w fun e w' => e = .returned (.bool (hasL l (s, u, d))) ∧ Fr [] w w' := by
  have hc := hp.cell
  have hl := hp.lt
  have hF : Fr [] w (w.alloc (.cells #[.string s, .int .u64 u, .int .u64 d] 33)) := (Fr.refl _ _).alloc _
  go_enter Try.func47, Try.ntmps47
  go_wp2_with ((go_at_call 44); (with_reducible refine (has_any b n l s u d _ (h.fr0 hF) hs).mono ?_); rintro e w1 ⟨rfl, hF1⟩)
  go_ret
  exact ⟨rfl, hF.trans hF1⟩
theorem idx_at {l : List Nd} {p : Nd → Bool} {j : Nat} {x : Nd} (h : l[j]? = some x) (hp : p x = true) (hb : ∀ i, i < j → ∀ a, l[i]? = some a → p a = false) : l.findIdx? p = some j := by
  obtain ⟨hj, he⟩ := List.getElem?_eq_some_iff.1 h
  rw [List.findIdx?_eq_some_iff_getElem]
  refine ⟨hj, by rw [he]; exact hp, fun i hi => ?_⟩
  have := hb i hi l[i] (List.getElem?_eq_getElem (by omega))
  simp [this]
theorem idx_no {l : List Nd} {p : Nd → Bool} (hb : ∀ i, i < l.length → ∀ a, l[i]? = some a → p a = false) : l.findIdx? p = none := by
  rw [List.findIdx?_eq_none_iff]
  intro a ha
  obtain ⟨i, hi, rfl⟩ := List.getElem_of_mem ha
  exact hb i hi _ (List.getElem?_eq_getElem hi)
theorem index_any (F : Nat) (caps : Array Value) (p : Nd → Bool) (v : Value) (l : List Nd) (w : World) (h : RN w v l) (hl : l.length ≤ 9223372036854775806)
    (hE : ∀ (args : Array Value) (W : World), (callFunc F args).run Try.prog W = .ok (.enter F args) W)
    (hC : ∀ a W, a ∈ l → Fr [] w W → Calls Try.prog F (#[ndV a.1 a.2.1 a.2.2] ++ caps) W fun e w' => e = .returned (.bool (p a)) ∧ Fr [] W w') :
    Calls Try.prog 58 #[v, .func (.func F) #[] caps] w fun e w' => e = .returned (.int .i64 (idxF l p)) ∧ Fr [] w w' := by
  have H := Lib.hid h
  have HC := Lib.hid hC
  obtain ⟨pa, pc, e⟩ := h.at_
  subst e
  clear h hC
  go_enter Try.func58, Try.ntmps58
  go_wp2
  go_loopw [8] (fun u wr => ∃ j : Nat, j ≤ l.length ∧ u = .int .i64 j ∧ (∀ i, i < j → ∀ a, l[i]? = some a → p a = false) ∧ Fr [] w wr) (fun u _ => l.length - (intOf u).toNat)
  case atStart => exact ⟨0, by omega, rfl, fun i hi => by omega, Fr.refl _ _⟩
  case round =>
    obtain ⟨j, hj, rfl, hno, hF⟩ := hrel
    have HN := Lib.hid hno
    clear hno
    by_cases hjl : j < l.length
    · obtain ⟨x, hj0⟩ : ∃ a, l[j]? = some a := ⟨_, List.getElem?_eq_getElem hjl⟩
      obtain ⟨g, o, c', he, g1, g2, g3, g4⟩ := (H.out.fr0 hF).cells (by omega)
      simp only [Value.slice.injEq] at he
      obtain ⟨rfl, -, rfl⟩ := he
      have k0 := g4 (j * 3) _ (flat3_get l j _ hj0).1
      have k1 := g4 (j * 3 + 1) _ (flat3_get l j _ hj0).2.1
      have k2 := g4 (j * 3 + 2) _ (flat3_get l j _ hj0).2.2
      rw [← Nat.add_assoc] at k1 k2
      have hm := List.mem_of_getElem? hj0
      have HJ := Lib.hid hj0
      have HF := Lib.hid hF
      clear g4 hj0 hF
      by_cases hp : p x = true
      · have e : idxF l p = j := by unfold idxF; rw [idx_at HJ.out hp HN.out]
        have E := Lib.hid e
        clear e
        go_wp2_with ((with_reducible refine (HC.out x _ hm HF.out).mono ?_); rintro e w1 ⟨rfl, hF1⟩)
        go_ret
        exact ⟨by rw [E.out]; rfl, HF.out.trans hF1⟩
      · have hp' : p x = false := by simpa using hp
        clear hp
        go_wp2_with ((with_reducible refine (HC.out x _ hm HF.out).mono ?_); rintro e w1 ⟨rfl, hF1⟩)
        go_roundw
        case rel =>
          refine ⟨j + 1, by omega, by go_num, fun i hi a ha => ?_, HF.out.trans hF1⟩
          by_cases hij : i < j
          · exact HN.out i hij a ha
          · obtain rfl : i = j := by omega
            rw [HJ.out] at ha
            cases ha
            exact hp'
        case measure => simp [intOf]; omega
    · obtain rfl : j = l.length := by omega
      have e : idxF l p = -1 := by unfold idxF; rw [idx_no HN.out]
      have E := Lib.hid e
      clear e
      go_wp2
      go_ret
      exact ⟨by rw [E.out]; rfl, hF⟩
end Go.Proofs.Ytanbfejhhnhabaa

/- The package crdt: slices.Clone, slices.DeleteFunc on nodes. -/
namespace Go.Proofs.Ytanbfejhhnhabaa
open Go.RowKit Go.Maps Go.Sort
set_option maxRecDepth 100000
set_option linter.unusedVariables false
set_option linter.unusedSimpArgs false
set_option maxHeartbeats 8000000
theorem SV.setCells {w : World} {base size g o n c : Nat} {xs : List Value} (h : SV w base size (.slice (some ⟨g, o, none⟩) n c) n xs) (k : Nat) (news : List Value) (hk : k + news.length ≤ n * size) :
    SV (w.setCells g (o + k) news) base size (.slice (some ⟨g, o, none⟩) n c) n (xs.take k ++ news ++ xs.drop (k + news.length)) := by
  obtain ⟨hlen, h2⟩ := h
  have hl2 : (xs.take k ++ news ++ xs.drop (k + news.length)).length = n * size := by simp; omega
  refine ⟨hl2, ?_⟩
  rcases h2 with ⟨h3, _⟩ | ⟨g', o', c', he, k1, k2, k3, k4, k5, k6, k7⟩
  · cases h3
  · simp only [Value.slice.injEq, Option.some.injEq, Addr.mk.injEq] at he
    obtain ⟨⟨rfl, rfl, -⟩, -, rfl⟩ := he
    have hcs : n * size ≤ c * size := Nat.mul_le_mul_right _ k3
    have hsome : ∀ j, j < news.length → (w.cell? ⟨g, o + k + j, none⟩).isSome = true := fun j hj => by
      rw [show o + k + j = o + (k + j) by omega]; exact k6 _ (by omega)
    refine .inr ⟨g, o, c, rfl, k1, Nat.lt_of_lt_of_le k2 (Fr.setCells g news (o + k) w).size, k3, k4, ?_, ?_, fun j => by rw [World.frozen?_setCells]; exact k7 j⟩
    · intro j u hj
      by_cases hin : k ≤ j ∧ j < k + news.length
      · have := World.cell?_setCells_in g news (o + k) w hsome (j - k) (by omega)
        rw [show o + k + (j - k) = o + j by omega] at this
        rw [this]
        rw [List.append_assoc, List.getElem?_append_right (by simp; omega), List.getElem?_append_left (by simp; omega)] at hj
        simp only [List.length_take] at hj
        rw [show j - min k xs.length = j - k by omega] at hj
        have h9 := (List.getElem?_eq_some_iff.1 hj).2
        rw [h9]
      · rw [World.cell?_setCells_out _ _ _ _ _ (by intro _ _; show o + j < o + k ∨ o + k + news.length ≤ o + j; omega)]
        refine k5 j u ?_
        by_cases hjk : j < k
        · rw [List.append_assoc, List.getElem?_append_left (by simp; omega), List.getElem?_take, if_pos hjk] at hj
          exact hj
        · rw [List.getElem?_append_right (by simp; omega)] at hj
          simp only [List.length_append, List.length_take, List.getElem?_drop] at hj
          rw [show k + news.length + (j - (min k xs.length + news.length)) = j by omega] at hj
          exact hj
    · intro j hj
      by_cases hin : k ≤ j ∧ j < k + news.length
      · have := World.cell?_setCells_in g news (o + k) w hsome (j - k) (by omega)
        rw [show o + k + (j - k) = o + j by omega] at this
        rw [this]; rfl
      · rw [World.cell?_setCells_out _ _ _ _ _ (by intro _ _; show o + j < o + k ∨ o + k + news.length ≤ o + j; omega)]
        exact k6 j hj
theorem SV.cut {w : World} {base size g o n c : Nat} {xs : List Value} (h : SV w base size (.slice (some ⟨g, o, none⟩) n c) n xs) (i : Nat) (hi : i ≤ n) :
    SV w base size (.slice (some ⟨g, o, none⟩) i c) i (xs.take (i * size)) := by
  obtain ⟨hlen, h2⟩ := h
  have := Nat.mul_le_mul_right size hi
  refine ⟨by simp; omega, ?_⟩
  rcases h2 with ⟨h3, _⟩ | ⟨g', o', c', he, k1, k2, k3, k4, k5, k6, k7⟩
  · cases h3
  · simp only [Value.slice.injEq, Option.some.injEq, Addr.mk.injEq] at he
    obtain ⟨⟨rfl, rfl, -⟩, -, rfl⟩ := he
    refine .inr ⟨g, o, c, rfl, k1, k2, by omega, k4, fun j u hj => k5 j u ?_, k6, k7⟩
    rw [List.getElem?_take] at hj
    split at hj
    · exact hj
    · cases hj
theorem flat3_take (l : List Nd) (i : Nat) : (flat3 l).take (i * 3) = flat3 (l.take i) := by
  by_cases h : i ≤ l.length
  · conv => lhs; rw [← List.take_append_drop i l, flat3_app]
    rw [List.take_append_of_le_length (by rw [flat3_len]; simp; omega), List.take_of_length_le (by rw [flat3_len]; simp; omega)]
  · rw [List.take_of_length_le (by rw [flat3_len]; omega), List.take_of_length_le (by omega)]
theorem flat3_drop (l : List Nd) (i : Nat) : (flat3 l).drop (i * 3) = flat3 (l.drop i) := by
  have h1 : flat3 l = flat3 (l.take i) ++ flat3 (l.drop i) := by rw [← flat3_app, List.take_append_drop]
  have h2 := flat3_take l i
  have h3 := List.take_append_drop (i * 3) (flat3 l)
  rw [h2] at h3
  exact List.append_cancel_left (h3.trans h1)
theorem flat3_set (l : List Nd) (i : Nat) (s : ByteArray) (u d : Int) (h : i < l.length) :
    flat3 (l.set i (s, u, d)) = (flat3 l).take (i * 3) ++ [.string s, .int .u64 u, .int .u64 d] ++ (flat3 l).drop (i * 3 + 3) := by
  rw [List.set_eq_take_append_cons_drop, if_pos h, show i * 3 + 3 = (i + 1) * 3 by omega, flat3_take, flat3_drop, flat3_app]
  simp [flat3]
theorem SV.slot {w : World} {base g o n c i : Nat} {cur : List Nd} {s : ByteArray} {u d : Int} (h : SV w base 3 (.slice (some ⟨g, o, none⟩) n c) n (flat3 cur)) (hi : cur[i]? = some (s, u, d)) :
    w.cell? ⟨g, o + i * 3, none⟩ = some (.string s) ∧ w.cell? ⟨g, o + i * 3 + 1, none⟩ = some (.int .u64 u) ∧ w.cell? ⟨g, o + i * 3 + 2, none⟩ = some (.int .u64 d) ∧ (∀ j, w.frozen? ⟨g, j, none⟩ = false) ∧ base ≤ g ∧ g < w.heap.size ∧ n ≤ c ∧ c ≤ maxLen := by
  obtain ⟨hlen, h2⟩ := h
  rcases h2 with ⟨h3, _⟩ | ⟨g', o', c', he, k1, k2, k3, k4, k5, k6, k7⟩
  · cases h3
  · simp only [Value.slice.injEq, Option.some.injEq, Addr.mk.injEq] at he
    obtain ⟨⟨rfl, rfl, -⟩, -, rfl⟩ := he
    have e0 := k5 (i * 3) _ (flat3_get cur i _ hi).1
    have e1 := k5 (i * 3 + 1) _ (flat3_get cur i _ hi).2.1
    have e2 := k5 (i * 3 + 2) _ (flat3_get cur i _ hi).2.2
    rw [← Nat.add_assoc] at e1 e2
    exact ⟨e0, e1, e2, k7, k1, k2, k3, k4⟩
/-- The loop's relation. -/
structure DI (p : Nd → Bool) (l : List Nd) (j i : Nat) (cur : List Nd) : Prop where
  len : cur.length = l.length
  ij : i < j
  jn : j ≤ l.length
  kept : ((l.take j).filter (fun x => !p x)).length = i
  low : ∀ m, m < i → cur[m]? = ((l.take j).filter (fun x => !p x))[m]?
  high : ∀ m, j ≤ m → cur[m]? = l[m]?
theorem DI.start {p : Nd → Bool} {l : List Nd} {k : Nat} (h : l.findIdx? p = some k) : DI p l (k + 1) k l := by
  rw [List.findIdx?_eq_some_iff_getElem] at h
  obtain ⟨hk, hp, hn⟩ := h
  have e1 : (l.take k).filter (fun x => !p x) = l.take k := by
    rw [List.filter_eq_self]
    intro a ha
    obtain ⟨i, hi, rfl⟩ := List.getElem_of_mem ha
    have hi2 : i < k := by simp at hi; omega
    have := hn i hi2
    simpa using this
  have e2 : (l.take (k + 1)).filter (fun x => !p x) = l.take k := by
    rw [take_snoc (List.getElem?_eq_getElem hk), List.filter_append, e1]
    simp [hp]
  refine ⟨rfl, by omega, by omega, by rw [e2]; simp; omega, fun m hm => ?_, fun _ _ => rfl⟩
  rw [e2, List.getElem?_take, if_pos hm]
theorem DI.keep {p : Nd → Bool} {l cur : List Nd} {j i : Nat} {x : Nd} (h : DI p l j i cur) (hx : l[j]? = some x) (hp : p x = false) : DI p l (j + 1) (i + 1) (cur.set i x) := by
  have hj := (List.getElem?_eq_some_iff.1 hx).1
  have hij := h.ij
  have e : (l.take (j + 1)).filter (fun x => !p x) = (l.take j).filter (fun x => !p x) ++ [x] := by
    rw [take_snoc hx, List.filter_append]; simp [hp]
  refine ⟨by simpa using h.len, by omega, by omega, by rw [e]; simp [h.kept], fun m hm => ?_, fun m hm => ?_⟩
  · rw [e]
    by_cases hmi : m = i
    · subst hmi
      rw [List.getElem?_append_right (by rw [h.kept]; omega), h.kept, List.getElem?_set_self (by rw [h.len]; omega)]
      simp
    · rw [List.getElem?_set_ne (by omega), List.getElem?_append_left (by rw [h.kept]; omega)]
      exact h.low m (by omega)
  · rw [List.getElem?_set_ne (by omega)]
    exact h.high m (by omega)
theorem DI.skip {p : Nd → Bool} {l cur : List Nd} {j i : Nat} {x : Nd} (h : DI p l j i cur) (hx : l[j]? = some x) (hp : p x = true) : DI p l (j + 1) i cur := by
  have hj := (List.getElem?_eq_some_iff.1 hx).1
  have hij := h.ij
  have e : (l.take (j + 1)).filter (fun x => !p x) = (l.take j).filter (fun x => !p x) := by
    rw [take_snoc hx, List.filter_append]; simp [hp]
  exact ⟨h.len, by omega, by omega, by rw [e]; exact h.kept, by rw [e]; exact h.low, fun m hm => h.high m (by omega)⟩
theorem DI.done {p : Nd → Bool} {l cur : List Nd} {i : Nat} (h : DI p l l.length i cur) : cur.take i = l.filter (fun x => !p x) ∧ i = (l.filter (fun x => !p x)).length := by
  have hk := h.kept
  have hlo := h.low
  have hij := h.ij
  have hl := h.len
  rw [List.take_length] at hk hlo
  refine ⟨List.ext_getElem? fun m => ?_, hk.symm⟩
  by_cases hm : m < i
  · rw [List.getElem?_take, if_pos hm, hlo m hm]
  · rw [List.getElem?_eq_none (by simp; omega), List.getElem?_eq_none (by omega)]
theorem clear3 (w : World) (base g o n c m c' k : Nat) (cur : List Nd) (h : SV w base 3 (.slice (some ⟨g, o, none⟩) n c) n (flat3 cur)) (hk : k < n) (hm : m = n - k) :
    ∀ ty, (Builtin.clear_ #[28] ty #[.slice (some ⟨g, o + k * 3, none⟩) m c']).run Try.prog w = .ok (.tuple #[]) (w.setCells g (o + k * 3) (Builtin.zeroCells #[.string ByteArray.empty, .int .u64 0, .int .u64 0] m).toList) := by
  intro ty
  obtain ⟨hlen, h2⟩ := h
  rcases h2 with ⟨h3, _⟩ | ⟨g', o', c'', he, k1, k2, k3, k4, k5, k6, k7⟩
  · cases h3
  · simp only [Value.slice.injEq, Option.some.injEq, Addr.mk.injEq] at he
    obtain ⟨⟨rfl, rfl, -⟩, -, rfl⟩ := he
    have hsz : (Builtin.zeroCells #[Value.string ByteArray.empty, .int .u64 0, .int .u64 0] m).toList.length = m * 3 := by simp [Builtin.zeroCells]
    have hst := run_storeCells_cells (P := Try.prog) g (o + k * 3) (Builtin.zeroCells #[Value.string ByteArray.empty, .int .u64 0, .int .u64 0] m).toList 0 w
      (fun j hj => by rw [hsz] at hj; rw [show o + k * 3 + 0 + j = o + (k * 3 + j) by omega]; exact k6 _ (by omega)) (fun j _ => k7 _) (by
        intro v hv
        simp [Builtin.zeroCells] at hv
        obtain ⟨i, hi, rfl⟩ := hv
        have : i % 3 < 3 := Nat.mod_lt _ (by omega)
        rcases (by omega : i % 3 = 0 ∨ i % 3 = 1 ∨ i % 3 = 2) with e | e | e <;> rw [e] <;> rfl)
    simp only [Nat.add_zero] at hst
    obtain ⟨q, rfl⟩ : ∃ q, m = q + 1 := ⟨m - 1, by omega⟩
    have hz := mzero w
    simp [Builtin.clear_, run_underlying Try.underlying28, hz, hst, Value.cells]
theorem SV.empty {w : World} {g base size : Nat} {t : TypeId} (h : Blk w g #[] t) (hb : base ≤ g) : SV w base size (.slice (some ⟨g, 0, none⟩) 0 0) 0 [] :=
  ⟨by simp, .inr ⟨g, 0, 0, rfl, hb, h.lt, by omega, by decide, by simp, by simp, fun j => h.free j⟩⟩
theorem clone_any (v : Value) (l : List Nd) (w : World) (h : RN w v l) (hn : l.length ≤ 4096) :
    Calls Try.prog 46 #[v] w fun e w' => ∃ v', e = .returned v' ∧ SN w' w.heap.size v' l ∧ Fr [] w w' := by
  have hnil : ∀ (W : World) (a : Option Addr) (n c : Nat), (binOp .eql 28 (.slice a n c) (.slice none 0 0)).run Try.prog W = .ok (.bool a.isNone) W := fun W a n c => Lib.run_eql_slice_nil W _ _ a n c 0 0 Try.underlying28
  rcases h.2 with ⟨Ay, cy, rfl, h0, hcy, hAy⟩ | ⟨g, o, c, rfl, g2, g3, g4, g5⟩
  · have hl : l = [] := List.length_eq_zero_iff.1 h0
    subst hl
    rcases Ay with _ | ad
    case some =>
      obtain ⟨i0, hi0, hz0, hz1, hz2⟩ := info_parts infoN
      go_enter Try.func46, Try.ntmps46
      go_wp2_with (at_builtin; (refine wpList_append_sv _ rfl _ _ 28 rfl 33 i0 (ndV ByteArray.empty 0 0) 3 32 Try.underlying28 hi0 hz0 hz1 hz2 rfl (by decide) w.heap.size _ 0 [] rfl (SV.empty (Blk.new _ _ _) (Nat.le_refl _)) ?_ ad 0 cy [] rfl rfl (by intro j u hj; simp at hj) (by simp) ?_ ?_ ?_); (focus (simp)); (focus (unfold maxLen; omega)); (focus omega); intro v4 w4 hS4 hF4)
      go_ret
      simp only [Nat.zero_add, List.nil_append] at hS4
      refine ⟨_, rfl, hS4, ?_⟩
      have hF5 : Fr (Value.slice (some ⟨w.heap.size, 0, none⟩) 0 0).ownBlock.toList (w.alloc (.cells #[] 33)) w4 := hF4
      exact (((Fr.refl [] w).alloc _).mono (by simp)).trans hF5 |>.weaken (by intro z hz; right; simp [Value.ownBlock] at hz; omega)
    obtain rfl := hAy rfl
    go_enter Try.func46, Try.ntmps46
    go_wp2
    go_ret
    exact ⟨_, rfl, SV.nil _ _ _, Fr.refl _ _⟩
  · obtain ⟨i0, hi0, hz0, hz1, hz2⟩ := info_parts infoN
    have hg5 : ∀ j u, (flat3 l)[j]? = some u → (w.alloc (.cells #[] 33)).cell? ((⟨g, o, none⟩ : Addr).add j) = some u := fun j u hj => by
      have e : (⟨g, o, none⟩ : Addr).add j = ⟨g, o + j, none⟩ := by unfold Addr.add; split <;> simp_all
      rw [e, World.cell?_of_block (a := ⟨g, o + j, none⟩) (Below.heap_alloc w _ g g2)]
      exact g5 j u hj
    go_enter Try.func46, Try.ntmps46
    go_wp2_with (at_builtin; (refine wpList_append_sv _ rfl _ _ 28 rfl 33 i0 (ndV ByteArray.empty 0 0) 3 32 Try.underlying28 hi0 hz0 hz1 hz2 rfl (by decide) w.heap.size _ 0 [] rfl (SV.empty (Blk.new _ _ _) (Nat.le_refl _)) ?_ ⟨g, o, none⟩ l.length c (flat3 l) rfl (flat3_len l) hg5 (flat3_one l) ?_ ?_ ?_); (focus (simp)); (focus (unfold maxLen; omega)); (focus omega); intro v4 w4 hS4 hF4)
    go_ret
    simp only [Nat.zero_add, List.nil_append] at hS4
    refine ⟨_, rfl, hS4, ?_⟩
    have hF5 : Fr (Value.slice (some ⟨w.heap.size, 0, none⟩) 0 0).ownBlock.toList (w.alloc (.cells #[] 33)) w4 := hF4
    exact (((Fr.refl [] w).alloc _).mono (by simp)).trans hF5 |>.weaken (by intro z hz; right; simp [Value.ownBlock] at hz; omega)
theorem delete_any (F : Nat) (caps : Array Value) (p : Nd → Bool) (base : Nat) (v : Value) (l : List Nd) (w : World) (h : SN w base v l) (hl : l.length ≤ 4096)
    (hE : ∀ (args : Array Value) (W : World), (callFunc F args).run Try.prog W = .ok (.enter F args) W)
    (hC : ∀ a W, a ∈ l → Fr v.ownBlock.toList w W → Calls Try.prog F (#[ndV a.1 a.2.1 a.2.2] ++ caps) W fun e w' => e = .returned (.bool (p a)) ∧ Fr [] W w') :
    Calls Try.prog 45 #[v, .func (.func F) #[] caps] w fun e w' => ∃ v', e = .returned v' ∧ SN w' base v' (l.filter (fun x => !p x)) ∧ Fr v.ownBlock.toList w w' := by
  have hI := index_any F caps p v l w h.rd (by omega) hE (fun a W ha hF => hC a W ha (hF.mono (by simp)))
  cases hf : l.findIdx? p with
  | none =>
    have e : idxF l p = -1 := by unfold idxF; rw [hf]
    rw [e] at hI
    have ef : l.filter (fun x => !p x) = l := by
      rw [List.findIdx?_eq_none_iff] at hf
      rw [List.filter_eq_self]
      intro a ha
      simp [hf a ha]
    rw [ef]
    have HI := Lib.hid hI
    have H := Lib.hid h
    clear h hI hC hE ef hf e
    go_enter Try.func45, Try.ntmps45
    go_wp2_with ((go_at_call 58); (with_reducible refine HI.out.mono ?_); rintro e w1 ⟨rfl, hF1⟩)
    go_ret
    exact ⟨_, rfl, H.out.fr0 hF1, hF1.mono (by simp)⟩
  | some k0 =>
    have e : idxF l p = k0 := by unfold idxF; rw [hf]
    rw [e] at hI
    have hst := DI.start hf
    have hk0 : k0 < l.length := hst.jn
    obtain ⟨g, o, c, rfl, g1, g2, g3, g4, -⟩ := h.cells (by omega)
    have HI := Lib.hid hI
    have H := Lib.hid h
    have HC := Lib.hid hC
    have HST := Lib.hid hst
    clear h hI hC hf e hst
    have hn1 : ((k0 : Int) == -1) = false := beq_eq_false_iff_ne.2 (by omega)
    go_enter Try.func45, Try.ntmps45
    go_wp2_with ((go_at_call 58); (with_reducible refine HI.out.mono ?_); rintro e w1 ⟨rfl, hF1⟩)
    have HF1 := Lib.hid hF1
    clear hF1
    go_loopw [5, 6] (fun x u wr => ∃ (i j : Nat) (cur : List Nd), x = .int .i64 i ∧ u = .int .i64 j ∧ Hid (DI p l j i cur) ∧ Hid (SV wr base 3 (.slice (some ⟨g, o, none⟩) l.length c) l.length (flat3 cur)) ∧ Hid (Fr [g] w wr)) (fun _ u _ => l.length - (intOf u).toNat)
    case atStart => exact ⟨k0, k0 + 1, l, rfl, by go_num, HST, Lib.hid (H.out.fr0 HF1.out), Lib.hid (HF1.out.mono (by simp))⟩
    case round =>
      obtain ⟨i, j, cur, rfl, rfl, hD, hS, hF⟩ := hrel
      have hij := hD.out.ij
      have hjn := hD.out.jn
      have hcl := hD.out.len
      by_cases hjl : j < l.length
      · obtain ⟨⟨s, u, d⟩, hj0⟩ : ∃ a, l[j]? = some a := ⟨_, List.getElem?_eq_getElem hjl⟩
        have HJ := Lib.hid hj0
        obtain ⟨k0, k1, k2, -⟩ := hS.out.slot ((hD.out.high j (Nat.le_refl _)).trans hj0)
        obtain ⟨⟨s', u', d'⟩, hi0⟩ : ∃ a, cur[i]? = some a := ⟨_, List.getElem?_eq_getElem (by omega)⟩
        have HI0 := Lib.hid hi0
        have hm := List.mem_of_getElem? hj0
        clear hj0 hi0 HI HST
        cases hp : p (s, u, d) with
        | true =>
          have HP := Lib.hid hp
          have hcall := HC.out (s, u, d) (wr.alloc (.cells #[.string s, .int .u64 u, .int .u64 d] 33)) hm (hF.out.alloc _)
          rw [hp] at hcall
          have HCC := Lib.hid hcall
          clear hcall hp HC
          go_wp2_with ((with_reducible refine HCC.out.mono ?_); rintro e w2 ⟨rfl, hF2⟩)
          go_roundw
          case rel => exact ⟨i, j + 1, cur, rfl, by go_num, Lib.hid (hD.out.skip HJ.out HP.out), Lib.hid (hS.out.fr0 (((Fr.refl [] wr).alloc _).trans hF2)), Lib.hid ((hF.out.alloc _).trans (hF2.mono (by simp)))⟩
          case measure => simp [intOf]; omega
        | false =>
          have HP := Lib.hid hp
          have hcall := HC.out (s, u, d) (wr.alloc (.cells #[.string s, .int .u64 u, .int .u64 d] 33)) hm (hF.out.alloc _)
          rw [hp] at hcall
          have HCC := Lib.hid hcall
          clear hcall hp HC
          go_wp2_with ((with_reducible refine HCC.out.mono ?_); rintro e w2 ⟨rfl, hF2⟩; have hb2 := hF2.blk (Blk.new wr #[.string s, .int .u64 u, .int .u64 d] 33) (by simp); have hbc2 := hb2.cell; have hbl2 := hb2.lt; have hS2 := Lib.hid (hS.out.fr0 (((Fr.refl [] wr).alloc _).trans hF2)); obtain ⟨q0, q1, q2, q3, q4, q5, q6, q7⟩ := hS2.out.slot HI0.out)
          go_roundw
          case rel =>
            have hset := hS2.out.setCells (i * 3) [.string s, .int .u64 u, .int .u64 d] (by simp; omega)
            have e3 := flat3_set cur i s u d (by omega)
            simp only [List.length_cons, List.length_nil] at hset
            rw [← e3] at hset
            refine ⟨i + 1, j + 1, cur.set i (s, u, d), by go_num, by go_num, Lib.hid (hD.out.keep HJ.out HP.out), Lib.hid hset, Lib.hid ?_⟩
            exact (((hF.out.alloc _).trans (hF2.mono (by simp))).trans (Fr.setCells g [.string s, .int .u64 u, .int .u64 d] (o + i * 3) w2))
          case measure => simp [intOf]; omega
      · obtain rfl : j = l.length := by omega
        obtain ⟨e1, e2⟩ := hD.out.done
        have hcl := clear3 wr base g o l.length c (l.length - i) (c - i) i cur hS.out hij rfl
        have E1 := Lib.hid e1
        have E2 := Lib.hid e2
        clear e1 e2 HC HI
        go_wp2
        go_ret
        have hset := hS.out.setCells (i * 3) (Builtin.zeroCells #[.string ByteArray.empty, .int .u64 0, .int .u64 0] (l.length - i)).toList (by simp [Builtin.zeroCells]; omega)
        have hcut := hset.cut i (by omega)
        rw [List.append_assoc, List.take_append_of_le_length (by simp [flat3_len]; omega), List.take_take, Nat.min_self, flat3_take, E1.out] at hcut
        refine ⟨.slice (some ⟨g, o, none⟩) i c, rfl, ?_, hF.out.trans (Fr.setCells g _ _ _)⟩
        unfold SN
        rw [← E2.out]
        exact hcut
end Go.Proofs.Ytanbfejhhnhabaa

namespace Go.Proofs.Ytanbfejhhnhabaa
open Go.RowKit Go.Maps Go.Sort
set_option maxRecDepth 100000
set_option linter.unusedVariables false
set_option linter.unusedSimpArgs false
set_option maxHeartbeats 8000000
theorem contains_any (F : Nat) (caps : Array Value) (p : Nd → Bool) (v : Value) (l : List Nd) (w : World) (h : RN w v l) (hl : l.length ≤ 9223372036854775806)
    (hE : ∀ (args : Array Value) (W : World), (callFunc F args).run Try.prog W = .ok (.enter F args) W)
    (hC : ∀ a W, a ∈ l → Fr [] w W → Calls Try.prog F (#[ndV a.1 a.2.1 a.2.2] ++ caps) W fun e w' => e = .returned (.bool (p a)) ∧ Fr [] W w') :
    Calls Try.prog 42 #[v, .func (.func F) #[] caps] w fun e w' => e = .returned (.bool (decide (0 ≤ idxF l p))) ∧ Fr [] w w' := by
  have HI := Lib.hid (index_any F caps p v l w h hl hE hC)
  clear hC h hE
  go_enter Try.func42, Try.ntmps42
  go_wp2_with ((go_at_call 58); (with_reducible refine HI.out.mono ?_); rintro e w1 ⟨rfl, hF1⟩)
  go_ret
  exact ⟨rfl, hF1⟩
/-- What Below answers. -/
def belowF (a b : List Nd) : Bool × Int := if rightL a = true ∧ rightL b = true then (a.all (hasL b), 0) else (false, 230)
theorem all_idx (a : List Nd) (p : Nd → Bool) : a.all p = !decide (0 ≤ idxF a (fun x => !p x)) := by
  unfold idxF
  cases h : a.findIdx? (fun x => !p x) with
  | none =>
    rw [List.findIdx?_eq_none_iff] at h
    simp
    intro x s t hx
    simpa using h (x, s, t) hx
  | some i =>
    obtain ⟨hi, h1, _⟩ := List.findIdx?_eq_some_iff_getElem.1 h
    have : a.all p = false := by
      rw [List.all_eq_false]
      exact ⟨a[i], List.getElem_mem hi, by simpa using h1⟩
    rw [this]
    simp
theorem below_any (v1 v2 : Value) (l1 l2 : List Nd) (w : World) (h1 : RN w v1 l1) (h2 : RN w v2 l2) (a1 : Arg l1) (a2 : Arg l2) :
    Calls Try.prog 21 #[v1, v2] w fun e w' => e = .returned (.tuple #[.bool (belowF l1 l2).1, .int .i64 (belowF l1 l2).2]) ∧ Fr [] w w' := by
  have H1 := Lib.hid h1
  have H2 := Lib.hid h2
  have HA1 := Lib.hid a1
  have HA2 := Lib.hid a2
  obtain ⟨p1, q1, e1⟩ := h1.at_
  obtain ⟨p2, q2, e2⟩ := h2.at_
  subst e1 e2
  clear h1 h2 a1 a2
  have hB := Blk.new w #[.slice p1 l1.length q1, .slice p2 l2.length q2] 28
  have hF0 : Fr [] w (w.alloc (.cells #[.slice p1 l1.length q1, .slice p2 l2.length q2] 28)) := (Fr.refl _ _).alloc _
  have HB := Lib.hid hB
  clear hB
  by_cases hr : rightL l1 = true ∧ rightL l2 = true
  · obtain ⟨hr1, hr2⟩ := hr
    have hg2 := right_good hr2
    have hg1 := right_good hr1
    have hn1 := right_len hr1
    have hn2 := right_len hr2
    have ec : chk2 l1 l2 = 0 := by unfold chk2; rw [if_pos hr1]; exact chkF_ok hr2
    have em : belowF l1 l2 = (!decide (0 ≤ idxF l1 (fun x => !hasL l2 x)), 0) := by unfold belowF; rw [if_pos ⟨hr1, hr2⟩, all_idx]
    have EC := Lib.hid ec
    have EM := Lib.hid em
    have HG1 := Lib.hid hg1
    have HG2 := Lib.hid hg2
    have hnot : ∀ (x : Bool) (w : World), (Op.unary .not (.bool x)).run Try.prog w = .ok (.bool (!x)) w := fun _ _ => rfl
    obtain ⟨ix, hix⟩ : ∃ i, i = idxF l1 (fun x => !hasL l2 x) := ⟨_, rfl⟩
    have HIX := Lib.hid hix
    clear ec em hg1 hg2 hr1 hr2 hix
    go_enter Try.func21, Try.ntmps21
    go_wp2_with (first | ((go_at_call 41); (with_reducible refine (checked_any w.heap.size _ _ l1 l2 _ HB.out (H1.out.fr0 hF0) (H2.out.fr0 hF0) HA1.out HA2.out).mono ?_); rintro e w1 ⟨rfl, hF1⟩; have hz := EC.out) | ((go_at_call 38); (with_reducible refine (nodes_any _ l2 _ (H2.out.fr0 (hF0.trans hF1)) HG2.out ?_).mono ?_); (focus (unfold maxLen; omega)); rintro e w2 ⟨b, rfl, hM, hb, hF2⟩))
    have HF2 := Lib.hid (((hF0.trans hF1).trans hF2).alloc (.cells #[.map (some b)] 68))
    have HM := Lib.hid (hM.fr0 ((Fr.refl [] w2).alloc (.cells #[.map (some b)] 68)))
    have hP := Blk.new w2 #[.map (some b)] 68
    have HP := Lib.hid hP
    clear hz hF0 hF1 hF2 hM hP
    go_wp2_with fail
    go_at_call 42
    refine (contains_any 43 #[.pointer (some ⟨w2.heap.size, 0, none⟩)] (fun x => !hasL l2 x) _ l1 _ (H1.out.fr0 HF2.out) (by omega) (fun _ _ => by kernel_rfl) ?_).mono ?_
    · intro a W ha hW
      exact below1_any w2.heap.size b _ l2 a.1 a.2.1 a.2.2 W (HM.out.fr0 hW) (by have := HG1.out.sz a ha; unfold maxLen; omega) (hW.blk HP.out (by simp))
    rintro e w3 ⟨rfl, hF3⟩
    rw [← HIX.out]
    go_wp2
    go_ret2
    exact ⟨by rw [EM.out, ← HIX.out]; rfl, HF2.out.trans hF3⟩
  · have em : belowF l1 l2 = (false, 230) := by unfold belowF; rw [if_neg hr]
    have ec : chk2 l1 l2 = 230 := by
      unfold chk2
      by_cases h1 : rightL l1 = true
      · rw [if_pos h1]; exact chkF_no (fun h2 => hr ⟨h1, h2⟩)
      · rw [if_neg h1]
    have EC := Lib.hid ec
    have EM := Lib.hid em
    clear ec em hr
    go_enter Try.func21, Try.ntmps21
    go_wp2_with ((go_at_call 41); (with_reducible refine (checked_any w.heap.size _ _ l1 l2 _ HB.out (H1.out.fr0 hF0) (H2.out.fr0 hF0) HA1.out HA2.out).mono ?_); rintro e w1 ⟨rfl, hF1⟩; have hz := EC.out)
    go_ret2
    exact ⟨by rw [EM.out]; rfl, hF0.trans hF1⟩
end Go.Proofs.Ytanbfejhhnhabaa
