/- The package crdt: Value, Below. -/
import Derived.Test.YtanbfejhhnhabaaMe
namespace Go.Proofs.Ytanbfejhhnhabaa
open Go.RowKit Go.Maps Go.Sort
set_option maxRecDepth 100000
set_option linter.unusedVariables false
set_option linter.unusedSimpArgs false
set_option maxHeartbeats 8000000
/-- What Value answers. -/
def valueF (l : List Nd) : Int × Int := if rightL l = true then (valL l, 0) else (0, 230)
theorem cvalue_any (v : Value) (l : List Nd) (w : World) (h : RN w v l) (a : Arg l) :
    Calls Try.prog 24 #[v] w fun e w' => e = .returned (.tuple #[.int .i64 (valueF l).1, .int .i64 (valueF l).2]) ∧ Fr [] w w' := by
  have H := Lib.hid h
  obtain ⟨p, q, e⟩ := h.at_
  subst e
  clear h
  by_cases hr : rightL l = true
  · have hb := right_bnd hr a.pos
    have hl := right_len hr
    have HC := Lib.hid (chkF_ok hr)
    have EV : Hid (valueF l = (valL l, 0)) := Lib.hid (by unfold valueF; rw [if_pos hr])
    clear hr
    go_enter Try.func24, Try.ntmps24
    go_wp2_with (first | ((go_at_call 26); (with_reducible refine (chk _ l _ H.out a).mono ?_); rintro e w1 ⟨rfl, hF1⟩; have hz := HC.out) | ((go_at_call 40); (with_reducible refine (value_any _ l _ (H.out.fr0 hF1) hb hl).mono ?_); rintro e w2 ⟨rfl, hF2⟩))
    go_ret2
    exact ⟨by rw [EV.out]; rfl, hF1.trans hF2⟩
  · have HC := Lib.hid (chkF_no hr)
    have EV : Hid (valueF l = (0, 230)) := Lib.hid (by unfold valueF; rw [if_neg hr])
    clear hr
    go_enter Try.func24, Try.ntmps24
    go_wp2_with ((go_at_call 26); (with_reducible refine (chk _ l _ H.out a).mono ?_); rintro e w1 ⟨rfl, hF1⟩; have hz := HC.out)
    go_ret2
    exact ⟨by rw [EV.out]; rfl, hF1⟩
/-- At which place the first one stands. -/
def idxF (l : List Nd) (p : Nd → Bool) : Int := match l.findIdx? p with | some i => (i : Int) | none => -1
theorem below1_any (pl b n : Nat) (l : List Nd) (s : ByteArray) (u d : Int) (w : World) (h : NM w b n l) (hs : s.size ≤ maxLen) (hp : Blk w pl #[.map (some b)] 68) :
    Calls Try.prog 43 #[ndV s u d, .pointer (some ⟨pl, 0, none⟩)] w fun e w' => e = .returned (.bool (!hasL l (s, u, d))) ∧ Fr [] w w' := by
  have hc := hp.cell
  have hl := hp.lt
  have hnot : ∀ (x : Bool) (w : World), (Op.unary .not (.bool x)).run Try.prog w = .ok (.bool (!x)) w := fun _ _ => rfl
  have hF : Fr [] w (w.alloc (.cells #[.string s, .int .u64 u, .int .u64 d] 33)) := (Fr.refl _ _).alloc _
  go_enter Try.func43, Try.ntmps43
  go_wp2_with ((go_at_call 44); (with_reducible refine (has_any b n l s u d _ (h.fr0 hF) hs).mono ?_); rintro e w1 ⟨rfl, hF1⟩)
  go_ret
  exact ⟨rfl, hF.trans hF1⟩
theorem delta1_any (pl b n : Nat) (l : List Nd) (s : ByteArray) (u d : Int) (w : World) (h : NM w b n l) (hs : s.size ≤ maxLen) (hp : Blk w pl #[.map (some b)] 68) :
    Calls Try.prog 47 #[ndV s u d, .pointer (some ⟨pl, 0, none⟩)] w fun e w' => e = .returned (.bool (hasL l (s, u, d))) ∧ Fr [] w w' := by
  have hc := hp.cell
  have hl := hp.lt
  have hF : Fr [] w (w.alloc (.cells #[.string s, .int .u64 u, .int .u64 d] 33)) := (Fr.refl _ _).alloc _
  go_enter Try.func47, Try.ntmps47
  go_wp2_with ((go_at_call 44); (with_reducible refine (has_any b n l s u d _ (h.fr0 hF) hs).mono ?_); rintro e w1 ⟨rfl, hF1⟩)
  go_ret
  exact ⟨rfl, hF.trans hF1⟩
theorem idx_at {l : List Nd} {p : Nd → Bool} {j : Nat} {x : Nd} (h : l[j]? = some x) (hp : p x = true) (hb : ∀ i, i < j → ∀ a, l[i]? = some a → p a = false) : l.findIdx? p = some j := by
  obtain ⟨hj, he⟩ := List.getElem?_eq_some_iff.1 h
  rw [List.findIdx?_eq_some_iff_getElem]
  refine ⟨hj, by rw [he]; exact hp, fun i hi => ?_⟩
  have := hb i hi l[i] (List.getElem?_eq_getElem (by omega))
  simp [this]
theorem idx_no {l : List Nd} {p : Nd → Bool} (hb : ∀ i, i < l.length → ∀ a, l[i]? = some a → p a = false) : l.findIdx? p = none := by
  rw [List.findIdx?_eq_none_iff]
  intro a ha
  obtain ⟨i, hi, rfl⟩ := List.getElem_of_mem ha
  exact hb i hi _ (List.getElem?_eq_getElem hi)
theorem index_any (F : Nat) (caps : Array Value) (p : Nd → Bool) (v : Value) (l : List Nd) (w : World) (h : RN w v l) (hl : l.length ≤ 9223372036854775806)
    (hE : ∀ (args : Array Value) (W : World), (callFunc F args).run Try.prog W = .ok (.enter F args) W)
    (hC : ∀ a W, a ∈ l → Fr [] w W → Calls Try.prog F (#[ndV a.1 a.2.1 a.2.2] ++ caps) W fun e w' => e = .returned (.bool (p a)) ∧ Fr [] W w') :
    Calls Try.prog 58 #[v, .func (.func F) #[] caps] w fun e w' => e = .returned (.int .i64 (idxF l p)) ∧ Fr [] w w' := by
  have H := Lib.hid h
  have HC := Lib.hid hC
  obtain ⟨pa, pc, e⟩ := h.at_
  subst e
  clear h hC
  go_enter Try.func58, Try.ntmps58
  go_wp2
  go_loopw [8] (fun u wr => ∃ j : Nat, j ≤ l.length ∧ u = .int .i64 j ∧ (∀ i, i < j → ∀ a, l[i]? = some a → p a = false) ∧ Fr [] w wr) (fun u _ => l.length - (intOf u).toNat)
  case atStart => exact ⟨0, by omega, rfl, fun i hi => by omega, Fr.refl _ _⟩
  case round =>
    obtain ⟨j, hj, rfl, hno, hF⟩ := hrel
    have HN := Lib.hid hno
    clear hno
    by_cases hjl : j < l.length
    · obtain ⟨x, hj0⟩ : ∃ a, l[j]? = some a := ⟨_, List.getElem?_eq_getElem hjl⟩
      obtain ⟨g, o, c', he, g1, g2, g3, g4⟩ := (H.out.fr0 hF).cells (by omega)
      simp only [Value.slice.injEq] at he
      obtain ⟨rfl, -, rfl⟩ := he
      have k0 := g4 (j * 3) _ (flat3_get l j _ hj0).1
      have k1 := g4 (j * 3 + 1) _ (flat3_get l j _ hj0).2.1
      have k2 := g4 (j * 3 + 2) _ (flat3_get l j _ hj0).2.2
      rw [← Nat.add_assoc] at k1 k2
      have hm := List.mem_of_getElem? hj0
      have HJ := Lib.hid hj0
      have HF := Lib.hid hF
      clear g4 hj0 hF
      by_cases hp : p x = true
      · have e : idxF l p = j := by unfold idxF; rw [idx_at HJ.out hp HN.out]
        have E := Lib.hid e
        clear e
        go_wp2_with ((with_reducible refine (HC.out x _ hm HF.out).mono ?_); rintro e w1 ⟨rfl, hF1⟩)
        go_ret
        exact ⟨by rw [E.out]; rfl, HF.out.trans hF1⟩
      · have hp' : p x = false := by simpa using hp
        clear hp
        go_wp2_with ((with_reducible refine (HC.out x _ hm HF.out).mono ?_); rintro e w1 ⟨rfl, hF1⟩)
        go_roundw
        case rel =>
          refine ⟨j + 1, by omega, by go_num, fun i hi a ha => ?_, HF.out.trans hF1⟩
          by_cases hij : i < j
          · exact HN.out i hij a ha
          · obtain rfl : i = j := by omega
            rw [HJ.out] at ha
            cases ha
            exact hp'
        case measure => simp [intOf]; omega
    · obtain rfl : j = l.length := by omega
      have e : idxF l p = -1 := by unfold idxF; rw [idx_no HN.out]
      have E := Lib.hid e
      clear e
      go_wp2
      go_ret
      exact ⟨by rw [E.out]; rfl, hF⟩
end Go.Proofs.Ytanbfejhhnhabaa
