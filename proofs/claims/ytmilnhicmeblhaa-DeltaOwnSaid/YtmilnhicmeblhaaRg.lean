/- The package delta: key, Right. -/
import Derived.Test.YtmilnhicmeblhaaPr
namespace Go.Proofs.Ytmilnhicmeblhaa
open Go.RowKit Go.Sort
set_option maxRecDepth 100000
set_option linter.unusedVariables false
set_option linter.unusedSimpArgs false
set_option maxHeartbeats 4000000
/-! Are counts right? -/
def keyF (s : ByteArray) : Bool := decide (1 ≤ s.size) && decide (s.size ≤ 256)
def okP (p : Option ByteArray) (s : ByteArray) : Bool := keyF s && match p with
  | none => true
  | some q => Op.bytesLess q.toList s.toList
def okKs : Option ByteArray → List ByteArray → Bool
  | _, [] => true
  | p, s :: r => okP p s && okKs (some s) r
def rightC (l : List Ct) : Bool := okKs none (l.map (·.1)) && decide (l.length ≤ 4096)
theorem okKs_drop (p : Option ByteArray) (l : List ByteArray) (j : Nat) (x : ByteArray) (h : l[j]? = some x) : okKs p l = (okKs p (l.take j) && okP (if j = 0 then p else l[j - 1]?) x && okKs (some x) (l.drop (j + 1))) := by
  induction l generalizing p j with
  | nil => simp at h
  | cons y r ih =>
    cases j with
    | zero => simp at h; subst h; simp [okKs]
    | succ j =>
      have := ih (some y) j (by simpa using h)
      simp only [okKs, List.take_succ_cons, List.drop_succ_cons, this]
      cases j with
      | zero => simp [Bool.and_assoc]
      | succ j => simp [Bool.and_assoc]
theorem okKs_take (p : Option ByteArray) (l : List ByteArray) (j : Nat) (x : ByteArray) (h : l[j]? = some x) : okKs p (l.take (j + 1)) = (okKs p (l.take j) && okP (if j = 0 then p else l[j - 1]?) x) := by
  have hj : j < l.length := (List.getElem?_eq_some_iff.1 h).1
  rw [okKs_drop p (l.take (j + 1)) j x (by rw [List.getElem?_take_of_lt (by omega)]; exact h)]
  rw [List.take_take, Nat.min_eq_left (by omega), List.drop_take]
  simp [okKs]
  cases j with
  | zero => simp
  | succ j => rw [if_neg (by omega), if_neg (by omega)]; congr 2; rw [List.getElem?_take_of_lt (by omega)]
theorem key_any (s : ByteArray) (w : World) :
    Calls Try.prog 46 #[.string s] w fun e w' => e = .returned (.bool (keyF s)) ∧ w' = w := by
  unfold keyF
  by_cases h1 : 1 ≤ s.size
  · have h1i : (1 : Int) ≤ (s.size : Int) := by omega
    by_cases h2 : s.size ≤ 256
    · have h2i : (s.size : Int) ≤ 256 := by omega
      go_enter Try.func46, Try.ntmps46
      go_wp2
      go_ret
      exact ⟨by simp [h1, h2], rfl⟩
    · have h2i : ¬ (s.size : Int) ≤ 256 := by omega
      go_enter Try.func46, Try.ntmps46
      go_wp2
      go_ret
      exact ⟨by simp [h1, h2]; try omega, rfl⟩
  · have h1i : ¬ (1 : Int) ≤ (s.size : Int) := by omega
    go_enter Try.func46, Try.ntmps46
    go_wp2
    go_ret
    exact ⟨by simp [h1], rfl⟩
theorem key_q (s : ByteArray) (b : Bool) (h : keyF s = b) : ∀ W : World, Calls Try.prog 46 #[.string s] W fun e w' => e = .returned (.bool b) ∧ w' = W := fun W => by
  have := key_any s W
  rwa [h] at this
theorem right_any (v : Value) (l : List Ct) (w : World) (h : RC w v l) (hm : l.length ≤ 9223372036854775806) :
    Calls Try.prog 14 #[v] w fun e w' => e = .returned (.bool (rightC l)) ∧ Fr [] w w' := by
  obtain ⟨A, c, rfl⟩ := h.at_
  have H := Lib.hid h
  clear h
  go_enter Try.func14, Try.ntmps14
  go_wp2
  go_loopw [7] (fun u wr => ∃ j : Nat, j ≤ l.length ∧ u = .int .i64 j ∧ Hid (okKs none ((l.map (·.1)).take j) = true) ∧ Hid (Fr [] w wr)) (fun u _ => l.length - (intOf u).toNat)
  case atStart => exact ⟨0, by omega, rfl, Lib.hid rfl, Lib.hid (Fr.refl _ _)⟩
  case round =>
    obtain ⟨j, hj, rfl, HOK, HF⟩ := hrel
    by_cases hjl : j < l.length
    · obtain ⟨⟨s, n⟩, hj0⟩ : ∃ a, l[j]? = some a := ⟨_, List.getElem?_eq_getElem hjl⟩
      obtain ⟨g, o, c', he, g1, g2, g3, g4⟩ := (H.out.fr0 HF.out).cells (by omega)
      simp only [Value.slice.injEq] at he
      obtain ⟨rfl, -, rfl⟩ := he
      have k0 := g4 (j * 2) _ (flat2_get l j _ hj0).1
      have k1 := g4 (j * 2 + 1) _ (flat2_get l j _ hj0).2
      rw [← Nat.add_assoc] at k1
      simp only at k0 k1
      have hb := Blk.new wr #[.string s, .int .u64 n] 38
      have hbc := hb.cell
      have hbl := hb.lt
      have hks : (l.map (·.1))[j]? = some s := by rw [List.getElem?_map, hj0]; rfl
      have hdrop := okKs_drop none _ j _ hks
      have htake := okKs_take none _ j _ hks
      have HJ := Lib.hid hj0
      clear hj0 hb hks
      cases hk : keyF s with
      | false =>
        have HQ := Lib.hid (key_q s false hk)
        have hr : rightC l = false := by unfold rightC; rw [hdrop]; simp [okP, hk]
        have HR := Lib.hid hr
        clear hr hdrop htake hk g4
        go_wp2_with fail
        go_quiet ((go_at_call 46; exact Calls.quiet_of_same (HQ.out _)))
        go_wp2
        go_ret
        exact ⟨by rw [HR.out]; rfl, (HF.out.alloc _).drN _⟩
      | true =>
        have HQ := Lib.hid (key_q s true hk)
        cases j with
        | zero =>
          have ht : okKs none ((l.map (·.1)).take (0 + 1)) = true := by rw [htake]; simp [okKs, okP, hk]
          have HT := Lib.hid ht
          simp only [Nat.zero_mul, Nat.add_zero] at k0 k1
          clear ht hdrop htake hk g4
          go_wp2_with fail
          go_quiet ((go_at_call 46; exact Calls.quiet_of_same (HQ.out _)))
          go_wp2
          go_roundw
          case rel => exact ⟨1, by omega, by go_num, HT, Lib.hid ((HF.out.alloc _).drN _)⟩
          case measure => simp [intOf]; omega
        | succ j =>
          obtain ⟨⟨sp, np⟩, hp0⟩ : ∃ a, l[j]? = some a := ⟨_, List.getElem?_eq_getElem (by omega)⟩
          have m0 := g4 (j * 2) _ (flat2_get l j _ hp0).1
          simp only at m0
          have hpe : (l.map (·.1))[j + 1 - 1]? = some sp := by rw [List.getElem?_map]; simp [hp0]
          have hj1 : (0 : Int) < (j : Int) + 1 := by omega
          have hd1 : decide ((0 : Int) < (j : Int) + 1) = true := by first | (simp; done) | (simp; omega)
          rw [if_neg (by omega), hpe] at hdrop htake
          cases hlt : Op.bytesLess sp.toList s.toList with
          | true =>
            have ht : okKs none ((l.map (·.1)).take (j + 1 + 1)) = true := by rw [htake, HOK.out]; simp [okP, hk, hlt]
            have HT := Lib.hid ht
            clear ht hdrop htake hk g4 hp0 hpe
            go_wp2_with fail
            go_quiet ((go_at_call 46; exact Calls.quiet_of_same (HQ.out _)))
            go_wp2
            go_roundw
            case rel => exact ⟨j + 1 + 1, by omega, by go_num, HT, Lib.hid ((HF.out.alloc _).drN _)⟩
            case measure => simp [intOf]; omega
          | false =>
            have hr : rightC l = false := by unfold rightC; rw [hdrop]; simp [okP, hk, hlt]
            have HR := Lib.hid hr
            clear hr hdrop htake hk g4 hp0 hpe
            go_wp2_with fail
            go_quiet ((go_at_call 46; exact Calls.quiet_of_same (HQ.out _)))
            go_wp2
            go_ret
            exact ⟨by rw [HR.out]; rfl, (HF.out.alloc _).drN _⟩
    · obtain rfl : j = l.length := by omega
      have hr : rightC l = decide (l.length ≤ 4096) := by
        unfold rightC
        have := HOK.out
        rw [List.take_of_length_le (by simp)] at this
        rw [this]; simp
      have HR := Lib.hid hr
      clear hr
      by_cases h4 : l.length ≤ 4096
      · have h4i : (l.length : Int) ≤ 4096 := by omega
        go_wp2
        go_ret
        exact ⟨by rw [HR.out]; simp [h4], HF.out⟩
      · have h4i : ¬ (l.length : Int) ≤ 4096 := by omega
        go_wp2
        go_ret
        exact ⟨by rw [HR.out]; simp [h4]; try omega, HF.out⟩
end Go.Proofs.Ytmilnhicmeblhaa
