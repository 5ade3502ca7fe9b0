/- The package crdt: nodes, state, value, has. -/
import Derived.Test.YtanbfejhhnhabaaIter
namespace Go.Proofs.Ytanbfejhhnhabaa
open Go.RowKit Go.Maps Go.Sort
set_option maxRecDepth 100000
set_option linter.unusedVariables false
set_option linter.unusedSimpArgs false
set_option maxHeartbeats 4000000
/-- The cells of nodes. -/
def flat3 (l : List Nd) : List Value := l.flatMap fun a => [.string a.1, .int .u64 a.2.1, .int .u64 a.2.2]
theorem flat3_len (l : List Nd) : (flat3 l).length = l.length * 3 := by
  induction l with
  | nil => rfl
  | cons a l ih => simp [flat3] at ih ⊢; omega
theorem flat3_app (a b : List Nd) : flat3 (a ++ b) = flat3 a ++ flat3 b := by simp [flat3]
theorem flat3_get (l : List Nd) (i : Nat) (a : Nd) (h : l[i]? = some a) : (flat3 l)[i * 3]? = some (.string a.1) ∧ (flat3 l)[i * 3 + 1]? = some (.int .u64 a.2.1) ∧ (flat3 l)[i * 3 + 2]? = some (.int .u64 a.2.2) := by
  induction l generalizing i with
  | nil => simp at h
  | cons b l ih =>
    cases i with
    | zero => simp at h; subst h; simp [flat3]
    | succ i =>
      have := ih i (by simpa using h)
      simp only [flat3, List.flatMap_cons] at this ⊢
      rw [show (i + 1) * 3 = (i * 3) + 3 by omega, show i * 3 + 3 + 1 = (i * 3 + 1) + 3 by omega, show i * 3 + 3 + 2 = (i * 3 + 2) + 3 by omega]
      rw [List.getElem?_append_right (by simp), List.getElem?_append_right (by simp), List.getElem?_append_right (by simp)]
      simpa using this
theorem flat3_one (l : List Nd) : ∀ u ∈ flat3 l, u.oneCell' = true := by
  intro u hu
  unfold flat3 at hu
  obtain ⟨a, _, h⟩ := List.mem_flatMap.1 hu
  simp at h
  rcases h with rfl | rfl | rfl <;> rfl
theorem infoN : (Try.prog.info? 33).map (fun i => (i.zero, i.size, i.bytes)) = some (some (ndV ByteArray.empty 0 0), 3, 32) := by kernel_rfl
theorem take_snoc {l : List Nd} {j : Nat} {a : Nd} (h : l[j]? = some a) : l.take (j + 1) = l.take j ++ [a] := by
  rw [List.take_add_one, h]; rfl
theorem putL_snoc {l : List Nd} {j : Nat} {a : Nd} (hs : Srt l) (h : l[j]? = some a) : putL (l.take j) a = l.take (j + 1) := by
  have hm : Srt (l.take (j + 1)) := hs.sublist (List.take_sublist _ _)
  refine Srt.ext (Srt.put (hs.sublist (List.take_sublist _ _)) a) hm (fun s => ?_)
  rw [lk_putL, take_snoc h]
  have hsn : Srt (l.take j ++ [a]) := by rw [← take_snoc h]; exact hm
  by_cases e : s = a.1
  · rw [if_pos e, e, lk_of_mem hsn (by simp)]
  · rw [if_neg e]
    have : ∀ l : List Nd, lk (l ++ [a]) s = lk l s := by
      intro l
      induction l with
      | nil => simp [lk, Ne.symm e]
      | cons x r ih => simp only [List.cons_append, lk, ih]
    rw [this]
/-- A read slice of nodes. -/
abbrev RN (w : World) (v : Value) (l : List Nd) : Prop := RD w 3 v l.length (flat3 l)
theorem nodes_any (v : Value) (l : List Nd) (w : World) (h : RN w v l) (hg : Good l) (hl : l.length < maxLen) :
    Calls Try.prog 38 #[v] w fun e w' => ∃ b, e = .returned (.map (some b)) ∧ NM w' b l.length l ∧ w.heap.size ≤ b ∧ Fr [] w w' := by
  obtain ⟨A, c, rfl⟩ := h.at_
  have H := Lib.hid h
  have hmm := @run_makeMap Try.prog
  have hl' := hl
  unfold maxLen at hl'
  clear h
  go_enter Try.func38, Try.ntmps38
  go_wp2
  go_loopw [9] (fun u wr => ∃ j : Nat, j ≤ l.length ∧ u = .int .i64 j ∧ NM wr w.heap.size j (l.take j) ∧ Fr [w.heap.size] (w.alloc (.map #[] 0)) wr) (fun u _ => l.length - (intOf u).toNat)
  case atStart => exact ⟨0, by omega, rfl, NM.made w _ rfl, Fr.refl _ _⟩
  case round =>
    obtain ⟨j, hj, rfl, hM, hF⟩ := hrel
    by_cases hjl : j < l.length
    · obtain ⟨⟨s, u, d⟩, hj0⟩ : ∃ a, l[j]? = some a := ⟨_, List.getElem?_eq_getElem hjl⟩
      have hFw : Fr [] w wr := (((Fr.refl [] w).alloc (.map #[] 0)).mono (by simp) |>.trans hF).weaken (by intro z hz; simp at hz; subst hz; exact .inr (Nat.le_refl _))
      obtain ⟨g, o, c', he, g1, g2, g3, g4⟩ := (H.out.fr0 hFw).cells (by omega)
      simp only [Value.slice.injEq] at he
      obtain ⟨rfl, -, rfl⟩ := he
      have k0 := g4 (j * 3) _ (flat3_get l j _ hj0).1
      have k1 := g4 (j * 3 + 1) _ (flat3_get l j _ hj0).2.1
      have k2 := g4 (j * 3 + 2) _ (flat3_get l j _ hj0).2.2
      rw [← Nat.add_assoc] at k1 k2
      have hsz : s.size ≤ maxLen := by have := hg.sz _ (List.mem_of_getElem? hj0); unfold maxLen; simp at this; omega
      have hput := putL_snoc hg.st hj0
      have hb := Blk.new wr #[.string s, .int .u64 u, .int .u64 d] 33
      obtain ⟨w2, hup, hM2, hF2⟩ := (hM.fr0 ((Fr.refl [] wr).alloc (.cells #[.string s, .int .u64 u, .int .u64 d] 33))).store s hsz u d (by omega)
      have hbc := hb.cell
      have hbl := hb.lt
      rw [hput] at hM2
      clear hput g4 hM hj0
      go_wp2
      go_roundw
      case rel => exact ⟨j + 1, by omega, by go_num, hM2, (hF.alloc _).trans hF2⟩
      case measure => simp [intOf]; omega
    · obtain rfl : j = l.length := by omega
      rw [List.take_length] at hM
      go_wp2
      go_ret
      exact ⟨_, rfl, hM, Nat.le_refl _, (((Fr.refl [] w).alloc (.map #[] 0)).mono (by simp) |>.trans hF).weaken (by intro z hz; simp at hz; subst hz; exact .inr (Nat.le_refl _))⟩
/-- What a state comes to. -/
def valL (l : List Nd) : Int := (l.map (fun a => a.2.1 - a.2.2)).sum
/-- Numbers that nodes may have. -/
def Bnd (l : List Nd) : Prop := ∀ a ∈ l, 0 ≤ a.2.1 ∧ a.2.1 ≤ 72057594037927936 ∧ 0 ≤ a.2.2 ∧ a.2.2 ≤ 72057594037927936
theorem valL_snoc (l : List Nd) (a : Nd) : valL (l ++ [a]) = valL l + (a.2.1 - a.2.2) := by simp [valL]
theorem valL_bd (l : List Nd) (h : Bnd l) : -(72057594037927936 * (l.length : Int)) ≤ valL l ∧ valL l ≤ 72057594037927936 * (l.length : Int) := by
  induction l with
  | nil => simp [valL]
  | cons a r ih =>
    have h1 := ih (fun x hx => h x (List.mem_cons_of_mem _ hx))
    have h2 := h a List.mem_cons_self
    have e : valL (a :: r) = (a.2.1 - a.2.2) + valL r := by simp [valL]
    rw [e, List.length_cons]
    omega
theorem value_any (v : Value) (l : List Nd) (w : World) (h : RN w v l) (hb : Bnd l) (hl : l.length ≤ 64) :
    Calls Try.prog 40 #[v] w fun e w' => e = .returned (.int .i64 (valL l)) ∧ Fr [] w w' := by
  obtain ⟨A, c, rfl⟩ := h.at_
  have H := Lib.hid h
  have HB := Lib.hid hb
  clear h hb
  go_enter Try.func40, Try.ntmps40
  go_wp2
  go_loopw [3, 8] (fun x u wr => ∃ j : Nat, j ≤ l.length ∧ u = .int .i64 j ∧ x = .int .i64 (valL (l.take j)) ∧ Fr [] w wr) (fun _ u _ => l.length - (intOf u).toNat)
  case atStart => exact ⟨0, by omega, rfl, rfl, Fr.refl _ _⟩
  case round =>
    obtain ⟨j, hj, rfl, rfl, hF⟩ := hrel
    by_cases hjl : j < l.length
    · obtain ⟨⟨s, u, d⟩, hj0⟩ : ∃ a, l[j]? = some a := ⟨_, List.getElem?_eq_getElem hjl⟩
      obtain ⟨g, o, c', he, g1, g2, g3, g4⟩ := (H.out.fr0 hF).cells (by omega)
      simp only [Value.slice.injEq] at he
      obtain ⟨rfl, -, rfl⟩ := he
      have k0 := g4 (j * 3) _ (flat3_get l j _ hj0).1
      have k1 := g4 (j * 3 + 1) _ (flat3_get l j _ hj0).2.1
      have k2 := g4 (j * 3 + 2) _ (flat3_get l j _ hj0).2.2
      rw [← Nat.add_assoc] at k1 k2
      have hbd := HB.out _ (List.mem_of_getElem? hj0)
      obtain ⟨hu0, hu1, hd0, hd1⟩ := hbd
      simp only at k0 k1 k2 hu0 hu1 hd0 hd1
      have hv := valL_bd (l.take j) (fun x hx => HB.out x (List.mem_of_mem_take hx))
      have hlt : (l.take j).length = j := by simp; omega
      rw [hlt] at hv
      obtain ⟨x, hx⟩ : ∃ x, x = valL (l.take j) := ⟨_, rfl⟩
      have hnew : valL (l.take (j + 1)) = x + (u - d) := by rw [take_snoc hj0, valL_snoc, hx]
      rw [← hx] at hv ⊢
      have hx1 : -4611686018427387904 ≤ x := by omega
      have hx2 : x ≤ 4611686018427387904 := by omega
      have HN := Lib.hid hnew
      have hb := Blk.new wr #[.string s, .int .u64 u, .int .u64 d] 33
      have hbc := hb.cell
      have hbl := hb.lt
      clear hx hnew g4 hj0 hv hlt
      go_wp2
      go_roundw
      case rel => exact ⟨j + 1, by omega, by go_num, by rw [HN.out], hF.alloc _⟩
      case measure => simp [intOf]; omega
    · obtain rfl : j = l.length := by omega
      rw [List.take_length]
      go_wp2
      go_ret
      exact ⟨rfl, hF⟩
/-- Has a state all of a node? -/
def hasL (l : List Nd) (x : Nd) : Bool := match lk l x.1 with | some p => decide (x.2.1 ≤ p.1) && decide (x.2.2 ≤ p.2) | none => false
theorem has_any (b n : Nat) (l : List Nd) (s : ByteArray) (u d : Int) (w : World) (h : NM w b n l) (hs : s.size ≤ maxLen) :
    Calls Try.prog 44 #[.map (some b), ndV s u d] w fun e w' => e = .returned (.bool (hasL l (s, u, d))) ∧ Fr [] w w' := by
  have hB := Blk.new w #[.string s, .int .u64 u, .int .u64 d] 33
  have hlk := (h.fr0 ((Fr.refl [] w).alloc (.cells #[.string s, .int .u64 u, .int .u64 d] 33))).look_ok s hs
  unfold hasL
  cases hl : lk l s with
  | none =>
    rw [lkV_none hl, hl] at hlk
    clear hl
    go_enter Try.func44, Try.ntmps44
    go_wp2
    go_ret
    exact ⟨rfl, by repeat' (first | (with_reducible exact Fr.refl _ _) | (with_reducible refine Fr.drew ?_) | (with_reducible refine Fr.drN ?_ _) | (with_reducible refine Fr.alloc ?_ _) | (with_reducible refine Fr.set ?_ ?_ _) | (left; simp; done) | (right; simp; done) | (right; simp; omega))⟩
  | some p =>
    obtain ⟨u', d'⟩ := p
    rw [lkV_some hl, hl] at hlk
    clear hl
    by_cases h1 : u ≤ u'
    · by_cases h2 : d ≤ d'
      · have e : (decide (u ≤ u') && decide (d ≤ d')) = true := by simp [h1, h2]
        simp only [e]
        clear e
        go_enter Try.func44, Try.ntmps44
        go_wp2
        go_ret
        exact ⟨rfl, by repeat' (first | (with_reducible exact Fr.refl _ _) | (with_reducible refine Fr.drew ?_) | (with_reducible refine Fr.drN ?_ _) | (with_reducible refine Fr.alloc ?_ _) | (with_reducible refine Fr.set ?_ ?_ _) | (left; simp; done) | (right; simp; done) | (right; simp; omega))⟩
      · have e : (decide (u ≤ u') && decide (d ≤ d')) = false := by simp [h1, h2]
        simp only [e]
        clear e
        go_enter Try.func44, Try.ntmps44
        go_wp2
        go_ret
        exact ⟨rfl, by repeat' (first | (with_reducible exact Fr.refl _ _) | (with_reducible refine Fr.drew ?_) | (with_reducible refine Fr.drN ?_ _) | (with_reducible refine Fr.alloc ?_ _) | (with_reducible refine Fr.set ?_ ?_ _) | (left; simp; done) | (right; simp; done) | (right; simp; omega))⟩
    · have e : (decide (u ≤ u') && decide (d ≤ d')) = false := by simp [h1]
      simp only [e]
      clear e
      go_enter Try.func44, Try.ntmps44
      go_wp2
      go_ret
      exact ⟨rfl, by repeat' (first | (with_reducible exact Fr.refl _ _) | (with_reducible refine Fr.drew ?_) | (with_reducible refine Fr.drN ?_ _) | (with_reducible refine Fr.alloc ?_ _) | (with_reducible refine Fr.set ?_ ?_ _) | (left; simp; done) | (right; simp; done) | (right; simp; omega))⟩
end Go.Proofs.Ytanbfejhhnhabaa
