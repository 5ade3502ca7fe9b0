/- The package delta: (*Receiver).Take. -/
import Derived.Test.YtmilnhicmeblhaaAp
import Derived.Test.YtmilnhicmeblhaaAl
namespace Go.Proofs.Ytmilnhicmeblhaa
open Go.RowKit Go.Maps Go.Sort
set_option maxRecDepth 100000
set_option linter.unusedVariables false
set_option linter.unusedSimpArgs false
set_option maxHeartbeats 8000000
/-- What is had of a source: its total, its number. -/
def hadQ (q : Sq) (s : ByteArray) : List Ct × Int := match lk q s with | some (_, t, k) => (t, k) | none => ([], 0)
def takeR (q : Sq) (s : ByteArray) (num : Int) (ch : List Ch) : Int × Int :=
  if ¬ (keyF s = true ∧ 1 ≤ num ∧ rightH ch = true) then (0, 241)
  else if lk q s = none ∧ 256 ≤ q.length then (0, 3)
  else if num ≤ (hadQ q s).2 then ((hadQ q s).2, 243)
  else if 1 < num - (hadQ q s).2 then ((hadQ q s).2, 242)
  else if (turnE true (hadQ q s).1 ch).2 ≠ 0 then ((hadQ q s).2, (turnE true (hadQ q s).1 ch).2)
  else (num, 0)
/-- One entry put in its place, or at the end. -/
def upd {β : Type} : List (ByteArray × β) → ByteArray → β → List (ByteArray × β)
  | [], s, v => [(s, v)]
  | x :: r, s, v => if x.1 = s then (s, v) :: r else x :: upd r s v
theorem lk_upd {β : Type} (l : List (ByteArray × β)) (s : ByteArray) (v : β) (t : ByteArray) : lk (upd l s v) t = if s = t then some v else lk l t := by
  induction l with
  | nil => simp [upd, lk]
  | cons x r ih =>
    unfold upd
    split
    · rename_i h
      subst h
      simp only [lk]
      split <;> rfl
    · rename_i h
      simp only [lk, ih]
      by_cases e : x.1 = t
      · rw [if_pos e, if_neg (by rw [← e]; exact Ne.symm h), if_pos e]
      · rw [if_neg e, if_neg e]
theorem mem_upd {β : Type} {l : List (ByteArray × β)} {s : ByteArray} {v : β} {x : ByteArray × β} (h : x ∈ upd l s v) : x = (s, v) ∨ x ∈ l := by
  induction l with
  | nil => simp [upd] at h; exact .inl h
  | cons y r ih =>
    unfold upd at h
    split at h
    · rcases List.mem_cons.1 h with h | h
      · exact .inl h
      · exact .inr (List.mem_cons_of_mem _ h)
    · rcases List.mem_cons.1 h with h | h
      · exact .inr (by rw [h]; exact List.mem_cons_self)
      · exact (ih h).imp id (List.mem_cons_of_mem _)
theorem upd_keys {β : Type} (l : List (ByteArray × β)) (s : ByteArray) (v : β) : (upd l s v).map (·.1) = if (lk l s).isSome = true then l.map (·.1) else l.map (·.1) ++ [s] := by
  induction l with
  | nil => simp [upd, lk]
  | cons x r ih =>
    unfold upd
    by_cases h : x.1 = s
    · rw [if_pos h]; simp [lk, h]
    · rw [if_neg h, lk, if_neg h, List.map_cons, ih]
      split <;> simp
theorem upd_len {β : Type} (l : List (ByteArray × β)) (s : ByteArray) (v : β) : (upd l s v).length = if (lk l s).isSome = true then l.length else l.length + 1 := by
  have := congrArg List.length (upd_keys l s v)
  rw [List.length_map] at this
  rw [this]
  split <;> simp
theorem upd_map {β γ : Type} (f : β → γ) (l : List (ByteArray × β)) (s : ByteArray) (v : β) : (upd l s v).map (fun x => (x.1, f x.2)) = upd (l.map (fun x => (x.1, f x.2))) s (f v) := by
  induction l with
  | nil => rfl
  | cons x r ih =>
    unfold upd
    simp only [List.map_cons]
    split
    · rfl
    · rw [List.map_cons, ih]
theorem lk_map {β γ : Type} (f : β → γ) (l : List (ByteArray × β)) (s : ByteArray) : lk (l.map (fun x => (x.1, f x.2))) s = (lk l s).map f := by
  induction l with
  | nil => rfl
  | cons x r ih =>
    rw [List.map_cons, lk, lk]
    split
    · rfl
    · exact ih
theorem mapQ_lk (q : Sq) (s : ByteArray) : lk (mapQ q) s = (lk q s).map (fun x => (x.1, x.2.2)) := lk_map (fun x : Slc × List Ct × Int => (x.1, x.2.2)) q s
theorem mapQ_upd (q : Sq) (s : ByteArray) (c : Slc) (t : List Ct) (k : Int) : mapQ (upd q s (c, t, k)) = upd (mapQ q) s (c, k) := upd_map (fun x : Slc × List Ct × Int => (x.1, x.2.2)) q s (c, t, k)
/-- What a look-up in the sources gives, as the walk sees it. -/
theorem RV.hv {w : World} {F : List Nat} {p b n : Nat} {q : Sq} (h : RV w F p b n q) (s : ByteArray) :
    ∃ av cv, lkV XH (mapQ q) s = .agg #[.slice av (hadQ q s).1.length cv, .int .u64 (hadQ q s).2] ∧ SV w 0 2 (.slice av (hadQ q s).1.length cv) (hadQ q s).1.length (flat2 (hadQ q s).1) ∧ rightC (hadQ q s).1 = true ∧ WC (hadQ q s).1 ∧ inW (hadQ q s).2 := by
  unfold lkV hadQ
  rw [mapQ_lk]
  cases hl : lk q s with
  | none => exact ⟨none, 0, rfl, SV.nil _ _ _, rfl, (by intro x hx; cases hx), (by show inW 0; unfold inW; omega)⟩
  | some y =>
    obtain ⟨c, t, k⟩ := y
    obtain ⟨h1, h2, h3, h4⟩ := h.tot _ (lk_mem hl)
    simp only at h1 h3 h4
    obtain ⟨av, cv, e⟩ := h1.at_
    refine ⟨av, cv, ?_, ?_, h3, h4, h.nm _ (lk_mem hl)⟩
    · show hdV (c, k) = _
      unfold hdV
      rw [e]
    · rw [← e]; exact h1
theorem RV.lk97 {w w' : World} {F : List Nat} {p b n : Nat} {q : Sq} (h : RV w F p b n q) (f : Fr [] w w') (s : ByteArray) (hs : s.size ≤ maxLen) {v : Value} (hv : lkV XH (mapQ q) s = v) {t : Bool} (ht : (lk q s).isSome = t) :
    (Instr.lookup 97 (.map (some b)) (.string s) true).run Try.prog w' = .ok (.tuple #[v, .bool t]) w' := by
  have := (h.mp.fr0 f).look_ok s hs
  rw [hv, mapQ_lk, Option.isSome_map, ht] at this
  exact this
theorem take_bad (F : List Nat) (p b n : Nat) (q : Sq) (s : ByteArray) (num : Int) (vc : Value) (ch : List Ch) (w : World) (h : RV w F p b n q) (hc : RH w vc ch) (mc : ch.length ≤ 9223372036854775806) (n0 : 0 ≤ num)
    (hb : ¬ (keyF s = true ∧ 1 ≤ num ∧ rightH ch = true)) :
    Calls Try.prog 20 #[.pointer (some ⟨p, 0, none⟩), puV s num vc] w fun e w' => e = .returned (.tuple #[.int .u64 (takeR q s num ch).1, .int .i64 (takeR q s num ch).2]) ∧ Fr [] w w' := by
  have e : takeR q s num ch = (0, 241) := by unfold takeR; rw [if_pos hb]
  rw [e]
  obtain ⟨ca, cc, ec⟩ := hc.at_
  subst ec
  have HC := Lib.hid (hc.fr0 ((Fr.refl [] w).alloc (.cells #[.string s, .int .u64 num, .slice ca ch.length cc] 50)))
  have hbx := Blk.new w #[.string s, .int .u64 num, .slice ca ch.length cc] 50
  have hbc := hbx.cell
  have hbl := hbx.lt
  clear h hc e hbx
  cases hk : keyF s with
  | false =>
    have HQ := Lib.hid (key_q s false hk)
    clear hb
    go_enter Try.func20, Try.ntmps20
    go_wp2_with ((go_at_call 46); (with_reducible refine (HQ.out _).mono ?_); rintro e w1 ⟨rfl, rfl⟩)
    go_ret2
    exact ⟨rfl, (Fr.refl _ _).alloc _⟩
  | true =>
    have HQ := Lib.hid (key_q s true hk)
    by_cases hn : 1 ≤ num
    · have hr : rightH ch = false := by
        cases hr : rightH ch with
        | false => rfl
        | true => exact absurd ⟨hk, hn, hr⟩ hb
      have hn' : ¬ num < 1 := by omega
      clear hb
      go_enter Try.func20, Try.ntmps20
      go_wp2_with (first | ((go_at_call 46); (with_reducible refine (HQ.out _).mono ?_); rintro e w1 ⟨rfl, rfl⟩) | ((go_at_call 18); (with_reducible refine (rightH_any _ ch _ HC.out mc).mono ?_); rw [hr]; rintro e w1 ⟨rfl, hF⟩))
      go_ret2
      exact ⟨rfl, ((Fr.refl _ _).alloc _).trans hF⟩
    · have hn' : num < 1 := by omega
      clear hb
      go_enter Try.func20, Try.ntmps20
      go_wp2_with ((go_at_call 46); (with_reducible refine (HQ.out _).mono ?_); rintro e w1 ⟨rfl, rfl⟩)
      go_ret2
      exact ⟨rfl, (Fr.refl _ _).alloc _⟩
end Go.Proofs.Ytmilnhicmeblhaa
