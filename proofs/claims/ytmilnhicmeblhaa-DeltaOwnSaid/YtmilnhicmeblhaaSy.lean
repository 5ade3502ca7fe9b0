/- The package delta: every Send, every Take. -/
import Derived.Test.YtmilnhicmeblhaaCr
namespace Go.Proofs.Ytmilnhicmeblhaa
open Go.RowKit Go.Maps Go.Sort
set_option maxRecDepth 100000
set_option linter.unusedVariables false
set_option linter.unusedSimpArgs false
set_option maxHeartbeats 4000000
/-- A push, without its slice. -/
abbrev Ps := ByteArray × Int × List Ch
abbrev Ws := List (Int × List Ch)
/-- What a Send answers, and what is then had: the number, the last counts, what waits. -/
def sendR (s : ByteArray) (num : Int) (last : List Ct) (ws : Ws) (now : List Ct) : Ps × Int × Int × List Ct × Ws :=
  if (diffE last now).2 ≠ 0 then ((⟨#[]⟩, 0, []), (diffE last now).2, num, last, ws)
  else if 1024 ≤ ws.length then ((⟨#[]⟩, 0, []), 3, num, last, ws)
  else ((s, num + 1, (diffE last now).1), 0, num + 1, now, ws ++ [(num + 1, (diffE last now).1)])
theorem sendR_facts {s : ByteArray} {num : Int} {last : List Ct} {ws : Ws} {now : List Ct} {P : Ps} {y num' : Int} {last' : List Ct} {ws' : Ws} (h : sendR s num last ws now = (P, y, num', last', ws'))
    (hl : WC last) (hn : WC now) (hw : ws.length ≤ 1024) : rightH P.2.2 = true ∧ WH P.2.2 ∧ ws'.length ≤ 1024 ∧ num ≤ num' ∧ num' ≤ num + 1 ∧ ((P = (⟨#[]⟩, 0, []) ∧ y ≠ 0) ∨ (P = (s, num + 1, (diffE last now).1) ∧ y = 0)) := by
  unfold sendR at h
  split at h
  · rename_i h1
    simp only [Prod.mk.injEq] at h
    obtain ⟨rfl, rfl, rfl, rfl, rfl⟩ := h
    exact ⟨rfl, (by intro x hx; cases hx), hw, by omega, by omega, .inl ⟨rfl, h1⟩⟩
  · split at h
    · simp only [Prod.mk.injEq] at h
      obtain ⟨rfl, rfl, rfl, rfl, rfl⟩ := h
      exact ⟨rfl, (by intro x hx; cases hx), hw, by omega, by omega, .inl ⟨rfl, by decide⟩⟩
    · rename_i h2
      simp only [Prod.mk.injEq] at h
      obtain ⟨rfl, rfl, rfl, rfl, rfl⟩ := h
      obtain ⟨r1, r2⟩ := diffE_right hl hn
      exact ⟨r1, r2, by simp; omega, by omega, by omega, .inr ⟨rfl, rfl⟩⟩
/-- What a Send leaves. -/
structure SendO (F : List Nat) (p : Nat) (s : ByteArray) (num' : Int) (last' : List Ct) (ws' : Ws) (pv : Value) (c : List Ch) (w w' : World) : Prop where
  ex : ∃ F' vl' vw' q', SD w' F' p s num' vl' vw' last' q' ∧ waits q' = ws' ∧ (∀ g, pv.ownBlock = some g → g ∉ F') ∧ (∀ g ∈ F', g ∈ F ∨ w.heap.size ≤ g)
  sv : SV w' w.heap.size 4 pv c.length (flat4 c)
  fr : Fr F w w'
theorem send_any (F : List Nat) (p : Nat) (s : ByteArray) (num : Int) (vl vw vn : Value) (last now : List Ct) (q : Wq) (w : World) (h : SD w F p s num vl vw last q) (hn : RC w vn now) (mn : now.length ≤ 9223372036854775806) (wn : WC now)
    (n0 : 0 ≤ num) (n1 : num ≤ 9223372036854775806) (hnp : ∀ g, vn.ownBlock = some g → 0 < now.length → g ≠ p)
    {P : Ps} {y num' : Int} {last' : List Ct} {ws' : Ws} (hr : sendR s num last (waits q) now = (P, y, num', last', ws')) :
    Calls Try.prog 28 #[.pointer (some ⟨p, 0, none⟩), vn] w fun e w' => ∃ pv, e = .returned (.tuple #[puV P.1 P.2.1 pv, .int .i64 y]) ∧ SendO F p s num' last' ws' pv P.2.2 w w' := by
  have hwl : (waits q).length = q.length := by simp [waits]
  have hFp : ∀ k, k ∈ p :: vw.ownBlock.toList → k ∈ F := by
    intro k hk
    rcases List.mem_cons.1 hk with rfl | hk
    · exact h.pF
    · exact (h.wtF k (by simpa using hk)).1
  unfold sendR at hr
  by_cases h1 : (diffE last now).2 ≠ 0
  · rw [if_pos h1] at hr
    simp only [Prod.mk.injEq] at hr
    obtain ⟨rfl, rfl, rfl, rfl, rfl⟩ := hr
    refine (send_err F p s num vl vw vn last now q w h hn mn wn (.inl h1)).mono ?_
    rintro e w' ⟨he, hF⟩
    rw [if_pos h1] at he
    exact ⟨.slice none 0 0, he, ⟨F, vl, vw, q, h.fr0 hF, rfl, by simp [Value.ownBlock], fun g hg => .inl hg⟩, SV.nil _ _ _, hF.mono (by simp)⟩
  · rw [if_neg h1, hwl] at hr
    by_cases h2 : 1024 ≤ q.length
    · rw [if_pos h2] at hr
      simp only [Prod.mk.injEq] at hr
      obtain ⟨rfl, rfl, rfl, rfl, rfl⟩ := hr
      refine (send_err F p s num vl vw vn last now q w h hn mn wn (.inr h2)).mono ?_
      rintro e w' ⟨he, hF⟩
      rw [if_neg h1] at he
      exact ⟨.slice none 0 0, he, ⟨F, vl, vw, q, h.fr0 hF, rfl, by simp [Value.ownBlock], fun g hg => .inl hg⟩, SV.nil _ _ _, hF.mono (by simp)⟩
    · rw [if_neg h2] at hr
      simp only [Prod.mk.injEq] at hr
      obtain ⟨rfl, rfl, rfl, rfl, rfl⟩ := hr
      refine (send_ok F p s num vl vw vn last now q w h hn wn (by simpa using h1) (by omega) n0 n1 hnp).mono ?_
      rintro e w' ⟨vl', vw', vc, v', F', rfl, k1, k2, k3, k4, k5⟩
      exact ⟨v', rfl, ⟨F', vl', vw', _, k1, by simp [waits], k3, k4⟩, k2, k5.mono hFp⟩
/-- What a Take leaves. -/
structure TakeO (F : List Nat) (p b n : Nat) (q : Sq) (s : ByteArray) (num : Int) (ch : List Ch) (w w' : World) : Prop where
  ex : ∃ F' n' q', RV w' F' p b n' q' ∧ n' ≤ n + 1 ∧ (∀ g ∈ F', g ∈ F ∨ w.heap.size ≤ g) ∧ (((takeR q s num ch).2 ≠ 0 ∧ q' = q) ∨ ((takeR q s num ch).2 = 0 ∧ ∃ c, q' = upd q s (c, (turnE true (hadQ q s).1 ch).1, num)))
  fr : Fr [b] w w'
theorem take_any (F : List Nat) (p b n : Nat) (q : Sq) (s : ByteArray) (num : Int) (vc : Value) (ch : List Ch) (w : World) (h : RV w F p b n q) (hc : RH w vc ch) (mc : ch.length ≤ 9223372036854775806) (wc0 : WH ch) (nw : inW num) (hn : n < 9007199254740991)
    {x y : Int} (hr : takeR q s num ch = (x, y)) :
    Calls Try.prog 20 #[.pointer (some ⟨p, 0, none⟩), puV s num vc] w fun e w' => e = .returned (.tuple #[.int .u64 x, .int .i64 y]) ∧ TakeO F p b n q s num ch w w' := by
  by_cases hb : keyF s = true ∧ 1 ≤ num ∧ rightH ch = true
  · obtain ⟨b1, b2, b3⟩ := hb
    refine (take_good F p b n q s num vc ch w h hc wc0 nw hn b1 b2 b3).mono ?_
    rintro e w' ⟨he, hh⟩
    rw [hr] at he
    refine ⟨he, ?_⟩
    rcases hh with ⟨k1, k2⟩ | ⟨k1, c, F', k2, k3, k4⟩
    · exact ⟨⟨F, n, q, h.fr k2 (by simp), by omega, fun g hg => .inl hg, .inl ⟨k1, rfl⟩⟩, k2.mono (by simp)⟩
    · exact ⟨⟨F', n + 1, _, k2, by omega, k3, .inr ⟨k1, c, rfl⟩⟩, k4⟩
  · have e : takeR q s num ch = (0, 241) := by unfold takeR; rw [if_pos hb]
    refine (take_bad F p b n q s num vc ch w h hc mc nw.1 hb).mono ?_
    rintro e1 w' ⟨he, hF⟩
    rw [hr] at he
    exact ⟨he, ⟨F, n, q, h.fr hF (by simp), by omega, fun g hg => .inl hg, .inl ⟨by rw [e]; decide, rfl⟩⟩, hF.mono (by simp)⟩
end Go.Proofs.Ytmilnhicmeblhaa
