/- A registry's Ask. -/
import Derived.Test.YtbbnafnnbhbbcaaGreatDoorReg
namespace Go.Proofs.YtbbnafnnbhbbcaaGreatDoor
open Go.RowKit Go.Maps
set_option maxRecDepth 100000
set_option linter.unusedVariables false
set_option linter.unusedSimpArgs false
set_option maxHeartbeats 4000000
theorem ask_wrong (br base : Nat) (l : List (ByteArray × Int)) (s : ByteArray) (k : Int) (w : World) (h : RG w br base 0 l) (hr : ¬ rightF s k = 0) :
    Calls Tryz.prog 8 #[.pointer (some ⟨br, 0, none⟩), .agg #[.string s, .int .u8 k]] w fun e w' => e = .returned (.tuple #[.int .i64 0, .bool false, .int .i64 (rightF s k)]) ∧ RG w' br base 0 l ∧ Fr [br] w w' := by
  have hlt := h.lt
  obtain ⟨why, hw⟩ : ∃ y, y = rightF s k := ⟨_, rfl⟩
  rw [← hw] at hr ⊢
  have hR : ∀ W, Calls Tryz.prog 18 #[.agg #[.string s, .int .u8 k]] W fun e w' => e = .returned (.int .i64 why) ∧ Fr [] W w' := fun W => hw ▸ right_any s k W
  clear hw
  go_enter_defers Tryz.func8, Tryz.ntmps8
  go_wp2_with ((go_at_call 18); (with_reducible refine (hR _).mono ?_); rintro e w1 ⟨rfl, hF⟩)
  refine ⟨_, results_tmp3 rfl _ _ _, ?_⟩
  have hF0 : Fr [] w w1 := ((Fr.refl _ _).alloc _).trans hF
  exact ⟨rfl, h.fr0 hF0, hF0.mono (by simp)⟩
theorem ask_known (br base : Nat) (l : List (ByteArray × Int)) (s : ByteArray) (k n y : Int) (w : World) (h : RG w br base 0 l) (hr : rightF s k = 0) (hs : s.size ≤ maxLen) (hk : knownF l s k = (n, true, y)) :
    Calls Tryz.prog 8 #[.pointer (some ⟨br, 0, none⟩), .agg #[.string s, .int .u8 k]] w fun e w' => e = .returned (.tuple #[.int .i64 n, .bool false, .int .i64 y]) ∧ RG w' br base 0 l ∧ Fr [br] w w' := by
  have hlt := h.lt
  have hR : ∀ W, Calls Tryz.prog 18 #[.agg #[.string s, .int .u8 k]] W fun e w' => e = .returned (.int .i64 0) ∧ Fr [] W w' := fun W => hr ▸ right_any s k W
  have hK : ∀ W bv, VW W base bv l → Calls Tryz.prog 19 #[.pointer (some ⟨bv, 0, none⟩), .agg #[.string s, .int .u8 k]] W fun e w' => e = .returned (.tuple #[.int .i64 n, .bool true, .int .i64 y]) ∧ Fr [] W w' := fun W bv hv => by
    have := known_any bv base l s k W hv hs
    rw [hk] at this
    exact this
  have HK := Lib.hid hK
  clear hK
  go_enter_defers Tryz.func8, Tryz.ntmps8
  go_wp2_with ((go_at_call 18); (with_reducible refine (hR _).mono ?_); rintro e w1 ⟨rfl, hF⟩; have hb := hF.blk (Blk.new w #[.string s, .int .u8 k] 31) (by simp); have hbc := hb.cell; have hbl := hb.lt; have hRG := Lib.hid ((h.al _).fr0 hF))
  go_region_held3 (fun w' => w'.cell? ⟨w.heap.size, 0, none⟩ = some (.string s) ∧ w'.cell? ⟨w.heap.size, 1, none⟩ = some (.int .u8 k)) (first | ((try dsimp only); refine ⟨?_, ?_⟩ <;> (first | (simp [go_sem, hbc]; done) | (simp [go_sem, hbc2]; done) | (simp [go_sem, hbc3]; done))) | (simp [go_sem, hbc]; done) | (simp [go_sem, hbc2]; done)) ((first | (go_at_call 16; (with_reducible refine (view_any br base 0 l _ ?_).mono ?_); (focus (exact hRG.out.fr0 (by repeat' (first | (with_reducible exact Fr.refl _ _) | (with_reducible refine Fr.drew ?_) | (with_reducible refine Fr.drN ?_ _) | (with_reducible refine Fr.alloc ?_ _) | (with_reducible refine Fr.set ?_ ?_ _) | (left; simp; done) | (right; simp; done) | (right; simp; omega))))); rintro e w2 ⟨bv, rfl, hV, hR2, hF2⟩; have hb2 := hF2.blk (b := w.heap.size) (by first | exact hb.drew | exact hb) (by simp; omega); have hbc2 := hb2.cell; have hbl2 := hb2.lt) | (go_at_call 19; (with_reducible refine (HK.out _ _ ?_).mono ?_); (focus (exact hV)); rintro e w3 ⟨rfl, hF3⟩; have hb3 := hF3.blk hb2 (by simp); have hbc3 := hb3.cell)))
  go_wp2
  refine ⟨_, results_tmp3 rfl _ _ _, ?_⟩
  exact ⟨rfl, hR2.fr0 hF3, ((((Fr.refl [br] w).alloc _).trans (hF.mono (by simp))).drew.trans hF2).trans (hF3.mono (by simp))⟩
theorem knownF_none {l : List (ByteArray × Int)} {s : ByteArray} (k : Int) (h : placeF l s = none) : knownF l s k = (0, false, 0) := by unfold knownF; rw [h]
theorem RG.lock {w : World} {br base : Nat} {m : Int} {l : List (ByteArray × Int)} (h : RG w br base m l) (m' : Int) : RG (w.setCell ⟨br, 0, none⟩ (.int .i32 m')) br base m' l := by
  obtain ⟨⟨s0, s1, d, p, h1, h2⟩, h3, h4⟩ := h
  have hF : Fr [br] w (w.setCell ⟨br, 0, none⟩ (.int .i32 m')) := (Fr.refl _ _).set (.inl (by simp)) _
  refine ⟨⟨s0, s1, d, p, h1.set 0 _, ?_⟩, h3, Nat.le_trans h4 hF.size⟩
  rcases h2 with h2 | ⟨bv, h5, h6, h7⟩
  · exact .inl h2
  · exact .inr ⟨bv, h5, h6, h7.frb hF (by simp; omega)⟩
theorem RG.word {w : World} {br base : Nat} {m : Int} {l : List (ByteArray × Int)} (h : RG w br base m l) : Cel w br 0 (.int .i32 m) := by
  obtain ⟨⟨s0, s1, d, p, h1, h2⟩, h3, h4⟩ := h
  exact h1.cel 0 rfl
theorem ask_many (br base : Nat) (l : List (ByteArray × Int)) (s : ByteArray) (k : Int) (w : World) (h : RG w br base 0 l) (hr : rightF s k = 0) (hs : s.size ≤ maxLen) (hp : placeF l s = none) (hn : l.length = 4096) :
    Calls Tryz.prog 8 #[.pointer (some ⟨br, 0, none⟩), .agg #[.string s, .int .u8 k]] w fun e w' => e = .returned (.tuple #[.int .i64 0, .bool false, .int .i64 3]) ∧ RG w' br base 0 l ∧ Fr [br] w w' := by
  have hlt := h.lt
  have hR : ∀ W, Calls Tryz.prog 18 #[.agg #[.string s, .int .u8 k]] W fun e w' => e = .returned (.int .i64 0) ∧ Fr [] W w' := fun W => hr ▸ right_any s k W
  have hK : ∀ W bv, VW W base bv l → Calls Tryz.prog 19 #[.pointer (some ⟨bv, 0, none⟩), .agg #[.string s, .int .u8 k]] W fun e w' => e = .returned (.tuple #[.int .i64 0, .bool false, .int .i64 0]) ∧ Fr [] W w' := fun W bv hv => by
    have := known_any bv base l s k W hv hs
    rw [knownF_none k hp] at this
    exact this
  have HK := Lib.hid hK
  clear hK
  go_enter_defers Tryz.func8, Tryz.ntmps8
  go_wp2_with ((go_at_call 18); (with_reducible refine (hR _).mono ?_); rintro e w1 ⟨rfl, hF⟩; have hb := hF.blk (Blk.new w #[.string s, .int .u8 k] 31) (by simp); have hbc := hb.cell; have hbl := hb.lt; have hRG := Lib.hid ((h.al _).fr0 hF))
  go_region_held3 (fun w' => w'.cell? ⟨w.heap.size, 0, none⟩ = some (.string s) ∧ w'.cell? ⟨w.heap.size, 1, none⟩ = some (.int .u8 k)) (first | ((try dsimp only); refine ⟨?_, ?_⟩ <;> (first | (simp [go_sem, hbc]; done) | (simp [go_sem, hbc2]; done) | (simp [go_sem, hbc3]; done))) | (simp [go_sem, hbc]; done) | (simp [go_sem, hbc2]; done)) ((first | (go_at_call 16; (with_reducible refine (view_any br base 0 l _ ?_).mono ?_); (focus (exact hRG.out.fr0 (by repeat' (first | (with_reducible exact Fr.refl _ _) | (with_reducible refine Fr.drew ?_) | (with_reducible refine Fr.drN ?_ _) | (with_reducible refine Fr.alloc ?_ _) | (with_reducible refine Fr.set ?_ ?_ _) | (left; simp; done) | (right; simp; done) | (right; simp; omega))))); rintro e w2 ⟨bv, rfl, hV, hR2, hF2⟩; have hb2 := hF2.blk (b := w.heap.size) (by first | exact hb.drew | exact hb) (by simp; omega); have hbc2 := hb2.cell; have hbl2 := hb2.lt) | (go_at_call 19; (with_reducible refine (HK.out _ _ ?_).mono ?_); (focus (exact hV)); rintro e w3 ⟨rfl, hF3⟩; have hb3 := hF3.blk hb2 (by simp); have hbc3 := hb3.cell)))
  have hbl3 := hb3.lt
  have hR3 := hR2.fr0 hF3
  have hFa : Fr [br] w w3 := ((((Fr.refl [br] w).alloc _).trans (hF.mono (by simp))).drew.trans hF2).trans (hF3.mono (by simp))
  have HR3 := Lib.hid hR3
  clear hbc hbc2 hb hb2 hbl hbl2 hV hR2 hR3 hF hF2 hF3 hRG
  rename_i hHeld
  clear hHeld
  have hcw := HR3.out.word
  go_wp2_with (first | ((go_at_call 20); (with_reducible refine (lock_free' br 0 _ hcw).mono ?_); rintro e w4 ⟨rfl, rfl⟩; have HR4 := Lib.hid (HR3.out.lock 1)) | ((go_at_call 16); (with_reducible refine (view_any br base 1 l _ HR4.out).mono ?_); rintro e w5 ⟨bv5, rfl, hV5, hR5, hF5⟩; have hb5 := hF5.blk (b := w.heap.size) (hb3.other (by simp; omega) _) (by simp; omega); have hbc5 := hb5.cell; have hbl5 := hb5.lt) | ((go_at_call 19); (with_reducible refine (HK.out _ _ hV5).mono ?_); rintro e w6 ⟨rfl, hF6⟩; have hV6 := hV5.frb hF6 (by simp); have hlen : (l.length : Int) = 4096 := (by omega); obtain ⟨⟨sv, mv, g1, g2, g3⟩, g4, g5⟩ := hV6; obtain ⟨sa, sc, hsv⟩ := g2.at_; subst hsv; have g1c := g1.cell; have g1l := g1.lt))
  have hR6 := hR5.fr0 hF6
  have hFb : Fr [br] w w6 := ((hFa.set (.inl (by simp)) _).trans hF5).trans (hF6.mono (by simp))
  refine leaves_cons (f := 21) (args := #[.pointer (some ⟨br, 0, none⟩)]) (by simp) (by simp [go_sem]) ?_
  refine (Go.MuLone.unlock_deferred muLib ⟨br, 0, none⟩ .returning _ hR6.word.c hR6.word.f).mono ?_
  rintro e u' w'' ⟨rfl, rfl, rfl⟩
  exact ⟨_, results_tmp3 rfl _ _ _, rfl, hR6.lock 0, hFb.set (.inl (by simp)) _⟩
end Go.Proofs.YtbbnafnnbhbbcaaGreatDoor
