/- A registry's Ask, of a new name. -/
import Derived.Test.YtbbnafnnbhbbcaaGreatDoorAsk
import Derived.Test.YtbbnafnnbhbbcaaGreatDoorStepSv
namespace Go.Proofs.YtbbnafnnbhbbcaaGreatDoor
open Go.RowKit Go.Maps
set_option maxRecDepth 100000
set_option linter.unusedVariables false
set_option linter.unusedSimpArgs false
set_option maxHeartbeats 4000000
theorem SV.base_le {w : World} {base base' size : Nat} {v : Value} {n : Nat} {xs : List Value} (h : SV w base size v n xs) (hb : base' ≤ base) : SV w base' size v n xs := by
  obtain ⟨h1, h2⟩ := h
  refine ⟨h1, ?_⟩
  rcases h2 with h2 | ⟨g, o, c, e, k1, k2⟩
  · exact .inl h2
  · exact .inr ⟨g, o, c, e, Nat.le_trans hb k1, k2⟩
theorem cells_of_blk {W : World} {b : Nat} {xs : List Value} {t : TypeId} (h : Blk W b xs.toArray t) : ∀ j u, xs[j]? = some u → W.cell? ((⟨b, 0, none⟩ : Addr).add j) = some u := fun j u hj => by
  rw [show (⟨b, 0, none⟩ : Addr).add j = ⟨b, j, none⟩ by unfold Addr.add; split <;> simp_all, h.cell j]
  simpa using hj
theorem OM.fr {S : List Nat} {w w' : World} {b n : Nat} {D : DataW Unit} (h : w.ownsMap Tryz.prog 9 ME b n D) (f : Fr S w w') (hb : b ∉ S) : w'.ownsMap Tryz.prog 9 ME b n D := by
  obtain ⟨es, clock, he, r⟩ := h
  exact ⟨es, clock, (f.block b (Array.getElem?_eq_some_iff.1 he).1 hb).trans he, r⟩
theorem OM.mk0 (w : World) (b : Nat) (hb : b = w.heap.size) : (w.alloc (.map #[] 0)).ownsMap Tryz.prog 9 ME b 0 (.map []) := by
  subst hb; exact World.ownsMap_made _ _ _ _
theorem key_ne {s t : ByteArray} (h : s ≠ t) : key s ≠ key t := by
  intro e
  simp only [key, Lit.string.injEq] at e
  apply h
  cases s; cases t
  simp only at e
  exact congrArg _ (Array.toList_inj.1 e)
theorem place_snoc_same {l : List (ByteArray × Int)} {s : ByteArray} (k : Int) (h : placeF l s = none) : placeF (l ++ [(s, k)]) s = some l.length := by
  unfold placeF at h ⊢
  rw [List.findIdx?_append, h]
  simp
theorem place_snoc_other {l : List (ByteArray × Int)} {s t : ByteArray} (k : Int) (h : t ≠ s) : placeF (l ++ [(s, k)]) t = placeF l t := by
  unfold placeF
  rw [List.findIdx?_append]
  have : List.findIdx? (fun a : ByteArray × Int => decide (a.1 = t)) [(s, k)] = none := by simp [Ne.symm h]
  rw [this]
  simp
theorem MD.put {D : DataW Unit} {l : List (ByteArray × Int)} {s : ByteArray} (k : Int) (h : MD D (placeF l)) (hD : IsMap D) (hp : placeF l s = none) : MD (D.put (key s) (.lit (.int .i64 (l.length : Int)))) (placeF (l ++ [(s, k)])) := by
  intro t ht
  by_cases e : t = s
  · subst e
    rw [place_snoc_same k hp, has_put_same hD (mlaw.key (mkey t ht)), atKey_put_same hD (mlaw.key (mkey t ht))]
    exact ⟨rfl, rfl⟩
  · rw [place_snoc_other k e, has_put_other (key_ne e), atKey_put_other (key_ne e)]
    exact h t ht
theorem copy_mv (bd base n : Nat) (mv : Value) (f : ByteArray → Option Nat) (w : World) (h : MV w base mv n f) (hdst : w.ownsMap Tryz.prog 9 ME bd 0 (.map [])) (hne : ∀ b, mv = .map (some b) → b ≠ bd) (hn : n < maxLen) :
    Calls Tryz.prog 23 #[.map (some bd), mv] w fun e w' => e = .returned (.tuple #[]) ∧ (∃ D, w'.ownsMap Tryz.prog 9 ME bd n D ∧ MD D f) ∧ Fr [bd] w w' := by
  rcases h with ⟨rfl, hf⟩ | ⟨b, D, rfl, hb, ho, hD⟩
  · refine (copy_nil bd w).mono ?_
    rintro e w' ⟨rfl, hF⟩
    refine ⟨rfl, ⟨.map [], (OM.fr hdst hF (by simp)).mono (Nat.zero_le _), ?_⟩, hF.mono (by simp)⟩
    intro s hs
    rw [hf s]
    exact ⟨rfl, rfl⟩
  · refine (copy_any b bd n D w ho hdst (hne b rfl) hn).mono ?_
    rintro e w' ⟨rfl, ho', hF⟩
    exact ⟨rfl, ⟨D, ho', hD⟩, hF⟩
theorem Blk.neOM {w : World} {b b' n : Nat} {cs : Array Value} {t : TypeId} {D : DataW Unit} (h : Blk w b cs t) (ho : w.ownsMap Tryz.prog 9 ME b' n D) : b ≠ b' := by
  rintro rfl
  obtain ⟨es, clock, he, _⟩ := ho
  unfold Blk at h
  rw [h] at he
  cases he
theorem SV.neOM {w : World} {base b' n m : Nat} {v : Value} {xs : List Value} {D : DataW Unit} (h : SV w base 2 v (n + 1) xs) (ho : w.ownsMap Tryz.prog 9 ME b' m D) : ∀ g, v.ownBlock = some g → g ∉ [b'] := by
  intro g hg hm
  simp at hm
  subst hm
  rcases h.2 with ⟨_, h2⟩ | ⟨g', off, cap, rfl, h1, h2, h3, h4, h5, _⟩
  · cases h2
  · simp [Value.ownBlock] at hg
    subst hg
    have hl : 0 < xs.length := by rw [h.1]; omega
    have h6 := h5 0 _ (List.getElem?_eq_getElem hl)
    obtain ⟨es, clock, he, _⟩ := ho
    simp [World.cell?, he] at h6
/-- A registry that has put a view. -/
structure RV (w : World) (br base : Nat) (m : Int) (l : List (ByteArray × Int)) (bv : Nat) : Prop where
  ex : ∃ s0 s1, Blk w br #[.int .i32 m, .int .u32 s0, .int .u32 1, .int .i32 0, .int .u32 s1, .pointer (some ⟨bv, 0, none⟩)] 74
  vw : VW w base bv l
  lo : br < base
  hi : base ≤ w.heap.size
theorem RV.rg {w : World} {br base : Nat} {m : Int} {l : List (ByteArray × Int)} {bv : Nat} (h : RV w br base m l bv) : RG w br base m l := by
  obtain ⟨s0, s1, h1⟩ := h.ex
  exact ⟨⟨s0, s1, 1, _, h1, .inr ⟨bv, rfl, rfl, h.vw⟩⟩, h.lo, h.hi⟩
theorem RV.fr0 {w w' : World} {br base : Nat} {m : Int} {l : List (ByteArray × Int)} {bv : Nat} (h : RV w br base m l bv) (f : Fr [] w w') : RV w' br base m l bv := by
  obtain ⟨s0, s1, h1⟩ := h.ex
  exact ⟨⟨s0, s1, f.blk h1 (by simp)⟩, h.vw.frb f (by simp), h.lo, Nat.le_trans h.hi f.size⟩
theorem view_rv (br base : Nat) (m : Int) (l : List (ByteArray × Int)) (w : World) (h : RG w br base m l) :
    Calls Tryz.prog 16 #[.pointer (some ⟨br, 0, none⟩)] w fun e w' => ∃ bv, e = .returned (.pointer (some ⟨bv, 0, none⟩)) ∧ RV w' br base m l bv ∧ Fr [br] w w' := by
  obtain ⟨⟨s0, s1, d, p, h1, h2⟩, h3, h4⟩ := h
  rcases h2 with ⟨rfl, rfl, rfl⟩ | ⟨bv, rfl, rfl, h7⟩
  · refine (view_first br _ s0 s1 w h1).mono ?_
    rintro e w' ⟨bv, rfl, hb, hv, hr, hF⟩
    have hV : VW w' base bv [] := VW.empty hv (by omega)
    exact ⟨bv, rfl, ⟨⟨s0, s1, hr⟩, hV, h3, Nat.le_trans h4 hF.size⟩, hF⟩
  · obtain ⟨⟨sv, mv, hv, hv2, hv3⟩, hv4, hv5⟩ := id h7
    refine (view_again br bv _ _ rfl s0 s1 w h1 hv).mono ?_
    rintro e w' ⟨rfl, rfl⟩
    have hF : Fr [br] w (w.alloc (.cells #[.pointer (some ⟨br, 0, none⟩)] 25)) := (Fr.refl _ _).alloc _
    have hF0 : Fr [] w (w.alloc (.cells #[.pointer (some ⟨br, 0, none⟩)] 25)) := (Fr.refl _ _).alloc _
    exact ⟨bv, rfl, ⟨⟨s0, s1, h1.alloc _⟩, h7.frb hF0 (by simp), h3, Nat.le_trans h4 hF.size⟩, hF⟩
theorem ask_new (br base : Nat) (l : List (ByteArray × Int)) (s : ByteArray) (k : Int) (w : World) (h : RG w br base 0 l) (hr : rightF s k = 0) (hs : s.size ≤ maxLen) (hp : placeF l s = none) (hn : l.length < 4096) :
    Calls Tryz.prog 8 #[.pointer (some ⟨br, 0, none⟩), .agg #[.string s, .int .u8 k]] w fun e w' => e = .returned (.tuple #[.int .i64 (l.length : Int), .bool true, .int .i64 0]) ∧ RG w' br base 0 (l ++ [(s, k)]) ∧ Fr [br] w w' := by
  have hlt := h.lt
  have hR : ∀ W, Calls Tryz.prog 18 #[.agg #[.string s, .int .u8 k]] W fun e w' => e = .returned (.int .i64 0) ∧ Fr [] W w' := fun W => hr ▸ right_any s k W
  have hK : ∀ W bv, VW W base bv l → Calls Tryz.prog 19 #[.pointer (some ⟨bv, 0, none⟩), .agg #[.string s, .int .u8 k]] W fun e w' => e = .returned (.tuple #[.int .i64 0, .bool false, .int .i64 0]) ∧ Fr [] W w' := fun W bv hv => by
    have := known_any bv base l s k W hv hs
    rw [knownF_none k hp] at this
    exact this
  have HK := Lib.hid hK
  clear hK
  go_enter_defers Tryz.func8, Tryz.ntmps8
  go_wp2_with ((go_at_call 18); (with_reducible refine (hR _).mono ?_); rintro e w1 ⟨rfl, hF⟩; have hb := hF.blk (Blk.new w #[.string s, .int .u8 k] 31) (by simp); have hbc := hb.cell; have hbl := hb.lt; have hRG := Lib.hid ((h.al _).fr0 hF))
  go_region_held3 (fun w' => w'.cell? ⟨w.heap.size, 0, none⟩ = some (.string s) ∧ w'.cell? ⟨w.heap.size, 1, none⟩ = some (.int .u8 k)) (first | ((try dsimp only); refine ⟨?_, ?_⟩ <;> (first | (simp [go_sem, hbc]; done) | (simp [go_sem, hbc2]; done) | (simp [go_sem, hbc3]; done))) | (simp [go_sem, hbc]; done) | (simp [go_sem, hbc2]; done)) ((first | (go_at_call 16; (with_reducible refine (view_any br base 0 l _ ?_).mono ?_); (focus (exact hRG.out.fr0 (by repeat' (first | (with_reducible exact Fr.refl _ _) | (with_reducible refine Fr.drew ?_) | (with_reducible refine Fr.drN ?_ _) | (with_reducible refine Fr.alloc ?_ _) | (with_reducible refine Fr.set ?_ ?_ _) | (left; simp; done) | (right; simp; done) | (right; simp; omega))))); rintro e w2 ⟨bv, rfl, hV, hR2, hF2⟩; have hb2 := hF2.blk (b := w.heap.size) (by first | exact hb.drew | exact hb) (by simp; omega); have hbc2 := hb2.cell; have hbl2 := hb2.lt) | (go_at_call 19; (with_reducible refine (HK.out _ _ ?_).mono ?_); (focus (exact hV)); rintro e w3 ⟨rfl, hF3⟩; have hb3 := hF3.blk hb2 (by simp); have hbc3 := hb3.cell)))
  have hbl3 := hb3.lt
  have hR3 := hR2.fr0 hF3
  have hFa : Fr [br] w w3 := ((((Fr.refl [br] w).alloc _).trans (hF.mono (by simp))).drew.trans hF2).trans (hF3.mono (by simp))
  have HR3 := Lib.hid hR3
  clear hbc hbc2 hb hb2 hbl hbl2 hV hR2 hR3 hF hF2 hF3 hRG
  rename_i hHeld
  clear hHeld
  have hcw := HR3.out.word
  go_wp2_with (first | ((go_at_call 20); (with_reducible refine (lock_free' br 0 _ hcw).mono ?_); rintro e w4 ⟨rfl, rfl⟩; have HR4 := Lib.hid (HR3.out.lock 1)) | ((go_at_call 16); (with_reducible refine (view_rv br base 1 l _ HR4.out).mono ?_); rintro e w5 ⟨bv5, rfl, hR5, hF5⟩; have hV5 := hR5.vw; have hb5 := hF5.blk (b := w.heap.size) (hb3.other (by simp; omega) _) (by simp; omega); have hbc5 := hb5.cell; have hbl5 := hb5.lt) | ((go_at_call 19); (with_reducible refine (HK.out _ _ hV5).mono ?_); rintro e w6 ⟨rfl, hF6⟩; have hV6 := hV5.frb hF6 (by simp); have hlen : ((l.length : Int) == 4096) = false := (by simp; omega); obtain ⟨⟨sv, mv, g1, g2, g3⟩, g4, g5⟩ := hV6; obtain ⟨sa, sc, hsv⟩ := g2.at_; subst hsv; have g1c := g1.cell; have g1l := g1.lt))
  have hb6 := hF6.blk hb5 (by simp)
  have hR6 := Lib.hid (hR5.fr0 hF6)
  have hFb : Fr [br] w w6 := ((hFa.set (.inl (by simp)) _).trans hF5).trans (hF6.mono (by simp))
  have hhi := hR5.hi
  have hsz6 := hF6.size
  have HFb := Lib.hid hFb
  have HG2 := Lib.hid g2
  clear hFa hF5 hF6 hR5 hV5 HR3 HR4 hcw hbc3 hbc5 hb3 hb5 hFb g2
  have g2 := HG2.out
  go_cut [16] from 61 to 71 (fun v wr => ∃ (bn bm : Nat) (v' : Value), v = .pointer (some ⟨bn, 0, none⟩) ∧ Blk wr bn #[v', .map (some bm)] 79 ∧ SV wr base 2 v' (l.length + 1) (flat (l ++ [(s, k)])) ∧ wr.ownsMap Tryz.prog 9 ME bm 0 (.map []) ∧ w6.heap.size ≤ bn ∧ w6.heap.size ≤ bm ∧ Fr [] w6 wr)
  case first =>
    obtain ⟨i0, hi0, hz0, hz1, hz2⟩ := info_parts infoA
    have hbc6 := hb6.cell
    have hbl6 := hb6.lt
    have hmm := @run_makeMap Tryz.prog
    go_region_held3 (fun w' => w'.cell? ⟨w.heap.size, 0, none⟩ = some (.string s) ∧ w'.cell? ⟨w.heap.size, 1, none⟩ = some (.int .u8 k) ∧ w'.cell? ⟨bv5, 0, none⟩ = some (.slice sa l.length sc)) (first | ((try dsimp only); refine ⟨?_, ?_, ?_⟩ <;> (first | (simp [go_sem, hbc6, hbl6, g1c, g1l]; done) | (simp [go_sem, hbcc, hbcl, hgcc, hgcl]; done) | (simp [go_sem, hbdc, hbdl, hgdc, hgdl]; done))) | (simp [go_sem, hbc6, hbl6, g1c, g1l]; done) | (simp [go_sem, hbcc, hbcl, hgcc, hgcl]; done) | (simp [go_sem, hbdc, hbdl, hgdc, hgdl]; done)) ((first | (go_at_call 22; (refine (clone_any base _ l _ ?_ g5).mono ?_); (focus (refine SV.fr0 g2 ?_; repeat' (first | (with_reducible exact Fr.refl _ _) | (with_reducible refine Fr.drew ?_) | (with_reducible refine Fr.drN ?_ _) | (with_reducible refine Fr.alloc ?_ _) | (with_reducible refine Fr.set ?_ ?_ _) | (left; simp; done) | (right; simp; done) | (right; simp; omega)))); rintro e wc ⟨vc, rfl, hSc, hFc⟩; have hbc : Blk wc w.heap.size #[.string s, .int .u8 k] 31 := (by refine hFc.blk ?_ ?_; (focus (repeat' (first | (with_reducible exact hb6) | (with_reducible refine Blk.drew ?_) | (with_reducible refine Blk.drN ?_ _) | (with_reducible refine Blk.set ?_ _ _) | (with_reducible refine Blk.other ?_ ?_ _) | (with_reducible refine Blk.alloc ?_ _) | (simp; done) | (simp; omega)))); (focus (simp))); have hbcc := hbc.cell; have hbcl := hbc.lt; have hgc : Blk wc bv5 #[.slice sa l.length sc, mv] 79 := (by refine hFc.blk ?_ ?_; (focus (repeat' (first | (with_reducible exact g1) | (with_reducible refine Blk.drew ?_) | (with_reducible refine Blk.drN ?_ _) | (with_reducible refine Blk.set ?_ _ _) | (with_reducible refine Blk.other ?_ ?_ _) | (with_reducible refine Blk.alloc ?_ _) | (simp; done) | (simp; omega)))); (focus (simp))); have hgcc := hgc.cell; have hgcl := hgc.lt; have hszc := hFc.size) | ((refine step_append_sv rfl (.tmp 65) (.tmp 67) 22 rfl 31 i0 (.agg #[.string ByteArray.empty, .int .u8 0]) 2 24 Tryz.underlying22 hi0 hz0 hz1 hz2 rfl ?_ base _ l.length (flat l) rfl ?_ ?_ _ 1 1 [.string s, .int .u8 k] rfl rfl (cells_of_blk (t := 31) ?_) ?_ ?_ ?_ ?_ ?_); (focus (decide)); (focus (refine SV.fr0 (SV.base_le hSc ?_) ?_; (focus (simp at hszc ⊢; omega)); repeat' (first | (with_reducible exact Fr.refl _ _) | (with_reducible refine Fr.drew ?_) | (with_reducible refine Fr.drN ?_ _) | (with_reducible refine Fr.alloc ?_ _) | (with_reducible refine Fr.set ?_ ?_ _) | (left; simp; done) | (right; simp; done) | (right; simp; omega)))); (focus (simp at hszc ⊢; omega)); (focus (repeat' (first | ((with_reducible refine Blk.mk0 _ _ _ _ ?_); first | (simp; done) | (simp; omega)) | (with_reducible refine Blk.drew ?_) | (with_reducible refine Blk.alloc ?_ _) | (refine hFc.blk ?_ ?_) | (simp; done) | (simp; omega)))); (focus (simp [Value.oneCell'])); (focus (unfold maxLen; omega)); (focus omega); (focus decide); intro v4 w4 hS4 hF4; obtain ⟨va4, vc4, hv4⟩ := hS4.at_; subst hv4; have hbd : Blk w4 w.heap.size #[.string s, .int .u8 k] 31 := (by refine hF4.blk ?_ ?_; (focus (repeat' (first | (with_reducible exact hbc) | (with_reducible refine Blk.drew ?_) | (with_reducible refine Blk.drN ?_ _) | (with_reducible refine Blk.set ?_ _ _) | (with_reducible refine Blk.other ?_ ?_ _) | (with_reducible refine Blk.alloc ?_ _) | (simp; done) | (simp; omega)))); (focus (intro hz; rw [Option.mem_toList] at hz; have := (hSc.own hz).1; simp at this; omega))); have hbdc := hbd.cell; have hbdl := hbd.lt; have hgd : Blk w4 bv5 #[.slice sa l.length sc, mv] 79 := (by refine hF4.blk ?_ ?_; (focus (repeat' (first | (with_reducible exact hgc) | (with_reducible refine Blk.drew ?_) | (with_reducible refine Blk.drN ?_ _) | (with_reducible refine Blk.set ?_ _ _) | (with_reducible refine Blk.other ?_ ?_ _) | (with_reducible refine Blk.alloc ?_ _) | (simp; done) | (simp; omega)))); (focus (intro hz; rw [Option.mem_toList] at hz; have := (hSc.own hz).1; simp at this; omega))); have hgdc := hgd.cell; have hgdl := hgd.lt)))
    all_goals go_wp2
    all_goals go_meet
    all_goals (have hz4 := hF4.size)
    all_goals (have eq1 : flat l ++ [Value.string s, Value.int .u8 k] = flat (l ++ [(s, k)]) := (by simp [flat]))
    all_goals (rw [eq1] at hS4)
    all_goals (have hX : Fr [] w6 w4 := (by
      refine (Fr.trans (Fr.mono (Fr.trans (Fr.trans ?_ hFc) ?_) (by simp)) hF4).weaken ?_
      · repeat' (first | (with_reducible exact Fr.refl _ _) | (with_reducible refine Fr.drew ?_) | (with_reducible refine Fr.drN ?_ _) | (with_reducible refine Fr.alloc ?_ _) | (with_reducible refine Fr.set ?_ ?_ _) | (left; simp; done) | (right; simp; done) | (right; simp; omega))
      · repeat' (first | (with_reducible exact Fr.refl _ _) | (with_reducible refine Fr.drew ?_) | (with_reducible refine Fr.drN ?_ _) | (with_reducible refine Fr.alloc ?_ _) | (with_reducible refine Fr.set ?_ ?_ _) | (left; simp; done) | (right; simp; done) | (right; simp; omega))
      · intro z hz
        rw [Option.mem_toList] at hz
        have := hSc.own hz
        right
        simp at this
        omega))
    all_goals (refine ⟨_, _, _, rfl, Blk.mk0 _ _ _ _ (by simp), SV.fr0 hS4 ?_, ?_, ?_, ?_, ?_⟩)
    all_goals (first
      | ((repeat' (first | (with_reducible exact Fr.refl _ _) | (with_reducible refine Fr.drew ?_) | (with_reducible refine Fr.drN ?_ _) | (with_reducible refine Fr.alloc ?_ _) | (with_reducible refine Fr.set ?_ ?_ _) | (left; simp; done) | (right; simp; done) | (right; simp; omega))); done)
      | ((repeat' (first | (with_reducible exact hX) | (with_reducible refine Fr.drew ?_) | (with_reducible refine Fr.drN ?_ _) | (with_reducible refine Fr.alloc ?_ _) | (with_reducible refine Fr.set ?_ ?_ _) | (left; simp; done) | (right; simp; done) | (right; simp; omega))); done)
      | (simp at hz4 hszc ⊢; omega)
      | ((repeat' (first | (refine OM.mk0 _ _ ?_; first | (simp; done) | (simp; omega)) | (with_reducible refine World.ownsMap.alloc ?_ _) | (with_reducible refine World.ownsMap.drew ?_) | (with_reducible refine OM.fr ?_ hF4 ?_) | (with_reducible refine OM.fr ?_ hFc ?_) | (simp; done) | (intro hz; rw [Option.mem_toList] at hz; have h2 := (hSc.own hz).2; omega) | (intro hz; rw [Option.mem_toList] at hz; have := hSc.own hz; simp at this hszc; omega))); done)
      | skip)
  case rest =>
    obtain ⟨bn, bm, v', rfl, hbn, hSv, hom, hn1, hm1, hFr⟩ := hcut
    have hbw := hFr.blk hb6 (by simp)
    have hgw := hFr.blk g1 (by simp)
    have g3w := Lib.hid (g3.frb hFr (by simp))
    have hFw := Lib.hid (HFb.out.trans (hFr.mono (by simp)))
    have hbwc := hbw.cell
    have hgwc := hgw.cell
    have hbnc := hbn.cell
    have hbwl := hbw.lt
    have hgwl := hgw.lt
    have hbnl := hbn.lt
    have hSW := Lib.hid hSv
    have HFr := Lib.hid hFr
    have hsv := SV.neOM hSv hom
    have HSV := Lib.hid hsv
    clear hsv
    clear hSv hFr hb6 g1 g1c g1l
    have hcd := copy_mv bm base l.length mv (placeF l) wc.drew (g3w.out.frb ((Fr.refl [] wc).drew) (by simp)) (OM.fr hom ((Fr.refl [] wc).drew) (by simp)) (fun b hb hbm => by
      rcases g3 with ⟨e, _⟩ | ⟨b', D, e, _, ho, _⟩
      · rw [e] at hb; cases hb
      · rw [e] at hb
        cases hb
        have := ho.lt
        omega) (by unfold maxLen; omega)
    have HCD := Lib.hid hcd
    clear hcd
    go_wp2_with fail
    go_still_tail 8, (by kernel_rfl)
    change wpList _ _ _ _ _ wc.drew
    go_wp2_with (go_at_call 23; (with_reducible refine HCD.out.mono ?_); rintro e w7 ⟨rfl, ⟨D, hoD, hMD⟩, hF7⟩)
    have hd1 := hbn.neOM hom
    have hd2 := hbw.neOM hom
    have hbn7 := hF7.blk hbn.drew (by simpa using hd1)
    have hbw7 := hF7.blk hbw.drew (by simpa using hd2)
    have hbn7c := hbn7.cell
    have hbn7l := hbn7.lt
    have hbw7c := hbw7.cell
    have hbw7l := hbw7.lt
    have HOD := Lib.hid hoD
    have hoD8 := hoD.isMap
    have HF7 := Lib.hid hF7
    clear hbnc hbwc hgwc hgwl hbwl hbnl hgw hoD hF7 hom
    go_wp2_with fail
    go_still_tail 7, (by kernel_rfl)
    change wpList _ _ _ _ _ w7.drew
    go_wp2_with (at_mapUpdate; refine wpList_mapUpdate_own _ rfl _ _ _ 77 rfl 9 3 mlaw Tryz.underlying77 _ bm l.length D rfl HOD.out.drew ?_ _ _ _ rfl rfl (mkey s hs) _ [] (plainElem_int Tryz.underlying3 ?_) ?_; (focus (unfold maxLen; omega)); (focus (exact WalkArith.wf_i64 (by omega))); intro w8 ho8 hg8)
    have hF8 : Fr [bm] wc w8 := (((Fr.refl [bm] wc).drew).trans HF7.out).drew.trans (Fr.of_grown1 hg8)
    have hF68 : Fr [] w6 w8 := ((HFr.out.mono (by simp)).trans hF8).weaken (by intro z hz; simp at hz; subst hz; exact .inr hm1)
    have hR8 := hR6.out.fr0 hF68
    have hbn8 := (Fr.of_grown1 hg8).blk hbn7.drew (by simpa using hd1)
    have hV8 : VW w8 base bn (l ++ [(s, k)]) := by
      refine ⟨⟨v', .map (some bm), hbn8, ?_, .inr ⟨bm, _, rfl, by omega, ?_, hMD.put k hoD8 hp⟩⟩, by omega, by simp; omega⟩
      · simpa using hSW.out.fr hF8 HSV.out
      · simpa using ho8
    obtain ⟨s0, s1, hbr8⟩ := hR8.ex
    have hlo := hR8.lo
    have hhi8 := hR8.hi
    have hcel := hbr8.cel 5 rfl
    have HV8 := Lib.hid hV8
    have HB8 := Lib.hid hbr8
    have HF8 := Lib.hid (HFb.out.trans (hF68.mono (by simp)))
    clear hV8 hbr8 hF68 hF8 hR8 hbn7 hbn7c hbn7l hbw7 hbw7c hbw7l hbn hbw
    go_wp2_with (go_at_call 24; (with_reducible refine (ptr_store br 5 bn _ _ _ hcel hbn8 rfl).mono ?_); rintro e w9 ⟨rfl, rfl⟩)
    have hb9 := HB8.out.set 5 (.pointer (some ⟨bn, 0, none⟩))
    have hF9 : Fr [br] w8 (w8.setCell ⟨br, 5, none⟩ (.pointer (some ⟨bn, 0, none⟩))) := (Fr.refl _ _).set (.inl (by simp)) _
    have hRV9 : RG (w8.setCell ⟨br, 5, none⟩ (.pointer (some ⟨bn, 0, none⟩))) br base 1 (l ++ [(s, k)]) :=
      RV.rg (bv := bn) ⟨⟨s0, s1, hb9⟩, HV8.out.frb hF9 (by simp; omega), hlo, Nat.le_trans hhi8 hF9.size⟩
    refine leaves_cons (f := 21) (args := #[.pointer (some ⟨br, 0, none⟩)]) (by simp) (by simp [go_sem]) ?_
    refine (Go.MuLone.unlock_deferred muLib ⟨br, 0, none⟩ .returning _ hRV9.word.c hRV9.word.f).mono ?_
    rintro e u' w'' ⟨rfl, rfl, rfl⟩
    exact ⟨_, results_tmp3 rfl _ _ _, rfl, hRV9.lock 0, (HF8.out.trans hF9).set (.inl (by simp)) _⟩
end Go.Proofs.YtbbnafnnbhbbcaaGreatDoor
