/- The package delta: (*Receiver).Take, of a right push. -/
import Derived.Test.YtmilnhicmeblhaaTa
import Derived.Deep.RegionHeld3
namespace Go.Proofs.Ytmilnhicmeblhaa
open Go.RowKit Go.Maps Go.Sort
set_option maxRecDepth 100000
set_option linter.unusedVariables false
set_option linter.unusedSimpArgs false
set_option maxHeartbeats 8000000
/-- What a Take leaves. -/
def TakePost (F : List Nat) (p b n : Nat) (q : Sq) (s : ByteArray) (num : Int) (ch : List Ch) (w : World) (e : Ending) (w' : World) : Prop :=
  e = .returned (.tuple #[.int .u64 (takeR q s num ch).1, .int .i64 (takeR q s num ch).2]) ∧
    (((takeR q s num ch).2 ≠ 0 ∧ Fr [] w w') ∨ ((takeR q s num ch).2 = 0 ∧ ∃ c F', RV w' F' p b (n + 1) (upd q s (c, (turnE true (hadQ q s).1 ch).1, num)) ∧ (∀ g ∈ F', g ∈ F ∨ w.heap.size ≤ g) ∧ Fr [b] w w'))
theorem TakePost.no {F : List Nat} {p b n : Nat} {q : Sq} {s : ByteArray} {num : Int} {ch : List Ch} {w w' : World} {x y : Int} (h : takeR q s num ch = (x, y)) (hy : y ≠ 0) (f : Fr [] w w') : TakePost F p b n q s num ch w (.returned (.tuple #[.int .u64 x, .int .i64 y])) w' := by
  unfold TakePost
  rw [h]
  exact ⟨rfl, .inl ⟨hy, f⟩⟩
theorem TakePost.yes {F : List Nat} {p b n : Nat} {q : Sq} {s : ByteArray} {num : Int} {ch : List Ch} {w w' : World} (h : takeR q s num ch = (num, 0)) {c : Slc} {F' : List Nat} (h1 : RV w' F' p b (n + 1) (upd q s (c, (turnE true (hadQ q s).1 ch).1, num))) (h2 : ∀ g ∈ F', g ∈ F ∨ w.heap.size ≤ g) (f : Fr [b] w w') :
    TakePost F p b n q s num ch w (.returned (.tuple #[.int .u64 num, .int .i64 0])) w' := by
  unfold TakePost
  rw [h]
  exact ⟨rfl, .inr ⟨rfl, c, F', h1, h2, f⟩⟩
/-- The sources, one of them anew. -/
theorem RV.put {w w' : World} {F : List Nat} {p b n : Nat} {q : Sq} (h : RV w F p b n q) (s : ByteArray) (hs : keyF s = true) {c : Slc} {t : List Ct} {k : Int} (f : Fr [b] w w') (hm : NM XH w' b (n + 1) (upd (mapQ q) s (c, k)))
    (hc : SV w' w.heap.size 2 (slV c) t.length (flat2 t)) (hr : rightC t = true) (hw : WC t) (hk : inW k) (hl : lk q s ≠ none ∨ q.length < 256) : RV w' (F ++ (slV c).ownBlock.toList) p b (n + 1) (upd q s (c, t, k)) := by
  have hg := h.gd
  have hbl := h.lt b h.bF
  refine ⟨f.blk h.bk (fun hm => by simp at hm; exact NM.neBlk h.bk h.mp hm), List.mem_append_left _ h.pF, List.mem_append_left _ h.bF, by rw [mapQ_upd]; exact hm, ?_, fun x hx => ?_, fun g hg => ?_, ?_, fun x hx => ?_⟩
  · rw [mapQ_upd]
    refine ⟨?_, fun a ha => ?_⟩
    · rw [upd_keys]
      split
      · exact hg.nd
      · rename_i hn
        rw [List.nodup_append]
        refine ⟨hg.nd, by simp, fun a ha c hc e => ?_⟩
        simp at hc
        subst hc e
        exact hn (lk_some_iff.2 ha)
    · rcases mem_upd ha with rfl | ha
      · exact keyF_size hs
      · exact hg.sz a ha
  · rcases mem_upd hx with rfl | hx
    · refine ⟨hc.base_le (Nat.zero_le _), fun g hg => ⟨by simp [hg], ?_⟩, hr, hw⟩
      have := (hc.own hg).1
      omega
    · obtain ⟨h1, h2, h3⟩ := h.tot x hx
      refine ⟨h1.fr f (fun g hg hm => ?_), fun g hg => ⟨List.mem_append_left _ (h2 g hg).1, (h2 g hg).2⟩, h3⟩
      simp at hm
      exact (h2 g hg).2 hm
  · rcases List.mem_append.1 hg with hg | hg
    · exact Nat.lt_of_lt_of_le (h.lt g hg) f.size
    · simp at hg
      exact (hc.own hg).2
  · rw [upd_len]
    have := h.len
    split
    · exact this
    · rename_i hn
      rcases hl with hl | hl
      · cases hq : lk q s with
        | none => exact absurd hq hl
        | some y => rw [hq] at hn; exact absurd rfl hn
      · omega
  · rcases mem_upd hx with rfl | hx
    · exact hk
    · exact h.nm x hx
theorem take_good (F : List Nat) (p b n : Nat) (q : Sq) (s : ByteArray) (num : Int) (vc : Value) (ch : List Ch) (w : World) (h : RV w F p b n q) (hc : RH w vc ch) (wc0 : WH ch) (nw : inW num) (hn : n < 9007199254740991)
    (hk : keyF s = true) (h1 : 1 ≤ num) (hr : rightH ch = true) :
    Calls Try.prog 20 #[.pointer (some ⟨p, 0, none⟩), puV s num vc] w (TakePost F p b n q s num ch w) := by
  obtain ⟨ca, cc, ec⟩ := hc.at_
  subst ec
  have mc := (rightH_iff.1 hr).2.2.2
  obtain ⟨av, cv, hlv, hsv, htr, htw, hkw⟩ := h.hv s
  obtain ⟨tot, ht0⟩ : ∃ t, (hadQ q s).1 = t := ⟨_, rfl⟩
  obtain ⟨k, hk0⟩ : ∃ k, (hadQ q s).2 = k := ⟨_, rfl⟩
  rw [ht0] at hsv htr htw
  rw [ht0, hk0] at hlv
  rw [hk0] at hkw
  obtain ⟨tb, htb⟩ : ∃ t, (lk q s).isSome = t := ⟨_, rfl⟩
  have hs5 : s.size ≤ maxLen := by have := keyF_size hk; unfold maxLen; omega
  have htl := (rightC_iff.1 htr).2.2
  have hn' : ¬ num < 1 := by omega
  have HT := Lib.hid (show takeR q s num ch = (if tb = false ∧ 256 ≤ q.length then (0, 3) else if num ≤ k then (k, 243) else if 1 < num - k then (k, 242) else if (turnE true tot ch).2 ≠ 0 then (k, (turnE true tot ch).2) else (num, 0)) from by
    unfold takeR
    rw [if_neg (by simp [hk, h1, hr]), hk0, ht0]
    have e : (lk q s = none) ↔ tb = false := by rw [← htb]; cases lk q s <;> simp
    simp only [e])
  have HQ := Lib.hid (key_q s true hk)
  have F1 := Lib.hid ((Fr.refl [] w).alloc (.cells #[.string s, .int .u64 num, .slice ca ch.length cc] 50))
  have HC := Lib.hid hc
  have HR := Lib.hid h
  have HLV := Lib.hid hlv
  have HTB := Lib.hid htb
  have HSV := Lib.hid hsv
  have HTR := Lib.hid htr
  have HTW := Lib.hid htw
  have HT0 := Lib.hid ht0
  have HRC := Lib.hid hr
  have HK := Lib.hid hk
  have hpl := h.bk.lt
  have hbl := h.lt b h.bF
  have HPB := Lib.hid h.bk
  have hqz := h.len
  unfold inW at nw hkw
  have hbx := Blk.new w #[.string s, .int .u64 num, .slice ca ch.length cc] 50
  have HBX := Lib.hid hbx
  have hbc := hbx.cell
  have hbz := hbx.lt
  have p1 := (h.bk.alloc (.cells #[.string s, .int .u64 num, .slice ca ch.length cc] 50)).cell
  have p1l : p < (w.alloc (.cells #[.string s, .int .u64 num, .slice ca ch.length cc] 50)).heap.size := by simp; omega
  clear h hc hlv htb hsv htr htw ht0 hk0 hbx hk hr
  go_enter Try.func20, Try.ntmps20
  go_upto_region 5 with (first | ((go_at_call 46); (with_reducible refine (HQ.out _).mono ?_); rintro e w1 ⟨rfl, rfl⟩) | ((go_at_call 18); (with_reducible refine (rightH_any _ ch _ (HC.out.fr0 F1.out) (by omega)).mono ?_); rw [HRC.out]; rintro e w1 ⟨rfl, hF⟩))
  refine wp_named ?_
  intro w2 hw2
  have F2 := Lib.hid (show Fr [] w w2 from hw2 ▸ F1.out.trans hF)
  have F12 := hF
  rw [hw2] at F12
  have HB2 := Lib.hid (F12.blk HBX.out (by simp))
  have HP2 := Lib.hid (F2.out.blk HPB.out (by simp))
  clear hw2 hF hbc hbz p1 p1l
  have bc := HB2.out.cell
  have bl := HB2.out.lt
  have pc := HP2.out.cell
  have pl := HP2.out.lt
  have hl2 := HR.out.lk97 F2.out s hs5 HLV.out HTB.out
  have hpn2 : p ≠ w2.heap.size := by omega
  have hbn2 : w.heap.size ≠ w2.heap.size := by omega
  go_cut [6, 7] (fun v u wx => v = .pointer (some ⟨w2.heap.size, 0, none⟩) ∧ u = .bool tb ∧ Hid (Blk wx w2.heap.size #[.slice av tot.length cv, .int .u64 k] 101) ∧ Hid (Fr [] w2 wx))
  case first =>
    go_region_held3 (fun w' => w'.cell? ⟨p, 0, none⟩ = some (.map (some b)) ∧ w'.cell? ⟨w.heap.size, 0, none⟩ = some (.string s) ∧ (Instr.lookup 97 (.map (some b)) (.string s) true).run Try.prog w' = .ok (.tuple #[.agg #[.slice av tot.length cv, .int .u64 k], .bool tb]) w') (first | ((try dsimp only); refine ⟨?_, ?_, ?_⟩ <;> (first | (simp [go_sem, *]; done) | (simp [go_sem, *, World.cell?_alloc_some, World.cell?_setCell_far]; done) | (exact HR.out.lk97 (by repeat' (first | (with_reducible exact F2.out) | (with_reducible refine Fr.drew ?_) | (with_reducible refine Fr.drN ?_ _) | (with_reducible refine Fr.alloc ?_ _) | (with_reducible refine Fr.set ?_ ?_ _) | (left; simp; done) | (right; simp; done) | (right; simp; omega))) s hs5 HLV.out HTB.out))) | (simp [go_sem, *]; done) | (simp [go_sem, *, World.cell?_alloc_some, World.cell?_setCell_far]; done)) (fail)
    all_goals go_wp2
    all_goals go_meet
    all_goals (exact ⟨rfl, rfl, Lib.hid (by repeat' (first | ((with_reducible refine Blk.mk0 _ _ _ _ ?_); first | (simp; done) | (simp; omega)) | (with_reducible refine Blk.drew ?_) | (with_reducible refine Blk.drN ?_ _) | (with_reducible refine Blk.set ?_ _ _) | (with_reducible refine Blk.other ?_ ?_ _) | (with_reducible refine Blk.alloc ?_ _) | (simp; done) | (simp; omega))), Lib.hid (by repeat' (first | (with_reducible exact Fr.refl _ _) | (with_reducible refine Fr.drew ?_) | (with_reducible refine Fr.drN ?_ _) | (with_reducible refine Fr.alloc ?_ _) | (with_reducible refine Fr.set ?_ ?_ _) | (left; simp; done) | (right; simp; done) | (right; simp; omega)))⟩)
  case rest =>
  obtain ⟨rfl, rfl, HH, F25⟩ := hcut
  clear bc bl pc pl hl2
  go_upto_region 6 with fail
  refine wp_named ?_
  intro w5 hw5
  rw [hw5] at HH F25
  clear hw5
  have F5 := Lib.hid (F2.out.trans F25.out)
  have HB5 := Lib.hid (F25.out.blk HB2.out (by simp))
  have HP5 := Lib.hid (F25.out.blk HP2.out (by simp))
  have hml : (Builtin.len_ #[97] 3 #[.map (some b)]).run Try.prog w5 = .ok (.int .i64 q.length) w5 := by
    have := (HR.out.mp.fr0 F5.out).size HR.out.gd 3
    rw [show (mapQ q).length = q.length by simp [mapQ]] at this
    exact this
  have HRC5 := Lib.hid (HSV.out.rd.fr0 F5.out)
  have HRH5 := Lib.hid (HC.out.fr0 F5.out)
  have bc := HB5.out.cell
  have bl := HB5.out.lt
  have pc := HP5.out.cell
  have pl := HP5.out.lt
  have hc5 := HH.out.cell
  have hl5 := HH.out.lt
  have hz5 := F5.out.size
  by_cases hfull : tb = false ∧ 256 ≤ q.length
  · obtain ⟨rfl, hq⟩ := hfull
    have hqi : (256 : Int) ≤ (q.length : Int) := by omega
    have hT := HT.out
    rw [if_pos ⟨rfl, hq⟩] at hT
    have HT2 := Lib.hid hT
    clear hT
    go_wp2
    go_ret2
    exact TakePost.no HT2.out (by decide) F5.out
  · have hT := HT.out
    rw [if_neg hfull] at hT
    have HT2 := Lib.hid hT
    clear hT
    have hcase : tb = true ∨ (tb = false ∧ q.length < 256) := by
      cases tb with
      | true => exact .inl rfl
      | false => exact .inr ⟨rfl, by have : ¬ 256 ≤ q.length := fun h => hfull ⟨rfl, h⟩; omega⟩
    have HFULL := Lib.hid (show lk q s ≠ none ∨ q.length < 256 by
      rcases hcase with h | h
      · left
        intro e
        have := HTB.out
        rw [e, h] at this
        cases this
      · exact .inr h.2)
    clear hfull HTB
    by_cases c2 : num ≤ k
    · have hT := HT2.out
      rw [if_pos c2] at hT
      have HT3 := Lib.hid hT
      clear hT
      rcases hcase with rfl | ⟨rfl, hq⟩
      · go_wp2
        go_ret2
        exact TakePost.no HT3.out (by decide) F5.out
      · have hqi : ¬ (256 : Int) ≤ (q.length : Int) := by omega
        go_wp2
        go_ret2
        exact TakePost.no HT3.out (by decide) F5.out
    · have hsub : IntKind.u64.wrap (num - k) = num - k := by rw [IntKind.wrap_u64]; omega
      by_cases c3 : 1 < num - k
      · have hT := HT2.out
        rw [if_neg c2, if_pos c3] at hT
        have HT3 := Lib.hid hT
        clear hT
        rcases hcase with rfl | ⟨rfl, hq⟩
        · go_wp2
          go_ret2
          exact TakePost.no HT3.out (by decide) F5.out
        · have hqi : ¬ (256 : Int) ≤ (q.length : Int) := by omega
          go_wp2
          go_ret2
          exact TakePost.no HT3.out (by decide) F5.out
      · have hT := HT2.out
        rw [if_neg c2, if_neg c3] at hT
        have HT3 := Lib.hid hT
        clear hT
        obtain ⟨T, hTT⟩ : ∃ T, (turnE true tot ch).1 = T := ⟨_, rfl⟩
        obtain ⟨y, hyy⟩ : ∃ y, (turnE true tot ch).2 = y := ⟨_, rfl⟩
        have HTT := Lib.hid hTT
        have HYY := Lib.hid hyy
        have hright := turnE_right (s := true) HTW.out wc0
        rw [hTT] at hright
        have HRT := Lib.hid hright
        clear hTT hyy hright
        by_cases hy : y = 0
        · have hT := HT3.out
          rw [if_neg (by rw [HYY.out]; exact fun h => h hy)] at hT
          have HT4 := Lib.hid hT
          clear hT
          subst hy
          rcases hcase with hcs | ⟨hcs, hqi0⟩
          all_goals subst hcs
          all_goals (try (have hqi : ¬ (256 : Int) ≤ (q.length : Int) := by omega))
          all_goals (
            go_upto_region 15 with ((go_at_call 15); (with_reducible refine (add_any _ _ tot ch _ HRC5.out HRH5.out (by omega) (by omega) wc0).mono ?_); rw [HTT.out, HYY.out]; rintro e w6 hh; obtain ⟨v6, rfl, hS6, hF6⟩ := hh.case; have HS6 := Lib.hid hS6; have HF6 := Lib.hid hF6; obtain ⟨a6, c6, e6⟩ := hS6.at_; subst e6; have b6 := hF6.blk HB5.out (by simp); have HB6 := Lib.hid b6; have bc6 := b6.cell; have bl6 := b6.lt; have b7 := hF6.blk HP5.out (by simp); have HP6 := Lib.hid b7; have pc6 := b7.cell; have pl6 := b7.lt; have b8 := hF6.blk HH.out (by simp); have hc6 := b8.cell; have hl6 := b8.lt; clear hh hS6 hF6 b6 b7 b8 bc bl pc pl hc5 hl5 hml)
            obtain ⟨c, hcc, hcn⟩ := HS6.out.slc
            have HCC := Lib.hid hcc
            clear hcc hcn
            refine region_tail 10 (by kernel_rfl) (by kernel_rfl) ?_
            intro Wd hW
            have F6W := Lib.hid (show Fr [] w Wd from hW ▸ (F5.out.trans HF6.out).drew)
            have HBW := Lib.hid (show Blk Wd w.heap.size #[.string s, .int .u64 num, .slice ca ch.length cc] 50 from hW ▸ HB6.out.drew)
            have HPW := Lib.hid (show Blk Wd p #[.map (some b)] 99 from hW ▸ HP6.out.drew)
            have HSW := Lib.hid (show SV Wd w5.heap.size 2 (.slice a6 T.length c6) T.length (flat2 T) from hW ▸ HS6.out.fr0 ((Fr.refl _ _).drew))
            clear hW bc6 bl6 pc6 pl6 hc6 hl6
            have wbc := HBW.out.cell
            have wbl := HBW.out.lt
            have wpc := HPW.out.cell
            have wpl := HPW.out.lt
            obtain ⟨w7, hup0, hM7, hF7⟩ := (HR.out.mp.fr0 F6W.out).store (l' := upd (mapQ q) s (c, num)) s hs5 (c, num) (by unfold maxLen; omega) (fun t => lk_upd _ _ _ t)
            have hup : (Instr.mapUpdate 97 (.map (some b)) (.string s) (.agg #[.slice a6 T.length c6, .int .u64 num])).run Try.prog Wd = .ok () w7 := by rw [HCC.out]; exact hup0
            have HM7 := Lib.hid hM7
            have HF7 := Lib.hid hF7
            have HB7 := Lib.hid (hF7.blk HBW.out (by simp; omega))
            have b7c := HB7.out.cell
            have b7l := HB7.out.lt
            clear hup0 hM7 hF7
            simp only [List.take_succ_cons, List.take_zero, List.drop_succ_cons, List.drop_zero]
            repeat still_step
            try refine wpStill_nil ?_
            go_wp2
            go_ret2
            have hFF : Fr [b] w w7 := (F6W.out.mono (by simp)).trans HF7.out
            have hput := HR.out.put s HK.out hFF HM7.out (t := T) (k := num) (by rw [← HCC.out]; exact (HSW.out.fr HF7.out (fun g hg hm => by simp at hm; have := (HSW.out.own hg).1; omega)).base_le (by omega)) HRT.out.1 HRT.out.2 (by unfold inW; omega) HFULL.out
            refine TakePost.yes HT4.out (c := c) (F' := F ++ (slV c).ownBlock.toList) (by rw [HT0.out, HTT.out]; exact hput) (fun g hg => ?_) hFF
            rcases List.mem_append.1 hg with h1 | h1
            · exact .inl h1
            · rw [← HCC.out] at h1
              rw [Option.mem_toList] at h1
              have := (HSW.out.own h1).1
              exact .inr (by omega))
        · have hyb : (y == 0) = false := by simpa using hy
          have hT := HT3.out
          rw [if_pos (by rw [HYY.out]; exact hy), HYY.out] at hT
          have HT4 := Lib.hid hT
          clear hT
          rcases hcase with hcs | ⟨hcs, hqi0⟩
          all_goals subst hcs
          all_goals (try (have hqi : ¬ (256 : Int) ≤ (q.length : Int) := by omega))
          all_goals (
            go_wp2_with ((go_at_call 15); (with_reducible refine (add_any _ _ tot ch _ HRC5.out HRH5.out (by omega) (by omega) wc0).mono ?_); rw [HTT.out, HYY.out]; rintro e w6 hh; obtain ⟨v6, rfl, hS6, hF6⟩ := hh.case; have HF6 := Lib.hid hF6; obtain ⟨a6, c6, e6⟩ := hS6.at_; subst e6; have b8 := hF6.blk HH.out (by simp); have hc6 := b8.cell; have hl6 := b8.lt; clear hh hS6 hF6 b8 bc bl pc pl hc5 hl5 hml)
            go_ret2
            exact TakePost.no HT4.out hy (F5.out.trans HF6.out))
theorem take_nil (s : ByteArray) (num : Int) (a : Option Addr) (n c : Nat) (w : World) :
    Calls Try.prog 20 #[.pointer none, puV s num (.slice a n c)] w fun e w' => e = .returned (.tuple #[.int .u64 0, .int .i64 1]) ∧ Fr [] w w' := by
  go_enter Try.func20, Try.ntmps20
  go_wp2
  go_ret2
  exact ⟨rfl, (Fr.refl _ _).alloc _⟩
theorem all_nil (w : World) :
    Calls Try.prog 24 #[.pointer none] w fun e w' => e = .returned (.slice none 0 0) ∧ w' = w := by
  go_enter Try.func24, Try.ntmps24
  go_wp2
  go_ret
  exact ⟨rfl, rfl⟩
theorem total_nil (s : ByteArray) (w : World) :
    Calls Try.prog 22 #[.pointer none, .string s] w fun e w' => e = .returned (.tuple #[.slice none 0 0, .int .u64 0, .bool false]) ∧ w' = w := by
  go_enter Try.func22, Try.ntmps22
  go_wp2
  go_ret3
  exact ⟨rfl, rfl⟩
end Go.Proofs.Ytmilnhicmeblhaa
