/- The package delta: (*Sender).Waiting, (*Receiver).Total. -/
import Derived.Test.YtmilnhicmeblhaaSc
namespace Go.Proofs.Ytmilnhicmeblhaa
open Go.RowKit Go.Maps Go.Sort
set_option maxRecDepth 100000
set_option linter.unusedVariables false
set_option linter.unusedSimpArgs false
set_option maxHeartbeats 8000000
theorem flatU_app (a b : List Pu) : flatU (a ++ b) = flatU a ++ flatU b := by simp [flatU]
/-- Pushes of one's own: the slice, the changes' slices. -/
structure WO (w : World) (base : Nat) (v : Value) (l : List Pu) : Prop where
  sv : SV w base 3 v l.length (flatU l)
  ch : ∀ x ∈ l, SV w base 4 x.2.2.1 x.2.2.2.length (flat4 x.2.2.2) ∧ (∀ g, x.2.2.1.ownBlock = some g → v.ownBlock ≠ some g) ∧ x.2.2.2.length ≤ 4096
theorem WO.ru {w : World} {base : Nat} {v : Value} {l : List Pu} (h : WO w base v l) : RU w v l := ⟨h.sv.rd, fun x hx => ⟨(h.ch x hx).1.rd, by have := (h.ch x hx).2.2; omega⟩⟩
theorem WO.fr0 {w w' : World} {base : Nat} {v : Value} {l : List Pu} (h : WO w base v l) (f : Fr [] w w') : WO w' base v l := ⟨h.sv.fr0 f, fun x hx => ⟨(h.ch x hx).1.fr0 f, (h.ch x hx).2⟩⟩
theorem WO.nil (w : World) (base : Nat) : WO w base (.slice none 0 0) [] := ⟨SV.nil _ _ _, by simp⟩
theorem waiting_any (F : List Nat) (p : Nat) (s : ByteArray) (num : Int) (vl vw : Value) (last : List Ct) (q : Wq) (w : World) (h : SD w F p s num vl vw last q) (hq : q.length ≤ 1048576) :
    Calls Try.prog 30 #[.pointer (some ⟨p, 0, none⟩)] w fun e w' => ∃ v l, e = .returned v ∧ WO w' w.heap.size v l ∧ specU l = q.map (fun x => (s, x.1, x.2.2)) ∧ Fr [] w w' := by
  obtain ⟨qa, qc, ew⟩ := h.wt.at_
  obtain ⟨la, lc, el⟩ := h.la.at_
  subst ew el
  have HSD := Lib.hid h
  have hb := h.bk
  have pc := hb.cell
  have pl := hb.lt
  clear h hb
  obtain ⟨i0, hi0, hz0, hz1, hz2⟩ := info_parts infoP
  go_enter Try.func30, Try.ntmps30
  go_wp2
  clear pc pl
  go_loopw [3, 13] (fun vo u wr => ∃ (j : Nat) (l : List Pu), j ≤ q.length ∧ u = .int .i64 j ∧ l.length = j ∧ Hid (WO wr w.heap.size vo l) ∧ Hid (specU l = (q.take j).map (fun x => (s, x.1, x.2.2))) ∧ Hid (Fr [] w wr)) (fun _ u _ => q.length - (intOf u).toNat)
  case atStart => exact ⟨0, [], by omega, rfl, rfl, Lib.hid (WO.nil _ _), Lib.hid rfl, Lib.hid (Fr.refl _ _)⟩
  case round =>
    obtain ⟨j, l, hj, rfl, hll, HWO, HSP, HF⟩ := hrel
    have hsz := HF.out.size
    by_cases hjl : j < q.length
    · obtain ⟨⟨n, cv, c⟩, hj0⟩ : ∃ a, q[j]? = some a := ⟨_, List.getElem?_eq_getElem hjl⟩
      obtain ⟨g, o, cc, he, g1, g2, g3, g4⟩ := (HSD.out.wt.rd.fr0 HF.out).cells (by omega)
      simp only [Value.slice.injEq] at he
      obtain ⟨rfl, -, rfl⟩ := he
      obtain ⟨f0, f1, f2⟩ := flatP_get s q j _ hj0
      have k0 := g4 (j * 3) _ f0
      have k1 := g4 (j * 3 + 1) _ f1
      have k2 := g4 (j * 3 + 2) _ f2
      rw [← Nat.add_assoc] at k1 k2
      simp only at k0 k1 k2
      obtain ⟨c1, c2, c3, c4⟩ := HSD.out.ch _ (List.mem_of_getElem? hj0)
      simp only at c1 c3
      have hcl := (rightH_iff.1 c3).2.2.2
      obtain ⟨ca, ccc, ec⟩ := c1.at_
      subst ec
      have hsvj := HWO.out.sv
      rw [hll] at hsvj
      obtain ⟨va, vc, ev⟩ := hsvj.at_
      subst ev
      have HSJ := Lib.hid hsvj
      have HRC := Lib.hid (c1.rd.fr0 (HF.out.alloc (.cells #[.string s, .int .u64 n, .slice ca c.length ccc] 50)))
      have HJ0 := Lib.hid hj0
      have hb := Blk.new wr #[.string s, .int .u64 n, .slice ca c.length ccc] 50
      have bc := hb.cell
      have bl := hb.lt
      have hqb : q.length ≤ 1048576 := hq
      clear g4 f0 f1 f2 hj0 c1 c2 c3 c4 hb hsvj
      have HLL := Lib.hid hll
      clear hll
      go_wp2_with (first
        | ((go_at_call 55); (with_reducible refine (copied_any _ _ _ c _ HRC.out (by omega)).mono ?_); rintro e w2 ⟨v2, rfl, hS2, hF2⟩; have HS2 := Lib.hid hS2; have HF2 := Lib.hid hF2; obtain ⟨a2, c2, e2⟩ := hS2.at_; subst e2; clear hS2 hF2 bc bl k0 k1 k2)
        | (at_builtin; (refine wpList_append_svo _ rfl (.tmp 17) (.tmp 20) 42 rfl 50 i0 (.agg #[.string ByteArray.empty, .int .u64 0, .slice none 0 0]) 3 48 Try.underlying42 hi0 hz0 hz1 hz2 rfl (by decide) w.heap.size (.slice va j vc) j (flatU l) rfl (((HSJ.out.al _).fr0 HF2.out).al _) ?_ ⟨w2.heap.size, 0, none⟩ 1 1 [.string s, .int .u64 n, .slice a2 c.length c2] rfl rfl (cells_of_blk (t := 50) (Blk.new _ _ _)) ?_ ?_ ?_ ?_); (focus (have := HF2.out.size; simp at this ⊢; omega)); (focus (simp [Value.oneCell'])); (focus (unfold maxLen; omega)); (focus omega); intro v6 w6 hS6 hF6 hO6; have HS6 := Lib.hid hS6; have HF6 := Lib.hid hF6; have HO6 := Lib.hid hO6; clear hS6 hF6 hO6))
      go_roundw
      case rel =>
        have hs2 := HF2.out.size
        rw [World.size_alloc] at hs2
        have hS2 := HS2.out
        rw [World.size_alloc] at hS2
        have hO := HO6.out
        have F26 : Fr (Value.slice va j vc).ownBlock.toList wr w6 := ((((Fr.refl [] wr).alloc _).trans HF2.out).alloc _ |>.mono (by simp)).trans HF6.out
        have hvo : ∀ g, (Value.slice va j vc).ownBlock = some g → w.heap.size ≤ g ∧ g < wr.heap.size := fun g hg => HWO.out.sv.own hg
        refine ⟨j + 1, l ++ [(s, n, .slice a2 c.length c2, c)], by omega, by go_num, by simp [HLL.out], Lib.hid ⟨by rw [List.length_append, flatU_app, HLL.out]; exact HS6.out, fun x hx => ?_⟩, Lib.hid ?_, Lib.hid ((HF.out.mono (T := (Value.slice va j vc).ownBlock.toList) (by simp)).trans F26 |>.weaken (by intro z hz; simp at hz; right; exact (hvo z hz).1))⟩
        · rcases List.mem_append.1 hx with hx | hx
          · obtain ⟨h1, h2, h3⟩ := HWO.out.ch x hx
            refine ⟨h1.fr F26 (fun g hg hm => by simp at hm; exact h2 g hg hm), fun g hg hv => ?_, h3⟩
            have hgl := (h1.own hg).2
            rcases hO g hv with h4 | h4
            · exact h2 g hg h4
            · simp at h4; omega
          · simp at hx
            subst hx
            refine ⟨((hS2.al _).fr HF6.out (fun g hg hm => by simp at hm; have h5 := (hS2.own hg).1; have := (hvo g hm).2; omega)).base_le (by omega), fun g hg hv => ?_, hcl⟩
            have hgl := hS2.own hg
            rcases hO g hv with h4 | h4
            · have := (hvo g h4).2; omega
            · simp at h4; omega
        · show specU (l ++ [(s, n, .slice a2 c.length c2, c)]) = _
          rw [List.take_add_one, HJ0.out, List.map_append, ← HSP.out]
          simp [specU]
      case measure => simp [intOf]; omega
    · obtain rfl : j = q.length := by omega
      have hsp := HSP.out
      rw [List.take_length] at hsp
      have HSP2 := Lib.hid hsp
      clear hsp
      go_wp2
      go_ret
      exact ⟨u3, l, rfl, HWO.out, HSP2.out, HF.out⟩
theorem total_any (F : List Nat) (p b n : Nat) (q : Sq) (s : ByteArray) (w : World) (h : RV w F p b n q) (hs : s.size ≤ maxLen) :
    Calls Try.prog 22 #[.pointer (some ⟨p, 0, none⟩), .string s] w fun e w' => ∃ v, e = .returned (.tuple #[v, .int .u64 (hadQ q s).2, .bool (lk q s).isSome]) ∧ SV w' w.heap.size 2 v (hadQ q s).1.length (flat2 (hadQ q s).1) ∧ Fr [] w w' := by
  obtain ⟨av, cv, hlv, hsv, htr, htw, hkw⟩ := h.hv s
  obtain ⟨tot, ht0⟩ : ∃ t, (hadQ q s).1 = t := ⟨_, rfl⟩
  obtain ⟨k, hk0⟩ : ∃ k, (hadQ q s).2 = k := ⟨_, rfl⟩
  rw [ht0] at hsv htr htw
  rw [ht0, hk0] at hlv
  obtain ⟨tb, htb⟩ : ∃ t, (lk q s).isSome = t := ⟨_, rfl⟩
  have htl := (rightC_iff.1 htr).2.2
  have hl2 := h.lk97 (Fr.refl [] w) s hs hlv htb
  have hb := h.bk
  have pc := hb.cell
  have pl := hb.lt
  rw [htb, ht0, hk0]
  have HSV := Lib.hid hsv
  have hone := flat2_one tot
  clear h hlv hsv htr htw hkw ht0 hk0 htb hb
  go_enter Try.func22, Try.ntmps22
  go_upto_region 4 with fail
  refine wp_named ?_
  intro w2 hw2
  have F2 := Lib.hid (show Fr [] w w2 from by rw [← hw2]; repeat' (first | (with_reducible exact Fr.refl _ _) | (with_reducible refine Fr.drew ?_) | (with_reducible refine Fr.drN ?_ _) | (with_reducible refine Fr.alloc ?_ _) | (with_reducible refine Fr.set ?_ ?_ _) | (left; simp; done) | (right; simp; done) | (right; simp; omega)))
  have HB := Lib.hid (show Blk w2 w.heap.size #[.slice av tot.length cv, .int .u64 k] 101 from by rw [← hw2]; first | (exact Blk.new _ _ _) | (repeat' (first | ((with_reducible refine Blk.mk0 _ _ _ _ ?_); first | (simp; done) | (simp; omega)) | (with_reducible refine Blk.drew ?_) | (with_reducible refine Blk.drN ?_ _) | (with_reducible refine Blk.set ?_ _ _) | (with_reducible refine Blk.other ?_ ?_ _) | (with_reducible refine Blk.alloc ?_ _) | (simp; done) | (simp; omega))))
  clear hw2 hl2 pc pl
  have bc := HB.out.cell
  have bl := HB.out.lt
  have HS2 := Lib.hid (HSV.out.fr0 F2.out)
  go_cut [4, 5, 6] (fun v u t wx => u = .int .u64 k ∧ t = .bool tb ∧ Hid (SV wx w2.heap.size 2 v tot.length (flat2 tot)) ∧ Hid (Fr [] w2 wx))
  case first =>
    go_region_held3 (fun w' => w'.cell? ⟨w.heap.size, 0, none⟩ = some (.slice av tot.length cv) ∧ w'.cell? ⟨w.heap.size, 1, none⟩ = some (.int .u64 k)) (first | ((try dsimp only); refine ⟨?_, ?_⟩ <;> (first | (simp [go_sem, *]; done))) | (simp [go_sem, *]; done)) (((go_at_call 49); (refine (cloneC_any _ _ _ _ (HS2.out.rd.fr0 ?_) hone (by omega)).mono ?_); (focus (repeat' (first | (with_reducible exact Fr.refl _ _) | (with_reducible refine Fr.drew ?_) | (with_reducible refine Fr.drN ?_ _) | (with_reducible refine Fr.alloc ?_ _) | (with_reducible refine Fr.set ?_ ?_ _) | (left; simp; done) | (right; simp; done) | (right; simp; omega)))); rintro e w3 ⟨v3, rfl, hS3, hF3⟩; have HS3 := Lib.hid hS3; have HF3 := Lib.hid hF3; have hb3 : Blk w3 w.heap.size #[.slice av tot.length cv, .int .u64 k] 101 := (by refine hF3.blk ?_ ?_; (focus (repeat' (first | (with_reducible exact HB.out) | (with_reducible refine Blk.drew ?_) | (with_reducible refine Blk.drN ?_ _) | (with_reducible refine Blk.set ?_ _ _) | (with_reducible refine Blk.other ?_ ?_ _) | (with_reducible refine Blk.alloc ?_ _) | (simp; done) | (simp; omega)))); (focus (simp))); have bc3 := hb3.cell; have bl3 := hb3.lt; clear hS3 hF3 hb3))
    all_goals go_wp2
    all_goals go_meet
    all_goals exact ⟨rfl, rfl, Lib.hid (by have h9 := HS3.out; simpa using h9), Lib.hid (((Fr.refl [] _).drew).trans HF3.out)⟩
  case rest =>
  obtain ⟨rfl, rfl, HSx, HFx⟩ := hcut
  have hsx := HSx.out
  have hsz := F2.out.size
  go_wp2
  go_ret3
  exact ⟨u4, rfl, hsx.base_le hsz, F2.out.trans HFx.out⟩
end Go.Proofs.Ytmilnhicmeblhaa
