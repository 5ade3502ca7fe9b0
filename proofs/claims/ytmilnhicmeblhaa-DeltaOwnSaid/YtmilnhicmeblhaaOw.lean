/- The law DeltaOwn, walked. -/
import Derived.Test.YtmilnhicmeblhaaSp
import Derived.Test.YtmilnhicmeblhaaNl
import Derived.Test.YtmilnhicmeblhaaOa
namespace Go.Proofs.Ytmilnhicmeblhaa
open Go.RowKit Go.Maps Go.Sort
set_option maxRecDepth 100000
set_option linter.unusedVariables false
set_option linter.unusedSimpArgs false
set_option maxHeartbeats 2000000
abbrev ss1 : ByteArray := ⟨#[115]⟩
theorem key_s1 : keyF ss1 = true := by decide
/-- The two senders and the receiver at a round's head. -/
structure OwM (n0 p1 p2 p3 b : Nat) (F1 F2 F3 : List Nat) (num : Int) (last : List Ct) (ws : Ws) (n3 : Nat) (wr : World) : Prop where
  s1 : ∃ vl vw q, SD wr F1 p1 ss1 num vl vw last q ∧ waits q = ws
  s2 : ∃ vl vw q, SD wr F2 p2 ss1 num vl vw last q ∧ waits q = ws
  r3 : ∃ q, RV wr F3 p3 b n3 q
  d1 : ∀ g ∈ F1, g ∉ F2 ∧ g ∉ F3 ∧ n0 ≤ g
  d2 : ∀ g ∈ F2, g ∉ F3 ∧ n0 ≤ g
  d3 : ∀ g ∈ F3, n0 ≤ g
theorem flat1_at (l : List Cv2) (i : Nat) (x : Cv2) (h : l[i]? = some x) : (flat1 l)[i * 1]? = some x.1 := flatMap_at (f := fun a : Cv2 => [a.1]) (s := 1) (fun _ => rfl) l i x 0 h (by decide)
theorem RC.below {w : World} {v : Value} {l : List Ct} (h : RC w v l) (hl : 0 < l.length) {g : Nat} (hg : v.ownBlock = some g) : g < w.heap.size := by
  obtain ⟨g', o, c, he, g1, -⟩ := RD.cells h hl
  rw [he] at hg
  simp [Value.ownBlock] at hg
  subst hg
  exact g1
theorem wo_fr {S : List Nat} {w w' : World} {base : Nat} {v : Value} {l : List Pu} (h : WO w base v l) (f : Fr S w w') (hS : ∀ g ∈ S, g ∉ wxF v l) : WO w' base v l := by
  refine ⟨h.sv.fr f (fun g hg hm => hS g hm ?_), fun x hx => ⟨(h.ch x hx).1.fr f (fun g hg hm => hS g hm ?_), (h.ch x hx).2⟩⟩
  · exact List.mem_append_left _ (by simpa using hg)
  · exact List.mem_append_right _ (List.mem_flatMap.2 ⟨x, hx, by simpa using hg⟩)
theorem RV.allLen {w : World} {F : List Nat} {p b n : Nat} {q : Sq} (h : RV w F p b n q) : (allF (tots q)).length ≤ 1048576 := by
  have hlen := h.len
  have h1 := allF_len (tots q) 4096 (fun t ht => by
    obtain ⟨x, hx, rfl⟩ := List.mem_map.1 ht
    exact (rightC_iff.1 (h.tot x hx).2.2.1).2.2) []
  have h2 : (tots q).length ≤ 256 := by simpa [tots] using hlen
  have h3 : 4096 * (tots q).length ≤ 4096 * 256 := Nat.mul_le_mul_left _ h2
  unfold allF
  simp only [List.length_nil, Nat.zero_add] at h1
  omega
theorem deltaOwn_walk (v : Value) (L : List Cv2) (w : World) (hL : RD w 1 v L.length (flat1 L)) (hC : ∀ a ∈ L, RC w a.1 a.2 ∧ WC a.2 ∧ a.2.length * 24 ≤ 140737488355328) (hl : L.length ≤ 5864062014806) :
    Calls Try.prog 6 #[v] w fun e w' => e = .returned (.bool true) ∧ Fr [] w w' := by
  obtain ⟨va, vc, ev⟩ := hL.at_
  subst ev
  have HL := Lib.hid hL
  have HC := Lib.hid hC
  clear hL hC
  go_enter Try.func6, Try.ntmps6
  go_upto_region 8 with (first | ((go_at_call 12); (with_reducible refine (begins_any _).mono ?_); rintro e w1 ⟨rfl, hF1⟩; have HF1 := Lib.hid hF1; clear hF1) | ((go_at_call 26); (with_reducible refine (newSender_ok _ _ key_s1).mono ?_); rintro e w2 ⟨rfl, rfl⟩) | ((go_at_call 19); (with_reducible refine (newReceiver_any _).mono ?_); rintro e w3 ⟨rfl, rfl⟩))
  refine wp_named ?_
  intro wA hA
  have hz1 := HF1.out.size
  obtain ⟨m0, hm0⟩ : ∃ m, w1.heap.size = m := ⟨_, rfl⟩
  have HM0 := Lib.hid (show OwM w.heap.size m0 (m0 + 1) (m0 + 1 + 1 + 1) (m0 + 1 + 1) [m0] [m0 + 1] [m0 + 1 + 1 + 1, m0 + 1 + 1] 0 [] [] 0 wA from by
    subst hm0
    have e1 := World.size_alloc w1 (.cells #[.string ss1, .int .u64 0, .slice none 0 0, .slice none 0 0] 114)
    have h2 := SD.made (w1.alloc (.cells #[.string ss1, .int .u64 0, .slice none 0 0, .slice none 0 0] 114)) ss1
    have h3 := RV.made ((w1.alloc (.cells #[.string ss1, .int .u64 0, .slice none 0 0, .slice none 0 0] 114)).alloc (.cells #[.string ss1, .int .u64 0, .slice none 0 0, .slice none 0 0] 114))
    rw [World.size_alloc] at h2
    rw [World.size_alloc, World.size_alloc] at h3
    rw [← hA]
    refine ⟨⟨_, _, [], (SD.made w1 ss1).fr0 ((((Fr.refl _ _).alloc _).alloc _).alloc _), rfl⟩, ⟨_, _, [], h2.fr0 (((Fr.refl _ _).alloc _).alloc _), rfl⟩, ⟨[], h3⟩, ?_, ?_, ?_⟩
    · intro g hg; simp at hg; subst hg; refine ⟨by simp, by simp <;> omega, hz1⟩
    · intro g hg; simp at hg; subst hg; refine ⟨by simp <;> omega, by omega⟩
    · intro g hg; simp at hg; omega)
  have FA := Lib.hid (show Fr [] w wA from by rw [← hA]; exact ((((HF1.out.alloc _).alloc _).alloc _).alloc _))
  rw [hm0]
  have hm1 : w.heap.size ≤ m0 := by omega
  clear hA hm0 hz1 HF1
  go_wp2
  go_loopw [8] (fun i wr => ∃ (k : Nat) (F1 F2 F3 : List Nat) (num : Int) (last : List Ct) (ws : Ws) (n3 : Nat), k ≤ L.length ∧ i = .int .i64 k ∧ Hid (OwM w.heap.size m0 (m0 + 1) (m0 + 1 + 1 + 1) (m0 + 1 + 1) F1 F2 F3 num last ws n3 wr) ∧ 0 ≤ num ∧ num ≤ k ∧ n3 ≤ k ∧ ws.length ≤ 1024 ∧ Hid (Fr [] w wr)) (fun i _ => L.length - (intOf i).toNat)
  case atStart => exact ⟨0, _, _, _, 0, [], [], 0, by omega, rfl, HM0, by omega, by omega, by omega, by simp, FA⟩
  case round =>
    obtain ⟨k, F1, F2, F3, num, last, ws, n3, hk, rfl, HM, hn0, hn1, hn3, hwl, HF⟩ := hrel
    by_cases hkl : k < L.length
    · obtain ⟨⟨vx, lx⟩, hx0⟩ : ∃ a, L[k]? = some a := ⟨_, List.getElem?_eq_getElem hkl⟩
      obtain ⟨hx1, hx2, hx3⟩ := HC.out _ (List.mem_of_getElem? hx0)
      simp only at hx1 hx2 hx3
      obtain ⟨xa, xc, ex⟩ := hx1.at_
      subst ex
      have HX0 := Lib.hid hx1
      have HWX := Lib.hid hx2
      obtain ⟨g, o, cc, he, g1, g2, g3, g4⟩ := HL.out.cells (by omega)
      simp only [Value.slice.injEq] at he
      obtain ⟨rfl, -, rfl⟩ := he
      have k0 := g4 (k * 1) _ (flat1_at L k _ hx0)
      simp only [Nat.mul_one] at k0
      have HK0 := Lib.hid k0
      replace k0 := HF.out.cl k0
      obtain ⟨n1, hn1'⟩ : ∃ n, wr.heap.size = n := ⟨_, rfl⟩
      obtain ⟨ps, pn, pch, y, num', last', ws', hsr⟩ : ∃ ps pn pch y num' last' ws', sendR ss1 num last ws lx = ((ps, pn, pch), y, num', last', ws') := ⟨_, _, _, _, _, _, _, rfl⟩
      obtain ⟨vl1, vw1, q1, hs1, hq1⟩ := HM.out.s1
      obtain ⟨vl2, vw2, q2, hs2, hq2⟩ := HM.out.s2
      obtain ⟨q3, hr3⟩ := HM.out.r3
      have hfa := sendR_facts hsr hs1.wl hx2 hwl
      obtain ⟨hpr, hpw, hwl', hnn1, hnn2, hpc⟩ := hfa
      simp only at hpr hpw hpc
      have hpl := (rightH_iff.1 hpr).2.2.2
      have HPR := Lib.hid hpr
      have HPW := Lib.hid hpw
      have hpn : inW pn := by
        rcases hpc with ⟨e, -⟩ | ⟨e, -⟩
        · simp only [Prod.mk.injEq] at e; rw [e.2.1]; exact ⟨by omega, by omega⟩
        · simp only [Prod.mk.injEq] at e; rw [e.2.1]; exact ⟨by omega, by omega⟩
      have HPN := Lib.hid hpn
      have HS1 := Lib.hid hs1
      have HS2 := Lib.hid hs2
      have HR3 := Lib.hid hr3
      have HSR1 := Lib.hid (show sendR ss1 num last (waits q1) lx = ((ps, pn, pch), y, num', last', ws') from by rw [hq1]; exact hsr)
      have HSR2 := Lib.hid (show sendR ss1 num last (waits q2) lx = ((ps, pn, pch), y, num', last', ws') from by rw [hq2]; exact hsr)
      have HD1 := Lib.hid HM.out.d1
      have HD2 := Lib.hid HM.out.d2
      have HD3 := Lib.hid HM.out.d3
      clear g4 hx0 hx1 hx2 hpr hpw hpn hpc hs1 hs2 hr3 hsr hq1 hq2 HM
      go_upto_region 12 with ((go_at_call 27); (with_reducible refine (copyC_any _ lx _ (HX0.out.fr0 HF.out) hx3).mono ?_); rintro e w2 ⟨v2, rfl, hS, hF⟩; have HG := Lib.hid hS; have HF2 := Lib.hid hF; obtain ⟨a2, c2, e2⟩ := hS.at_; subst e2; clear hS hF k0)
      have hz2 := HF2.out.size
      have hmA := HS1.out.bk.lt
      have hmB := HS2.out.bk.lt
      go_upto_region 13 with ((go_at_call 28); (with_reducible refine (send_any F1 m0 ss1 num vl1 vw1 _ last lx q1 _ (HS1.out.fr0 HF2.out) HG.out.rd (by omega) HWX.out hn0 (by omega) (fun g hg _ => by have h1 := (HG.out.own hg).1; omega) HSR1.out).mono ?_); rintro e w3 ⟨pv, rfl, hO⟩; have HO1 := Lib.hid hO; obtain ⟨pa, pc, ep⟩ := hO.sv.at_; subst ep; clear hO)
      refine wp_named ?_
      intro w4 hw4
      have F34 := Lib.hid (show Fr [] w3 w4 from by rw [← hw4]; repeat' (first | (with_reducible exact Fr.refl _ _) | (with_reducible refine Fr.drew ?_) | (with_reducible refine Fr.drN ?_ _) | (with_reducible refine Fr.alloc ?_ _) | (with_reducible refine Fr.set ?_ ?_ _) | (left; simp; done) | (right; simp; done) | (right; simp; omega)))
      have hbp : Blk w4 w3.heap.size #[.string ps, .int .u64 pn, .slice pa pch.length pc] 50 := by rw [← hw4]; first | (exact Blk.new _ _ _) | (repeat' (first | ((with_reducible refine Blk.mk0 _ _ _ _ ?_); first | (simp; done) | (simp; omega)) | (with_reducible refine Blk.drew ?_) | (with_reducible refine Blk.drN ?_ _) | (with_reducible refine Blk.set ?_ _ _) | (with_reducible refine Blk.other ?_ ?_ _) | (with_reducible refine Blk.alloc ?_ _) | (simp; done) | (simp; omega)))
      have HBP := Lib.hid hbp
      clear hw4 hbp
      have hz3 := HO1.out.fr.size
      have hz4 := F34.out.size
      have FR4 := Lib.hid (show Fr F1 wr w4 from ((HF2.out.mono (by simp)).trans HO1.out.fr).trans (F34.out.mono (by simp)))
      have FW4 := Lib.hid (show Fr [] w w4 from (HF.out.mono (by simp)).trans FR4.out |>.weaken (fun g hg => .inr (HD1.out g hg).2.2))
      have k0 := FW4.out.cl HK0.out
      have HS24 := Lib.hid (HS2.out.fr FR4.out (fun g hg hm => (HD1.out g hm).1 hg))
      go_upto_region 14 with ((go_at_call 28); (with_reducible refine (send_any F2 (m0 + 1) ss1 num vl2 vw2 _ last lx q2 _ HS24.out (HX0.out.fr0 FW4.out) (by omega) HWX.out hn0 (by omega) (fun g hg h0 => by have h1 := RC.below HX0.out h0 hg; omega) HSR2.out).mono ?_); rintro e w5 ⟨qv, rfl, hO⟩; have HO2 := Lib.hid hO; obtain ⟨qa, qc, eq⟩ := hO.sv.at_; subst eq; clear hO k0)
      refine wp_named ?_
      intro w6 hw6
      have F56 := Lib.hid (show Fr [] w5 w6 from by rw [← hw6]; repeat' (first | (with_reducible exact Fr.refl _ _) | (with_reducible refine Fr.drew ?_) | (with_reducible refine Fr.drN ?_ _) | (with_reducible refine Fr.alloc ?_ _) | (with_reducible refine Fr.set ?_ ?_ _) | (left; simp; done) | (right; simp; done) | (right; simp; omega)))
      have hbq : Blk w6 w5.heap.size #[.string ps, .int .u64 pn, .slice qa pch.length qc] 50 := by rw [← hw6]; first | (exact Blk.new _ _ _) | (repeat' (first | ((with_reducible refine Blk.mk0 _ _ _ _ ?_); first | (simp; done) | (simp; omega)) | (with_reducible refine Blk.drew ?_) | (with_reducible refine Blk.drN ?_ _) | (with_reducible refine Blk.set ?_ _ _) | (with_reducible refine Blk.other ?_ ?_ _) | (with_reducible refine Blk.alloc ?_ _) | (simp; done) | (simp; omega)))
      have HBQ := Lib.hid hbq
      clear hw6 hbq
      have hz5 := HO2.out.fr.size
      have hz6 := F56.out.size
      have FR6 := Lib.hid (show Fr F2 w4 w6 from HO2.out.fr.trans (F56.out.mono (by simp)))
      have FW6 := Lib.hid (show Fr [] w w6 from ((FW4.out.mono (by simp)).trans FR6.out).weaken (fun g hg => .inr (HD2.out g hg).2))
      have HBP6 := Lib.hid (FR6.out.blk HBP.out (fun hm => by have := HS2.out.lt _ hm; omega))
      have lt1 : ∀ g ∈ F1, g < n1 := fun g hg => hn1' ▸ HS1.out.lt g hg
      have lt2 : ∀ g ∈ F2, g < n1 := fun g hg => hn1' ▸ HS2.out.lt g hg
      have lt3 : ∀ g ∈ F3, g < n1 := fun g hg => hn1' ▸ HR3.out.lt g hg
      have LT1 := Lib.hid lt1
      have LT2 := Lib.hid lt2
      have LT3 := Lib.hid lt3
      have hn2' : n1 ≤ w2.heap.size := hn1' ▸ hz2
      have hgb : n1 = wr.heap.size := hn1'.symm
      have FR46 := Lib.hid (show Fr F2 w3 w6 from (F34.out.mono (by simp)).trans FR6.out)
      have HG6 := Lib.hid (show XV w6 n1 2 (.slice a2 lx.length c2) lx.length from by
        have h1 := HG.out.xv
        rw [← hgb] at h1
        exact (h1.fr HO1.out.fr (fun g hg hm => by have := (h1.own hg).1; have := lt1 g hm; omega)).fr FR46.out (fun g hg hm => by have := (h1.own hg).1; have := lt2 g hm; omega))
      have HR36 := Lib.hid (show RV w6 F3 (m0 + 1 + 1 + 1) (m0 + 1 + 1) n3 q3 from (HR3.out.fr FR4.out (fun g hg hm => (HD1.out g hm).2.1 hg)).fr FR6.out (fun g hg hm => (HD2.out g hm).1 hg))
      obtain ⟨F1', vl1', vw1', q1', t1, t2, t3, t4⟩ := HO1.out.ex
      obtain ⟨F2', vl2', vw2', q2', r1, r2, r3, r4⟩ := HO2.out.ex
      have HS16 := Lib.hid (t1.fr FR46.out (fun g hg hm => by
        rcases t4 g hg with h | h
        · exact (HD1.out g h).1 hm
        · have := lt2 g hm; omega))
      have HS26 := Lib.hid (r1.fr0 F56.out)
      have HQ1 := Lib.hid t2
      have HQ2 := Lib.hid r2
      have HPV6 := Lib.hid (show SV w6 w2.heap.size 4 (.slice pa pch.length pc) pch.length (flat4 pch) from HO1.out.sv.fr FR46.out (fun g hg hm => by have := (HO1.out.sv.own hg).1; have := lt2 g hm; omega))
      have HQV6 := Lib.hid (show SV w6 w4.heap.size 4 (.slice qa pch.length qc) pch.length (flat4 pch) from HO2.out.sv.fr0 F56.out)
      have lf1 : ∀ g ∈ F1', g < w3.heap.size := t1.lt
      have PNF := Lib.hid (show ∀ g, (Value.slice pa pch.length pc).ownBlock = some g → g ∉ F1' ∧ g ∉ F2' ∧ n1 ≤ g ∧ g < w3.heap.size from fun g hg => by
        have h1 := HO1.out.sv.own hg
        refine ⟨t3 g hg, fun hm => ?_, by omega, h1.2⟩
        rcases r4 g hm with h | h
        · have := lt2 g h; omega
        · omega)
      have QNF := Lib.hid (show ∀ g, (Value.slice qa pch.length qc).ownBlock = some g → g ∉ F1' ∧ g ∉ F2' ∧ w4.heap.size ≤ g ∧ g < w5.heap.size from fun g hg => by
        have h1 := HO2.out.sv.own hg
        exact ⟨fun hm => by have := lf1 g hm; omega, r3 g hg, h1.1, h1.2⟩)
      have GNF := Lib.hid (show ∀ g, (Value.slice a2 lx.length c2).ownBlock = some g → g ∉ F1' ∧ g ∉ F2' ∧ n1 ≤ g ∧ g < w2.heap.size from fun g hg => by
        have h1 := HG.out.own hg
        refine ⟨fun hm => ?_, fun hm => ?_, by omega, h1.2⟩
        · rcases t4 g hm with h | h
          · have := lt1 g h; omega
          · omega
        · rcases r4 g hm with h | h
          · have := lt2 g h; omega
          · omega)
      have DF1 := Lib.hid (show ∀ g ∈ F1', g ∉ F2' ∧ g ∉ F3 ∧ w.heap.size ≤ g from fun g hg => by
        rcases t4 g hg with h | h
        · have := lt1 g h
          refine ⟨fun hm => ?_, (HD1.out g h).2⟩
          rcases r4 g hm with h5 | h5
          · exact (HD1.out g h).1 h5
          · omega
        · have hzz := HF.out.size
          refine ⟨fun hm => ?_, fun hm => by have := lt3 g hm; omega, by omega⟩
          rcases r4 g hm with h5 | h5
          · have := lt2 g h5; omega
          · have := lf1 g hg; omega)
      have DF2 := Lib.hid (show ∀ g ∈ F2', g ∉ F3 ∧ w.heap.size ≤ g from fun g hg => by
        rcases r4 g hg with h | h
        · exact HD2.out g h
        · have hzz := HF.out.size
          exact ⟨fun hm => by have := lt3 g hm; omega, by omega⟩)
      have NF := Lib.hid (show ∀ g ∈ F1', g < w3.heap.size from lf1)
      have hzw := HF.out.size
      clear lt1 lt2 lt3 t1 t2 t3 t4 r1 r2 r3 r4 lf1 HO1 HO2 HS1 HS2 HR3 HSR1 HSR2 HS24 HD1 HD2 HBP FR4 FR6 F34 F56 HG HF2 FW4 HM0 FA
      have bpl := HBP6.out.lt
      have bql := HBQ.out.lt
      go_wp2
      go_loopw [14] (fun u wx => ∃ j : Nat, j ≤ lx.length ∧ u = .int .i64 j ∧ Hid (XV wx n1 2 (.slice a2 lx.length c2) lx.length) ∧ Hid (Fr (Value.slice a2 lx.length c2).ownBlock.toList w6 wx)) (fun u _ => lx.length - (intOf u).toNat)
      case atStart => exact ⟨0, by omega, rfl, HG6, Lib.hid (Fr.refl _ _)⟩
      case round =>
        obtain ⟨j, hj, rfl, HXJ, HFJ⟩ := hrel
        by_cases hjl : j < lx.length
        · obtain ⟨g', o', c', u0, u1, he, k1, k2, k3, k4, kf, kz⟩ := HXJ.out.cells2 hjl
          have HE := Lib.hid he
          simp only [Value.slice.injEq] at he
          obtain ⟨rfl, -, rfl⟩ := he
          go_wp2
          go_roundw
          case rel => exact ⟨j + 1, by omega, by go_num, Lib.hid (HXJ.out.set2 hjl HE.out _ _).1, Lib.hid (HFJ.out.trans (HXJ.out.set2 hjl HE.out _ _).2)⟩
          case measure => simp [intOf]; omega
        · obtain rfl : j = lx.length := by omega
          have hzJ := HFJ.out.size
          have GN : ∀ g, g ∈ (Value.slice a2 lx.length c2).ownBlock.toList → g ∉ F1' ∧ g ∉ F2' ∧ n1 ≤ g ∧ g < w2.heap.size := fun g hg => GNF.out g (by simpa using hg)
          have HBP7 := Lib.hid (HFJ.out.blk HBP6.out (fun hm => by have := GN _ hm; omega))
          have HBQ7 := Lib.hid (HFJ.out.blk HBQ.out (fun hm => by have := GN _ hm; omega))
          have HPV7 := Lib.hid (HPV6.out.fr HFJ.out (fun g hg hm => by have := GN _ hm; have := (HPV6.out.own hg).1; omega))
          have HQV7 := Lib.hid (HQV6.out.fr HFJ.out (fun g hg hm => by have := GN _ hm; have := (HQV6.out.own hg).1; omega))
          have HS17 := Lib.hid (HS16.out.fr HFJ.out (fun g hg hm => (GN _ hm).1 hg))
          have HS27 := Lib.hid (HS26.out.fr HFJ.out (fun g hg hm => (GN _ hm).2.1 hg))
          have HR37 := Lib.hid (HR36.out.fr HFJ.out (fun g hg hm => by have := GN _ hm; have := LT3.out _ hg; omega))
          have FW7 := Lib.hid (show Fr [] w wr from ((FW6.out.mono (by simp)).trans HFJ.out).weaken (fun g hg => .inr (by have := GN _ hg; omega)))
          have HSZ2 := Lib.hid HS26.out.lt
          obtain ⟨tx, ty, htk⟩ : ∃ tx ty, takeR q3 ps pn pch = (tx, ty) := ⟨_, _, rfl⟩
          have HTK := Lib.hid htk
          clear GN htk HS16 HS26 HR36 FW6 HBP6 HBQ HPV6 HQV6 HFJ bpl bql HG6
          have bp7 := HBP7.out.cell
          have bpl7 := HBP7.out.lt
          have bq7 := HBQ7.out.cell
          have bql7 := HBQ7.out.lt
          go_upto_region 20 with ((go_at_call 29); (with_reducible refine (samePu_true _ _ _ _ _ (pu_ru (s := ps) (n := pn) (v := .slice pa pch.length pc) (l := pch) (t := 50) ?_ ?_ (by omega)) (pu_ru (s := ps) (n := pn) (v := .slice qa pch.length qc) (l := pch) (t := 50) ?_ ?_ (by omega)) rfl (by simp)).mono ?_); (focus (repeat' (first | ((with_reducible refine Blk.mk0 _ _ _ _ ?_); first | (simp; done) | (simp; omega)) | (with_reducible refine Blk.drew ?_) | (with_reducible refine Blk.drN ?_ _) | (with_reducible refine Blk.set ?_ _ _) | (with_reducible refine Blk.other ?_ ?_ _) | (with_reducible refine Blk.alloc ?_ _) | (simp; done) | (simp; omega)))); (focus (refine HPV7.out.rd.fr0 ?_; repeat' (first | (with_reducible exact Fr.refl _ _) | (with_reducible refine Fr.drew ?_) | (with_reducible refine Fr.drN ?_ _) | (with_reducible refine Fr.alloc ?_ _) | (with_reducible refine Fr.set ?_ ?_ _) | (left; simp; done) | (right; simp; done) | (right; simp; omega)))); (focus (repeat' (first | ((with_reducible refine Blk.mk0 _ _ _ _ ?_); first | (simp; done) | (simp; omega)) | (with_reducible refine Blk.drew ?_) | (with_reducible refine Blk.drN ?_ _) | (with_reducible refine Blk.set ?_ _ _) | (with_reducible refine Blk.other ?_ ?_ _) | (with_reducible refine Blk.alloc ?_ _) | (simp; done) | (simp; omega)))); (focus (refine HQV7.out.rd.fr0 ?_; repeat' (first | (with_reducible exact Fr.refl _ _) | (with_reducible refine Fr.drew ?_) | (with_reducible refine Fr.drN ?_ _) | (with_reducible refine Fr.alloc ?_ _) | (with_reducible refine Fr.set ?_ ?_ _) | (left; simp; done) | (right; simp; done) | (right; simp; omega)))); rintro e w8 ⟨rfl, hF⟩; have HF8 := Lib.hid (show Fr [] wr w8 from Fr.trans (by repeat' (first | (with_reducible exact Fr.refl _ _) | (with_reducible refine Fr.drew ?_) | (with_reducible refine Fr.drN ?_ _) | (with_reducible refine Fr.alloc ?_ _) | (with_reducible refine Fr.set ?_ ?_ _) | (left; simp; done) | (right; simp; done) | (right; simp; omega))) hF); clear hF bp7 bq7 bpl7 bql7)
          have hz8 := HF8.out.size
          have HBP8 := Lib.hid (HF8.out.blk HBP7.out (by simp))
          have HBQ8 := Lib.hid (HF8.out.blk HBQ7.out (by simp))
          have bq8 := HBQ8.out.cell
          have bql8 := HBQ8.out.lt
          go_upto_region 21 with ((go_at_call 20); (with_reducible refine (take_any F3 _ _ n3 q3 ps pn _ pch _ (HR37.out.fr HF8.out (by simp)) (HQV7.out.rd.fr0 HF8.out) (by omega) HPW.out HPN.out (by omega) HTK.out).mono ?_); rintro e w9 ⟨rfl, hT⟩; have HT := Lib.hid hT; clear hT bq8 bql8)
          have hz9 := HT.out.fr.size
          have hbF := HR37.out.bF
          have hbn := LT3.out _ hbF
          have hb1 : ∀ g, g ∈ F1' → g ∉ [m0 + 1 + 1] := fun g hg hm => by simp at hm; subst hm; exact (DF1.out _ hg).2.1 hbF
          have hb2 : ∀ g, g ∈ F2' → g ∉ [m0 + 1 + 1] := fun g hg hm => by simp at hm; subst hm; exact (DF2.out _ hg).1 hbF
          have FR9 := Lib.hid (show Fr [m0 + 1 + 1] wr w9 from (HF8.out.mono (by simp)).trans HT.out.fr)
          have FW9 := Lib.hid (show Fr [] w w9 from ((FW7.out.mono (by simp)).trans FR9.out).weaken (fun g hg => .inr (by simp at hg; omega)))
          have HS19 := Lib.hid (HS17.out.fr FR9.out hb1)
          have HS29 := Lib.hid (HS27.out.fr FR9.out hb2)
          have HBP9 := Lib.hid (FR9.out.blk HBP7.out (by simp; omega))
          have HBQ9 := Lib.hid (FR9.out.blk HBQ7.out (by simp; omega))
          have HPV9 := Lib.hid (HPV7.out.xv.fr FR9.out (fun g hg hm => by simp at hm; have := (HPV7.out.own hg).1; omega))
          have HQV9 := Lib.hid (HQV7.out.xv.fr FR9.out (fun g hg hm => by simp at hm; have := (HQV7.out.own hg).1; omega))
          obtain ⟨F3', n3', q3', c1, c2', c3, -⟩ := HT.out.ex
          have HR39 := Lib.hid c1
          have DF3 := Lib.hid (show ∀ g ∈ F3', g ∈ F3 ∨ (w5.heap.size < g ∧ w6.heap.size ≤ g) from fun g hg => by
            rcases c3 g hg with h | h
            · exact .inl h
            · have := HBQ8.out.lt; exact .inr ⟨by omega, by omega⟩)
          clear hb1 hb2 c1 c3 HT HF8 HBP8 HBQ8 HBP7 HBQ7 HPV7 HQV7 HS17 HS27 HR37 FW7 FR9
          go_wp2
          go_loopw [15] (fun u wx => ∃ j : Nat, j ≤ pch.length ∧ u = .int .i64 j ∧ Hid (XV wx w2.heap.size 4 (.slice pa pch.length pc) pch.length) ∧ Hid (Fr (Value.slice pa pch.length pc).ownBlock.toList w9 wx)) (fun u _ => pch.length - (intOf u).toNat)
          case atStart => exact ⟨0, by omega, rfl, HPV9, Lib.hid (Fr.refl _ _)⟩
          case round =>
            obtain ⟨j, hj, rfl, HXJ, HFJ⟩ := hrel
            have PN : ∀ g, g ∈ (Value.slice pa pch.length pc).ownBlock.toList → g ∉ F1' ∧ g ∉ F2' ∧ n1 ≤ g ∧ g < w3.heap.size := fun g hg => PNF.out g (by simpa using hg)
            have hbj := HFJ.out.blk HBP9.out (fun hm => by have := PN _ hm; omega)
            have bpj := hbj.cell
            have bplj := hbj.lt
            have HPN2 := Lib.hid PN
            clear hbj PN
            by_cases hjl : j < pch.length
            · obtain ⟨g', o', c', u0, u1, u2', u3, he, k1, k2, k3, k4, k5, k6, kf, kz⟩ := HXJ.out.cells4 hjl
              have HE := Lib.hid he
              simp only [Value.slice.injEq] at he
              obtain ⟨rfl, -, rfl⟩ := he
              go_wp2
              go_roundw
              case rel => exact ⟨j + 1, by omega, by go_num, Lib.hid (HXJ.out.set4 hjl HE.out _ _ _ _).1, Lib.hid (HFJ.out.trans (HXJ.out.set4 hjl HE.out _ _ _ _).2)⟩
              case measure => simp [intOf]; omega
            · obtain rfl : j = pch.length := by omega
              have HS1A := Lib.hid (HS19.out.fr HFJ.out (fun g hg hm => (HPN2.out _ hm).1 hg))
              have HS2A := Lib.hid (HS29.out.fr HFJ.out (fun g hg hm => (HPN2.out _ hm).2.1 hg))
              have HR3A := Lib.hid (HR39.out.fr HFJ.out (fun g hg hm => by
                have := HPN2.out _ hm
                rcases DF3.out g hg with h | h
                · have := LT3.out g h; omega
                · omega))
              have FWA := Lib.hid (show Fr [] w wr from ((FW9.out.mono (by simp)).trans HFJ.out).weaken (fun g hg => .inr (by have := HPN2.out _ hg; omega)))
              have HBQA := Lib.hid (HFJ.out.blk HBQ9.out (fun hm => by have := HPN2.out _ hm; omega))
              have HQVA := Lib.hid (HQV9.out.fr HFJ.out (fun g hg hm => by have := HPN2.out _ hm; have := (HQV9.out.own hg).1; omega))
              have hzA := HFJ.out.size
              clear HXJ HFJ HS19 HS29 HR39 FW9 HBP9 HBQ9 HPV9 HQV9
              go_wp2
              clear bpj bplj
              go_loopw [16] (fun u wx => ∃ j : Nat, j ≤ pch.length ∧ u = .int .i64 j ∧ Hid (XV wx w4.heap.size 4 (.slice qa pch.length qc) pch.length) ∧ Hid (Fr (Value.slice qa pch.length qc).ownBlock.toList wr wx)) (fun u _ => pch.length - (intOf u).toNat)
              case atStart => exact ⟨0, by omega, rfl, HQVA, Lib.hid (Fr.refl _ _)⟩
              case round =>
                obtain ⟨j, hj, rfl, HXJ, HFJ⟩ := hrel
                have QN : ∀ g, g ∈ (Value.slice qa pch.length qc).ownBlock.toList → g ∉ F1' ∧ g ∉ F2' ∧ w4.heap.size ≤ g ∧ g < w5.heap.size := fun g hg => QNF.out g (by simpa using hg)
                have hbj := HFJ.out.blk HBQA.out (fun hm => by have := QN _ hm; omega)
                have bpj := hbj.cell
                have bplj := hbj.lt
                have HQN2 := Lib.hid QN
                clear hbj QN
                by_cases hjl : j < pch.length
                · obtain ⟨g', o', c', u0, u1, u2', u3, he, k1, k2, k3, k4, k5, k6, kf, kz⟩ := HXJ.out.cells4 hjl
                  have HE := Lib.hid he
                  simp only [Value.slice.injEq] at he
                  obtain ⟨rfl, -, rfl⟩ := he
                  go_wp2
                  go_roundw
                  case rel => exact ⟨j + 1, by omega, by go_num, Lib.hid (HXJ.out.set4 hjl HE.out _ _ _ _).1, Lib.hid (HFJ.out.trans (HXJ.out.set4 hjl HE.out _ _ _ _).2)⟩
                  case measure => simp [intOf]; omega
                · obtain rfl : j = pch.length := by omega
                  go_wp2
                  go_roundw
                  case rel =>
                    refine ⟨k + 1, F1', F2', F3', num', last', ws', n3', by omega, by go_num, Lib.hid ⟨⟨vl1', vw1', q1', HS1A.out.fr HFJ.out (fun g hg hm => (HQN2.out _ hm).1 hg), HQ1.out⟩, ⟨vl2', vw2', q2', HS2A.out.fr HFJ.out (fun g hg hm => (HQN2.out _ hm).2.1 hg), HQ2.out⟩, ⟨q3', HR3A.out.fr HFJ.out (fun g hg hm => ?_)⟩, fun g hg => ⟨(DF1.out g hg).1, fun hm => ?_, (DF1.out g hg).2.2⟩, fun g hg => ⟨fun hm => ?_, (DF2.out g hg).2⟩, fun g hg => ?_⟩, by omega, by omega, by omega, by omega, Lib.hid (((FWA.out.mono (by simp)).trans HFJ.out).weaken (fun g hg => .inr (by have := HQN2.out _ hg; omega)))⟩
                    · have := HQN2.out _ hm
                      rcases DF3.out g hg with h | h
                      · have := LT3.out g h; omega
                      · omega
                    · rcases DF3.out g hm with h | h
                      · exact (DF1.out g hg).2.1 h
                      · have := NF.out g hg; omega
                    · rcases DF3.out g hm with h | h
                      · exact (DF2.out g hg).1 h
                      · have := HSZ2.out g hg; omega
                    · rcases DF3.out g hg with h | h
                      · exact HD3.out g h
                      · omega
                  case measure => simp [intOf]; omega
    · obtain rfl : k = L.length := by omega
      obtain ⟨vl1, vw1, q1, hs1, hq1⟩ := HM.out.s1
      obtain ⟨vl2, vw2, q2, hs2, hq2⟩ := HM.out.s2
      obtain ⟨q3, hr3⟩ := HM.out.r3
      have hql1 : q1.length ≤ 1024 := by rw [← hq1] at hwl; simpa [waits] using hwl
      have hql2 : q2.length ≤ 1024 := by rw [← hq2] at hwl; simpa [waits] using hwl
      have HEQ := Lib.hid (show q1.map (fun x => (ss1, x.1, x.2.2)) = q2.map (fun x => (ss1, x.1, x.2.2)) from by
        have h1 := hq1.trans hq2.symm
        unfold waits at h1
        have h2 := congrArg (List.map (fun y : Int × List Ch => (ss1, y.1, y.2))) h1
        simpa [List.map_map, Function.comp_def] using h2)
      have HS1 := Lib.hid hs1
      have HS2 := Lib.hid hs2
      have HR3 := Lib.hid hr3
      obtain ⟨n1, hn1'⟩ : ∃ n, wr.heap.size = n := ⟨_, rfl⟩
      have LT1 := Lib.hid (show ∀ g ∈ F1, g < n1 from fun g hg => hn1' ▸ hs1.lt g hg)
      have LT3 := Lib.hid (show ∀ g ∈ F3, g < n1 from fun g hg => hn1' ▸ hr3.lt g hg)
      obtain ⟨T, hT⟩ : ∃ T, allF (tots q3) = T := ⟨_, rfl⟩
      have HT := Lib.hid hT
      have htm0 := hr3.allLen
      rw [hT] at htm0
      have htm2 : T.length ≤ 9223372036854775806 := by omega
      have hzw := HF.out.size
      rw [hn1'] at hzw
      clear hs1 hs2 hr3 hq1 hq2 HM hT
      go_upto_region 33 with (first
        | ((go_at_call 30); (with_reducible refine (waiting_any F1 m0 _ _ _ _ _ q1 _ HS1.out (by omega)).mono ?_); rintro e w2 ⟨v2, la, rfl, hwo, hsp, hF⟩; have HWA := Lib.hid hwo; have HSA := Lib.hid hsp; have HF2 := Lib.hid hF; obtain ⟨a2, c2, e2⟩ := hwo.sv.at_; subst e2; clear hwo hsp hF)
        | ((go_at_call 30); (with_reducible refine (waiting_any F2 (m0 + 1) _ _ _ _ _ q2 _ (HS2.out.fr0 HF2.out) (by omega)).mono ?_); rintro e w3 ⟨v3, lb, rfl, hwo, hsp, hF⟩; have HWB := Lib.hid hwo; have HSB := Lib.hid hsp; have HF3 := Lib.hid hF; obtain ⟨a3, c3, e3⟩ := hwo.sv.at_; subst e3; clear hwo hsp hF)
        | ((go_at_call 24); (with_reducible refine (all_any F3 _ _ n3 q3 _ (HR3.out.fr (HF2.out.trans HF3.out) (by simp))).mono ?_); rw [HT.out]; rintro e w4 ⟨v4, rfl, hS, hF⟩; have HK4 := Lib.hid hS; have HF4 := Lib.hid hF; obtain ⟨a4, c4, e4⟩ := hS.at_; subst e4; clear hS hF)
        | ((go_at_call 24); (with_reducible refine (all_any F3 _ _ n3 q3 _ (HR3.out.fr ((HF2.out.trans HF3.out).trans HF4.out) (by simp))).mono ?_); rw [HT.out]; rintro e w5 ⟨v5, rfl, hS, hF⟩; have HX5 := Lib.hid hS; have HF5 := Lib.hid hF; obtain ⟨a5, c5, e5⟩ := hS.at_; subst e5; clear hS hF))
      have hz2 := HF2.out.size
      rw [hn1'] at hz2
      have hz3 := HF3.out.size
      have hz4 := HF4.out.size
      have hz5 := HF5.out.size
      have htm := HX5.out.capLe
      have HWA1 := Lib.hid (show WO w2 n1 (.slice a2 la.length c2) la from hn1' ▸ HWA.out)
      have WF := Lib.hid (show ∀ g ∈ wxF (.slice a2 la.length c2) la, n1 ≤ g ∧ g < w2.heap.size from HWA1.out.wxF)
      have WFB := Lib.hid (show ∀ g ∈ wxF (.slice a3 lb.length c3) lb, w2.heap.size ≤ g ∧ g < w3.heap.size from HWB.out.wxF)
      have hla : la.length ≤ 1024 := by have := congrArg List.length HSA.out; simp [specU] at this; omega
      have hlb : lb.length ≤ 1024 := by have := congrArg List.length HSB.out; simp [specU] at this; omega
      go_wp2
      go_loopw [21] (fun u wx => ∃ j : Nat, j ≤ T.length ∧ u = .int .i64 j ∧ Hid (XV wx w4.heap.size 2 (.slice a5 T.length c5) T.length) ∧ Hid (Fr (Value.slice a5 T.length c5).ownBlock.toList w5 wx)) (fun u _ => T.length - (intOf u).toNat)
      case atStart => exact ⟨0, by omega, rfl, Lib.hid HX5.out.xv, Lib.hid (Fr.refl _ _)⟩
      case round =>
        obtain ⟨j, hj, rfl, HXJ, HFJ⟩ := hrel
        by_cases hjl : j < T.length
        · obtain ⟨g', o', c', u0, u1, he, k1, k2, k3, k4, kf, kz⟩ := HXJ.out.cells2 hjl
          have HE := Lib.hid he
          simp only [Value.slice.injEq] at he
          obtain ⟨rfl, -, rfl⟩ := he
          go_wp2
          go_roundw
          case rel => exact ⟨j + 1, by omega, by go_num, Lib.hid (HXJ.out.set2 hjl HE.out _ _).1, Lib.hid (HFJ.out.trans (HXJ.out.set2 hjl HE.out _ _).2)⟩
          case measure => simp [intOf]; omega
        · obtain rfl : j = T.length := by omega
          have XN : ∀ g, g ∈ (Value.slice a5 T.length c5).ownBlock.toList → w4.heap.size ≤ g := fun g hg => (HX5.out.own (by simpa using hg)).1
          have hzJ := HFJ.out.size
          have FR6 := Lib.hid (show Fr (Value.slice a5 T.length c5).ownBlock.toList w3 wr from ((HF4.out.trans HF5.out).mono (by simp)).trans HFJ.out)
          have HWA6 := Lib.hid (wo_fr (HWA1.out.fr0 HF3.out) FR6.out (fun g hg hm => by have := XN g hg; have := WF.out g hm; omega))
          have HWB6 := Lib.hid (wo_fr HWB.out FR6.out (fun g hg hm => by have := XN g hg; have := WFB.out g hm; omega))
          have HK6 := Lib.hid ((HK4.out.fr0 HF5.out).fr HFJ.out (fun g hg hm => by have := XN g hm; have := (HK4.out.own hg).2; omega))
          have HS16 := Lib.hid ((HS1.out.fr0 (HF2.out.trans HF3.out)).fr FR6.out (fun g hg hm => by have := XN g hm; have := LT1.out g hg; omega))
          have HR36 := Lib.hid ((HR3.out.fr (HF2.out.trans HF3.out) (by simp)).fr FR6.out (fun g hg hm => by have := XN g hm; have := LT3.out g hg; omega))
          have FW6 := Lib.hid (show Fr [] w wr from ((((HF.out.trans HF2.out).trans HF3.out).mono (by simp)).trans FR6.out).weaken (fun g hg => .inr (by have := XN g hg; omega)))
          have HX6 := Lib.hid (samePu_true _ _ la lb _ HWA6.out.ru HWB6.out.ru (HSA.out.trans (HEQ.out.trans HSB.out.symm)) (by omega))
          clear XN HXJ HFJ FR6 HX5 HF5 HF4 HK4 HWA HWA1 HWB HS1 HS2 HR3
          go_upto_region 38 with ((go_at_call 29); (with_reducible refine HX6.out.mono ?_); rintro e w7 ⟨rfl, hF⟩; have HF7 := Lib.hid hF; clear hF)
          have hz7 := HF7.out.size
          go_wp2
          go_loopw [23] (fun u wx => ∃ j : Nat, j ≤ la.length ∧ u = .int .i64 j ∧ Hid (WX wx n1 (.slice a2 la.length c2) la j) ∧ Hid (Fr (wxF (.slice a2 la.length c2) la) w7 wx)) (fun u _ => la.length - (intOf u).toNat)
          case atStart => exact ⟨0, by omega, rfl, Lib.hid (HWA6.out.wx.fr0 HF7.out), Lib.hid (Fr.refl _ _)⟩
          case round =>
            obtain ⟨j, hj, rfl, HXJ, HFJ⟩ := hrel
            by_cases hjl : j < la.length
            · obtain ⟨⟨xs, xn, xv, xch⟩, hj0⟩ : ∃ a, la[j]? = some a := ⟨_, List.getElem?_eq_getElem hjl⟩
              have hmem := List.mem_of_getElem? hj0
              have HJ0 := Lib.hid hj0
              have HMEM := Lib.hid hmem
              obtain ⟨⟨⟨xd, hxd⟩⟩, -⟩ := HXJ.out.ch _ hmem
              simp only at hxd
              obtain ⟨xa, xc, ex⟩ := hxd.at_
              subst ex
              have hxl := hxd.capLe
              have hxl2 : xch.length ≤ 9223372036854775807 := by unfold maxLen at hxl; omega
              clear hxd hj0 hmem
              go_wp2
              go_loopw [24] (fun u wx => ∃ i : Nat, i ≤ xch.length ∧ u = .int .i64 i ∧ Hid (WX wx n1 (.slice a2 la.length c2) la j) ∧ Hid (Fr (wxF (.slice a2 la.length c2) la) w7 wx)) (fun u _ => xch.length - (intOf u).toNat)
              case atStart => exact ⟨0, by omega, rfl, HXJ, HFJ⟩
              case round =>
                obtain ⟨i, hi, rfl, HXI, HFI⟩ := hrel
                obtain ⟨g', o', c', u0, u1, he, k1, k2, k3, k4, k5, kf, kz⟩ := HXI.out.at_ HJ0.out
                have HE := Lib.hid he
                simp only [Value.slice.injEq] at he
                simp only at k5
                obtain ⟨rfl, -, rfl⟩ := he
                by_cases hil : i < xch.length
                · obtain ⟨g2, o2, c2', v0, v1, v2, v3, he2, l1, l2, l3, l4, l5, l6, lf, lz⟩ := ((HXI.out.ch _ HMEM.out).1).cells4 (j := i) hil
                  have HE2 := Lib.hid he2
                  simp only [Value.slice.injEq] at he2
                  obtain ⟨rfl, -, rfl⟩ := he2
                  go_wp2
                  go_roundw
                  case rel => exact ⟨i + 1, by omega, by go_num, Lib.hid (HXI.out.inner HMEM.out hil HE2.out _ _ _ _).1, Lib.hid (HFI.out.trans (HXI.out.inner HMEM.out hil HE2.out _ _ _ _).2)⟩
                  case measure => simp [intOf]; omega
                · obtain rfl : i = xch.length := by omega
                  go_wp2
                  go_roundw
                  case rel => exact ⟨j + 1, by omega, by go_num, Lib.hid (HXI.out.outer hjl HE.out _ _ _).1, Lib.hid (HFI.out.trans (HXI.out.outer hjl HE.out _ _ _).2)⟩
                  case measure => simp [intOf]; omega
            · obtain rfl : j = la.length := by omega
              have FR8 := Lib.hid ((HF7.out.mono (T := wxF (.slice a2 la.length c2) la) (by simp)).trans HFJ.out)
              have HWB8 := Lib.hid (wo_fr HWB6.out FR8.out (fun g hg hm => by have := WF.out g hg; have := WFB.out g hm; omega))
              have HK8 := Lib.hid (HK6.out.fr FR8.out (fun g hg hm => by have := WF.out g hm; have := (HK6.out.own hg).1; omega))
              have HS18 := Lib.hid (HS16.out.fr FR8.out (fun g hg hm => by have := WF.out g hm; have := LT1.out g hg; omega))
              have HR38 := Lib.hid (HR36.out.fr FR8.out (fun g hg hm => by have := WF.out g hm; have := LT3.out g hg; omega))
              have FW8 := Lib.hid (((FW6.out.mono (by simp)).trans FR8.out).weaken (T := []) (fun g hg => .inr (by have := WF.out g hg; omega)))
              clear HXJ HFJ HWA6 HWB6 HK6 HS16 HR36
              go_wp2_with (first
                | ((go_at_call 30); (with_reducible refine (waiting_any F1 m0 _ _ _ _ _ q1 _ HS18.out (by omega)).mono ?_); rintro e w9 ⟨v9, ld, rfl, hwo, hsp, hF⟩; have HWD := Lib.hid hwo; have HSD := Lib.hid hsp; have HF9 := Lib.hid hF; have HXD := Lib.hid (samePu_true _ _ ld lb _ hwo.ru (HWB8.out.fr0 hF).ru (hsp.trans (HEQ.out.trans HSB.out.symm)) (by have := congrArg List.length hsp; simp [specU] at this; omega)); clear hwo hsp hF)
                | ((go_at_call 29); (with_reducible refine HXD.out.mono ?_); rintro e w10 ⟨rfl, hF⟩; have HFa := Lib.hid hF; clear hF)
                | ((go_at_call 24); (with_reducible refine (all_any F3 _ _ n3 q3 _ (HR38.out.fr (HF9.out.trans HFa.out) (by simp))).mono ?_); rw [HT.out]; rintro e w11 ⟨v11, rfl, hS, hF⟩; have HXb := Lib.hid hS; have HFb := Lib.hid hF; clear hS hF)
                | ((go_at_call 17); (with_reducible refine (sameC_true _ _ T _ HXb.out.rd (HK8.out.fr0 ((HF9.out.trans HFa.out).trans HFb.out)).rd htm2).mono ?_); rintro e w12 ⟨rfl, hF⟩; have HFc := Lib.hid hF; clear hF))
              go_ret
              exact ⟨rfl, ((((FW8.out.trans HF9.out).trans HFa.out).trans HFb.out).trans HFc.out)⟩
end Go.Proofs.Ytmilnhicmeblhaa
