/- What the law looks at in a view. -/
import Derived.Test.YtbbnafnnbhbbcaaGreatDoorNames
namespace Go.Proofs.YtbbnafnnbhbbcaaGreatDoor
open Go.RowKit Go.Maps
set_option maxRecDepth 100000
set_option linter.unusedVariables false
set_option linter.unusedSimpArgs false
set_option maxHeartbeats 4000000
/-- An own slice that may be written. -/
def WR (w : World) (v : Value) (n size : Nat) : Prop := ∀ g o c, v = .slice (some ⟨g, o, none⟩) n c → (∀ j, j < n * size → (w.cell? ⟨g, o + j, none⟩).isSome = true) ∧ (∀ j, w.frozen? ⟨g, j, none⟩ = false)
theorem SV.wr {w : World} {base size : Nat} {v : Value} {n : Nat} {xs : List Value} (h : SV w base size v n xs) : WR w v n size := by
  intro g o c e
  rcases h.2 with ⟨e2, _⟩ | ⟨g', o', c', e2, h1, h2, h3, h4, h5, h6, h7⟩
  · rw [e] at e2; cases e2
  · rw [e] at e2
    simp at e2
    obtain ⟨⟨rfl, rfl⟩, rfl⟩ := e2
    exact ⟨fun j hj => h6 j (by have := Nat.mul_le_mul_right size h3; omega), h7⟩
theorem some_set {w : World} {p a : Addr} (u : Value) (h : (w.cell? p).isSome = true) : ((w.setCell a u).cell? p).isSome = true := by
  obtain ⟨x, hx⟩ := Option.isSome_iff_exists.1 h
  by_cases e : a = p
  · subst e
    rw [World.cell?_setCell_same' _ _ _ h]; rfl
  · rw [World.cell?_setCell_other _ _ _ _ e]; exact h
theorem WR.set {w : World} {v : Value} {n size : Nat} (h : WR w v n size) (a : Addr) (u : Value) : WR (w.setCell a u) v n size := by
  intro g o c e
  obtain ⟨h1, h2⟩ := h g o c e
  exact ⟨fun j hj => some_set u (h1 j hj), fun j => by rw [World.frozen?_setCell]; exact h2 j⟩
/-- v is a slice of n cells that is read: below B. -/
def RS (w : World) (B : Nat) (v : Value) (n : Nat) (xs : List Value) : Prop :=
  xs.length = n ∧ ∃ a c, v = .slice a n c ∧ (0 < n → ∃ g o, a = some ⟨g, o, none⟩ ∧ g < B ∧ g < w.heap.size ∧ (∀ j u, xs[j]? = some u → w.cell? ⟨g, o + j, none⟩ = some u))
theorem RS.at_ {w : World} {B : Nat} {v : Value} {n : Nat} {xs : List Value} (h : RS w B v n xs) : ∃ a c, v = .slice a n c := by
  obtain ⟨_, a, c, e, _⟩ := h
  exact ⟨a, c, e⟩
theorem RS.fr {S : List Nat} {w w' : World} {B : Nat} {v : Value} {n : Nat} {xs : List Value} (h : RS w B v n xs) (f : Fr S w w') (hs : ∀ b ∈ S, B ≤ b) : RS w' B v n xs := by
  obtain ⟨h1, a, c, e, h2⟩ := h
  refine ⟨h1, a, c, e, fun hn => ?_⟩
  obtain ⟨g, o, k1, k2, k3, k4⟩ := h2 hn
  have e2 := f.block g k3 (fun hm => by have := hs g hm; omega)
  exact ⟨g, o, k1, k2, Nat.lt_of_lt_of_le k3 f.size, fun j u hj => (World.cell?_of_block (a := ⟨g, o + j, none⟩) e2).trans (k4 j u hj)⟩
theorem RS.fr0 {w w' : World} {B : Nat} {v : Value} {n : Nat} {xs : List Value} (h : RS w B v n xs) (f : Fr [] w w') : RS w' B v n xs := h.fr f (by simp)
theorem RS.cells {w : World} {B : Nat} {v : Value} {n : Nat} {xs : List Value} (h : RS w B v n xs) (hn : 0 < n) : ∃ g o c, v = .slice (some ⟨g, o, none⟩) n c ∧ g < w.heap.size ∧ (∀ j u, xs[j]? = some u → w.cell? ⟨g, o + j, none⟩ = some u) := by
  obtain ⟨_, a, c, e, h2⟩ := h
  obtain ⟨g, o, k1, k2, k3, k4⟩ := h2 hn
  subst k1
  exact ⟨g, o, c, e, k3, k4⟩
/-- What is still to be told, from place i on. -/
def TL (w : World) (v : Value) (n i : Nat) (xs : List Value) : Prop := ∀ g o c, v = .slice (some ⟨g, o, none⟩) n c → (∀ j u, i ≤ j → xs[j]? = some u → w.cell? ⟨g, o + j, none⟩ = some u) ∧ (∀ j, w.frozen? ⟨g, j, none⟩ = false)
theorem SV.tl {w : World} {base : Nat} {v : Value} {n : Nat} {xs : List Value} (h : SV w base 1 v n xs) : TL w v n 0 xs := by
  intro g o c e
  rcases h.2 with ⟨e2, _⟩ | ⟨g', o', c', e2, h1, h2, h3, h4, h5, h6, h7⟩
  · rw [e] at e2; cases e2
  · rw [e] at e2
    simp at e2
    obtain ⟨⟨rfl, rfl⟩, rfl⟩ := e2
    exact ⟨fun j u _ hj => h5 j u hj, h7⟩
theorem TL.fr0 {w w' : World} {v : Value} {n i : Nat} {xs : List Value} (h : TL w v n i xs) (f : Fr [] w w') (hl : ∀ g, v.ownBlock = some g → g < w.heap.size) : TL w' v n i xs := by
  intro g o c e
  obtain ⟨h1, h2⟩ := h g o c e
  have e2 := f.block g (hl g (by subst e; rfl)) (by simp)
  exact ⟨fun j u hj hx => (World.cell?_of_block (a := ⟨g, o + j, none⟩) e2).trans (h1 j u hj hx), fun j => (World.frozen?_of_block (a := ⟨g, j, none⟩) e2).trans (h2 j)⟩
theorem TL.put {w : World} {g o n c i : Nat} {xs : List Value} (h : TL w (.slice (some ⟨g, o, none⟩) n c) n i xs) (u : Value) : TL (w.setCell ⟨g, o + i, none⟩ u) (.slice (some ⟨g, o, none⟩) n c) n (i + 1) xs := by
  intro g' o' c' e
  obtain ⟨h1, h2⟩ := h g' o' c' e
  simp at e
  obtain ⟨⟨rfl, rfl⟩, rfl⟩ := e
  refine ⟨fun j x hj hx => ?_, fun j => by rw [World.frozen?_setCell]; exact h2 j⟩
  rw [World.cell?_setCell_other _ _ _ _ (by first | (simp; done) | (simp; omega))]
  exact h1 j x (by omega) hx
/-- What has been found of a name among the first j. -/
def Wt (l : List (ByteArray × Int)) (s : ByteArray) (j : Nat) (a b : Value) : Prop :=
  (∃ (i : Nat) (k : Int), i < j ∧ l[i]? = some (s, k) ∧ a = .int .i64 i ∧ b = .int .u8 k) ∨ ((∀ i, i < j → ∀ x, l[i]? = some x → x.1 ≠ s) ∧ a = .int .i64 (-1) ∧ b = .int .u8 0)
theorem Good.place {l : List (ByteArray × Int)} (h : Good l) {s : ByteArray} {i : Nat} {k : Int} (hi : l[i]? = some (s, k)) : placeF l s = some i := by
  refine place_first hi ?_
  intro j hj x hx he
  have h1 : (l.map (·.1))[i]? = some s := by simp [hi]
  have h2 : (l.map (·.1))[j]? = some s := by simp [hx, he]
  obtain ⟨p1, e1⟩ := List.getElem?_eq_some_iff.1 h1
  obtain ⟨p2, e2⟩ := List.getElem?_eq_some_iff.1 h2
  have := (List.getElem_inj (xs := l.map (·.1)) (h₀ := p2) (h₁ := p1) h.nd).1 (by rw [e1, e2])
  omega
theorem viewed_any (bv base : Nat) (l : List (ByteArray × Int)) (vb vn : Value) (nm : List ByteArray) (B : Nat) (w : World) (h : VW w base bv l) (hg : Good l) (hb : RD w 2 vb l.length (flat l)) (hn : RS w B vn nm.length (nm.map Value.string)) (hs : ∀ s ∈ nm, s.size ≤ maxLen) (hnl : nm.length ≤ 9223372036854775806) :
    Calls Tryz.prog 9 #[.pointer (some ⟨bv, 0, none⟩), vb, vn] w fun e w' => e = .returned (.bool true) ∧ Fr [] w w' := by
  have hlen := h.n
  obtain ⟨vba, vbc, hvb⟩ := hb.at_
  obtain ⟨vna, vnc, hvn⟩ := hn.at_
  subst hvb hvn
  have HV := Lib.hid h
  have HG := Lib.hid hg
  have HB := Lib.hid hb
  have HN := Lib.hid hn
  have HS := Lib.hid hs
  clear h hg hb hn hs
  go_enter Tryz.func9, Tryz.ntmps9
  go_wp2_with fail
  go_at_call 25
  refine (vlen_any bv base l _ HV.out).mono ?_
  rintro e w1 ⟨rfl, rfl⟩
  go_wp2_with fail
  go_at_call 27
  refine (all_any bv base l _ HV.out).mono ?_
  rintro e w1 ⟨v1, rfl, hS1, hF1⟩
  obtain ⟨a1, c1, hv1⟩ := hS1.at_
  subst hv1
  go_wp2_with fail
  go_at_call 26
  refine (asks_any _ _ l _ hS1.rd (HB.out.fr0 hF1) hlen).mono ?_
  rintro e w2 ⟨rfl, hF2⟩
  have HF2 := Lib.hid (hF1.trans hF2)
  clear hS1 hF1 hF2
  go_wp2_with fail
  go_at_call 27
  refine (all_any bv base l _ (HV.out.frb HF2.out (by simp))).mono ?_
  rintro e w3 ⟨v3, rfl, hS3, hF3⟩
  obtain ⟨a3, c3, hv3⟩ := hS3.at_
  subst hv3
  have HF3 := Lib.hid (HF2.out.trans hF3)
  have hz2 := HF2.out.size
  have HS3 := Lib.hid hS3
  have hW3 := hS3.wr
  clear hS3 hF3
  go_wp2_with fail
  go_loopw [42] (fun u wr => ∃ j : Nat, j ≤ l.length ∧ u = .int .i64 j ∧ WR wr (.slice a3 l.length c3) l.length 2 ∧ Fr (Value.slice a3 l.length c3).ownBlock.toList w3 wr) (fun u _ => l.length - (intOf u).toNat)
  case atStart => exact ⟨0, by omega, rfl, hW3, Fr.refl _ _⟩
  case round =>
    obtain ⟨j, hj, rfl, hW, hFr⟩ := hrel
    by_cases hjl : j < l.length
    · obtain ⟨g, o, c, he, g1, g2, g3, g4, g5⟩ := HS3.out.cells (by omega)
      clear g5
      simp only [Value.slice.injEq] at he
      obtain ⟨rfl, -, rfl⟩ := he
      obtain ⟨q1, q2⟩ := hW g o c3 rfl
      obtain ⟨x0, hx0⟩ := Option.isSome_iff_exists.1 (q1 (j * 2) (by omega))
      obtain ⟨x1, hx1⟩ := Option.isSome_iff_exists.1 (q1 (j * 2 + 1) (by omega))
      rw [← Nat.add_assoc] at hx1
      have z0 := q2 (o + j * 2)
      have z1 := q2 (o + j * 2 + 1)
      have hx1' : (wr.setCell ⟨g, o + j * 2, none⟩ (.string ByteArray.empty)).cell? ⟨g, o + j * 2 + 1, none⟩ = some x1 := by
        rw [World.cell?_setCell_other _ _ _ _ (by simp)]; exact hx1
      have HW := Lib.hid hW
      clear hW q1 q2
      go_wp2
      go_roundw
      case rel =>
        refine ⟨j + 1, by omega, by go_num, (HW.out.set _ _).set _ _, ?_⟩
        refine (hFr.set (.inl ?_) _).set (.inl ?_) _ <;> simp [Value.ownBlock]
      case measure => simp [intOf]; omega
    · obtain rfl : j = l.length := by omega
      clear hW
      have hF4 : Fr [] w wr := (((HF3.out).mono (by simp)).trans hFr).weaken (by
        intro z hz
        rw [Option.mem_toList] at hz
        have := (HS3.out.own hz).1
        right; omega)
      have HF4 := Lib.hid hF4
      clear hFr hF4 HF3 HF2 hW3
      go_wp2_with fail
      go_at_call 28
      refine (sorted_any _ l _ (HB.out.fr0 HF4.out) hlen).mono ?_
      rintro e w5 ⟨v5, rfl, hS5, hF5⟩
      obtain ⟨a5, c5, hv5⟩ := hS5.at_
      subst hv5
      have hF5' := HF4.out.trans hF5
      go_wp2_with fail
      go_at_call 29
      refine (names_any bv base l _ (HV.out.frb hF5' (by simp)) HG.out).mono ?_
      rintro e w6 ⟨v6, rfl, hS6, hF6⟩
      obtain ⟨a6, c6, hv6⟩ := hS6.at_
      subst hv6
      have hsl : (sortF l).length = l.length := (sortF_perm l).length_eq
      have hS5own : ∀ g', (Value.slice a5 (sortF l).length c5).ownBlock = some g' → g' < w5.heap.size := fun g' hg' => (hS5.own hg').2
      have HO5 := Lib.hid hS5own
      clear hS5own
      have HS5 := Lib.hid (hS5.fr0 hF6)
      have HS6 := Lib.hid hS6
      have HT := Lib.hid hS6.tl
      have HF6 := Lib.hid (hF5'.trans hF6)
      have hz5 := hF5'.size
      have hz6 := hF6.size
      have hsz4 := HF4.out.size
      have hsz5 := hF5.size
      clear hS5 hS6 hF5 hF6 hF5' HF4
      go_wp2_with fail
      go_loopw [61] (fun u wr => ∃ j : Nat, j ≤ l.length ∧ u = .int .i64 j ∧ TL wr (.slice a6 l.length c6) l.length j (namesV l) ∧ Fr (Value.slice a6 l.length c6).ownBlock.toList w6 wr) (fun u _ => l.length - (intOf u).toNat)
      case atStart => exact ⟨0, by omega, rfl, HT.out, Fr.refl _ _⟩
      case round =>
        obtain ⟨j, hj, rfl, hT, hFr⟩ := hrel
        by_cases hjl : j < l.length
        · obtain ⟨⟨sj, kj⟩, hj0⟩ : ∃ a, (sortF l)[j]? = some a := ⟨_, List.getElem?_eq_getElem (by omega)⟩
          have hown : ∀ z, z ∈ (Value.slice a6 l.length c6).ownBlock.toList → w5.heap.size ≤ z := by
            intro z hz
            rw [Option.mem_toList] at hz
            exact (HS6.out.own hz).1
          obtain ⟨g, o, c, he, g1, g2, g3, g4, g5⟩ := HS6.out.cells (by omega)
          clear g5
          simp only [Value.slice.injEq] at he
          obtain ⟨rfl, -, rfl⟩ := he
          have hrd := (HS5.out.rd).fr hFr (fun g' hg' hm => by have := HO5.out g' hg'; have := hown _ hm; omega)
          obtain ⟨p, q, d, he5, p1, p2, p3, p4⟩ := hrd.cells (by omega)
          simp only [Value.slice.injEq] at he5
          obtain ⟨rfl, -, rfl⟩ := he5
          have k0 := p4 (j * 2) _ (flat_get _ j _ hj0).1
          have k1 := p4 (j * 2 + 1) _ (flat_get _ j _ hj0).2
          rw [← Nat.add_assoc] at k1
          obtain ⟨t1, t2⟩ := hT g o c6 rfl
          have hnj : (namesV l)[j]? = some (.string sj) := by unfold namesV; rw [List.getElem?_map, hj0]; rfl
          have tj := t1 j _ (Nat.le_refl _) hnj
          have tz := t2 (o + j)
          have hgl : g < wr.heap.size := Nat.lt_of_lt_of_le g2 hFr.size
          have HT := Lib.hid hT
          have hjs : j < (sortF l).length := by omega
          have HJ := Lib.hid hj0
          have HN2 := Lib.hid hnj
          have hb := Blk.new wr #[.string sj, .int .u8 kj] 31
          have hbc := hb.cell
          have hbl := hb.lt
          have ts := (Cel.mk tj tz).al (.cells #[.string sj, .int .u8 kj] 31)
          have tsc := ts.c
          have tsf := ts.f
          clear p4 t1 t2 hT hj0 hnj hrd
          go_wp2_with fail
          go_quiet (fail)
          go_wp2
          go_roundw
          case rel =>
            refine ⟨j + 1, by omega, by go_num, ?_, ?_⟩
            · refine TL.put (HT.out.fr0 ?_ ?_) _
              · repeat' (first | (with_reducible exact Fr.refl _ _) | (with_reducible refine Fr.drew ?_) | (with_reducible refine Fr.drN ?_ _) | (with_reducible refine Fr.alloc ?_ _) | (with_reducible refine Fr.set ?_ ?_ _) | (left; simp; done) | (right; simp; done) | (right; simp; omega))
              · intro z hz
                simp [Value.ownBlock] at hz
                omega
            · refine Fr.set ?_ (.inl (by simp [Value.ownBlock])) _
              repeat' (first | (with_reducible exact hFr) | (with_reducible refine Fr.drew ?_) | (with_reducible refine Fr.drN ?_ _) | (with_reducible refine Fr.alloc ?_ _) | (with_reducible refine Fr.set ?_ ?_ _) | (left; simp; done) | (right; simp; done) | (right; simp; omega))
          case measure => simp [intOf]; omega
        · obtain rfl : j = l.length := by omega
          have hF7 : Fr [] w wr := (((HF6.out).mono (by simp)).trans hFr).weaken (by
            intro z hz
            rw [Option.mem_toList] at hz
            have := (HS6.out.own hz).1
            right; omega)
          have HF7 := Lib.hid hF7
          clear hT hFr hF7 HT HS5 HS6 HF6 HO5 HS3
          go_wp2_with fail
          go_loopw [79] (fun u wq => ∃ j : Nat, j ≤ nm.length ∧ u = .int .i64 j ∧ Fr [] w wq) (fun u _ => nm.length - (intOf u).toNat)
          case atStart => exact ⟨0, by omega, rfl, HF7.out⟩
          case round =>
            obtain ⟨j, hj, rfl, hFq⟩ := hrel
            clear HF7
            by_cases hjl : j < nm.length
            · obtain ⟨s, hs⟩ : ∃ s, nm[j]? = some s := ⟨_, List.getElem?_eq_getElem hjl⟩
              have hsz : s.size ≤ maxLen := HS.out s (List.mem_of_getElem? hs)
              obtain ⟨p, q, d, he, p1, p4⟩ := (HN.out.fr0 hFq).cells (by omega)
              simp only [Value.slice.injEq] at he
              obtain ⟨rfl, -, rfl⟩ := he
              have k0 := p4 j (.string s) (by rw [List.getElem?_map, hs]; rfl)
              clear p4 hs
              have HFq := Lib.hid hFq
              clear hFq
              go_wp2_with ((go_at_call 30); (with_reducible refine (find_any bv base l s _ (HV.out.frb HFq.out (by simp)) hsz).mono ?_); rintro e w8 ⟨at_, kd, is_, hFd, rfl, hF8⟩)
              have HFd := Lib.hid hFd
              have HF8 := Lib.hid (HFq.out.trans hF8)
              clear hFd hF8 k0
              go_loopw [18, 19, 92] (fun a b u wz => ∃ i : Nat, i ≤ l.length ∧ u = .int .i64 i ∧ Wt l s i a b ∧ Fr [] w wz) (fun _ _ u _ => l.length - (intOf u).toNat)
              case atStart => exact ⟨0, by omega, rfl, .inr ⟨fun i hi => by omega, rfl, rfl⟩, HF8.out⟩
              case round =>
                obtain ⟨i, hi, rfl, hWt, hFz⟩ := hrel
                clear HF8
                by_cases hil : i < l.length
                · obtain ⟨⟨si, ki⟩, hi0⟩ : ∃ a, l[i]? = some a := ⟨_, List.getElem?_eq_getElem hil⟩
                  obtain ⟨p', q', d', he', p1', p2', p3', p4'⟩ := (HB.out.fr0 hFz).cells (by omega)
                  simp only [Value.slice.injEq] at he'
                  obtain ⟨rfl, -, rfl⟩ := he'
                  have k0 := p4' (i * 2) _ (flat_get l i _ hi0).1
                  have k1 := p4' (i * 2 + 1) _ (flat_get l i _ hi0).2
                  rw [← Nat.add_assoc] at k1
                  have HI := Lib.hid hi0
                  have HWt := Lib.hid hWt
                  have HFz := Lib.hid hFz
                  have hb := Blk.new wr #[.string si, .int .u8 ki] 31
                  have hbc := hb.cell
                  clear p4' hi0 hWt hFz
                  by_cases hse : si = s
                  · subst hse
                    go_wp2
                    go_roundw
                    case rel => exact ⟨i + 1, by omega, by go_num, .inl ⟨i, ki, by omega, HI.out, rfl, rfl⟩, HFz.out.alloc _⟩
                    case measure => simp [intOf]; omega
                  · have e1 := ba_ne hse
                    have e2 := ba_beq hse
                    go_wp2
                    go_roundw
                    case rel =>
                      refine ⟨i + 1, by omega, by go_num, ?_, HFz.out.alloc _⟩
                      rcases HWt.out with ⟨i', k', h1, h2, h3, h4⟩ | ⟨h1, h3, h4⟩
                      · exact .inl ⟨i', k', by omega, h2, h3, h4⟩
                      · refine .inr ⟨?_, h3, h4⟩
                        intro i' hi' x hx
                        by_cases h5 : i' < i
                        · exact h1 i' h5 x hx
                        · obtain rfl : i' = i := by omega
                          rw [HI.out] at hx
                          cases hx
                          exact hse
                    case measure => simp [intOf]; omega
                · obtain rfl : i = l.length := by omega
                  have HFz := Lib.hid hFz
                  have hFd := HFd.out
                  clear hFz
                  rcases hWt with ⟨i', k', h1, h2, rfl, rfl⟩ | ⟨h1, rfl, rfl⟩
                  · have hpl := HG.out.place h2
                    unfold findF at hFd
                    rw [hpl] at hFd
                    simp only [h2, Option.map_some, Option.getD_some, Prod.mk.injEq] at hFd
                    obtain ⟨rfl, rfl, rfl⟩ := hFd
                    clear h2 hpl
                    go_wp2
                    go_roundw
                    case rel => exact ⟨j + 1, by omega, by go_num, HFz.out⟩
                    case measure => simp [intOf]; omega
                  · have hpl := place_no h1
                    unfold findF at hFd
                    rw [hpl] at hFd
                    simp only [Prod.mk.injEq] at hFd
                    obtain ⟨rfl, rfl, rfl⟩ := hFd
                    clear h1 hpl
                    go_wp2
                    go_roundw
                    case rel => exact ⟨j + 1, by omega, by go_num, HFz.out⟩
                    case measure => simp [intOf]; omega
            · obtain rfl : j = nm.length := by omega
              go_wp2
              go_ret
              exact ⟨rfl, hFq⟩
end Go.Proofs.YtbbnafnnbhbbcaaGreatDoor
namespace Go.Proofs.YtbbnafnnbhbbcaaGreatDoor
open Go.RowKit Go.Maps
set_option maxRecDepth 100000
set_option linter.unusedVariables false
set_option linter.unusedSimpArgs false
set_option maxHeartbeats 4000000
theorem RV.fr {S : List Nat} {w w' : World} {br base : Nat} {m : Int} {l : List (ByteArray × Int)} {bv : Nat} (h : RV w br base m l bv) (f : Fr S w w') (hs : ∀ b ∈ S, False) : RV w' br base m l bv := h.fr0 (f.mono (fun k hk => (hs k hk).elim))
theorem asks_ok (ao : Option Addr) (b off len cap : Nat) (sf : Nat → ByteArray) (kf : Nat → Int) (vn : Value) (nm : List ByteArray) (w : World) (hu : Uses w)
    (ha : 0 < len → ao = some ⟨b, off, none⟩) (hb : 0 < len → b < w.heap.size) (hc : ∀ j, j < len → w.cell? ⟨b, off + j * 2, none⟩ = some (.string (sf j)) ∧ w.cell? ⟨b, off + j * 2 + 1, none⟩ = some (.int .u8 (kf j)))
    (hx : ∀ j, j < len → (sf j).size ≤ maxLen) (hl : len * 24 ≤ 140737488351232) (hn : RS w w.heap.size vn nm.length (nm.map Value.string)) (hs : ∀ s ∈ nm, s.size ≤ maxLen) (hnl : nm.length ≤ 9223372036854775806) :
    Calls Tryz.prog 3 #[.slice ao len cap, vn] w fun e w' => e = .returned (.bool true) ∧ Fr [] w w' := by
  have HU := Lib.hid hu
  have HA := Lib.hid ha
  have HB := Lib.hid hb
  have HC := Lib.hid hc
  have HX := Lib.hid hx
  obtain ⟨vna, vnc, hvn⟩ := hn.at_
  subst hvn
  have HN := Lib.hid hn
  have HS := Lib.hid hs
  clear hu ha hb hc hx hn hs
  go_enter Tryz.func3, Tryz.ntmps3
  go_wp2_with (first | ((go_at_call 4); (with_reducible refine (lives_any _ HU.out).mono ?_); rintro e w1 ⟨rfl, hF1⟩; have hs1 := hF1.size) | ((go_at_call 5); (with_reducible refine (open_any _).mono ?_); rintro e w2 ⟨br, rfl, hR, hb1, hF2⟩; have hs2 := hF2.size; have hrl := hR.lt) | ((go_at_call 6); (with_reducible refine (rview_rv br w2.heap.size 0 [] _ (RG.fresh hR)).mono ?_); rintro e w3 ⟨bv0, rfl, hV, hF3⟩))
  have hF := ((hF1.trans hF2).mono (by simp)).trans hF3
  replace hF : Fr [] w w3 := hF.weaken (by intro z hz; simp at hz; right; omega)
  have hV0 := hV.vw
  have hR0 := hV.rg
  have hwb : w.heap.size ≤ w2.heap.size := by omega
  have HR0 := Lib.hid hR0
  have HV0 := Lib.hid hV0
  clear hR hV hF1 hF2 hF3 hR0 hV0
  obtain ⟨base, hbase⟩ : ∃ n, n = w2.heap.size := ⟨_, rfl⟩
  rw [← hbase] at HR0 HV0 hwb hrl
  have hbw0 : w.heap.size ≤ br := by omega
  clear hbase hs2 hs1
  go_loopw [6, 7, 8, 25] (fun v6 v7 v8 v wr => ∃ (i : Nat) (l l1 : List (ByteArray × Int)) (be : Nat), i ≤ len ∧ v = .int .i64 i ∧ v7 = .pointer (some ⟨be, 0, none⟩) ∧ SV wr base 2 v6 l.length (flat l) ∧ SV wr base 2 v8 l1.length (flat l1) ∧ RG wr br base 0 l ∧ VW wr base be l1 ∧ Good l ∧ Good l1 ∧ (i ≤ 1 → l1 = []) ∧ Fr [] w wr) (fun _ _ _ v _ => len - (intOf v).toNat)
  case atStart => exact ⟨0, [], [], bv0, by omega, rfl, rfl, SV.nil _ _ _, SV.nil _ _ _, HR0.out, HV0.out, Good.nil, Good.nil, fun _ => rfl, hF⟩
  case round =>
    obtain ⟨i, l, l1, be, hi, rfl, rfl, hS, hS1, hR, hE, hG, hG1, h01, hFr⟩ := hrel
    obtain ⟨ba, bc, hbv⟩ := hS.at_
    subst hbv
    obtain ⟨fa, fc, hfv⟩ := hS1.at_
    subst hfv
    have hlen := hR.len
    have hlen1 := hE.n
    have hrr := hR.lt
    have hhi := hR.hi
    have hlo := hR.lo
    clear HR0 HV0 hF
    by_cases hlt : i < len
    · have ea := HA.out (by omega)
      have hbl := HB.out (by omega)
      have hcc := HC.out i hlt
      have hxx := HX.out i hlt
      obtain ⟨s, hs⟩ : ∃ s, s = sf i := ⟨_, rfl⟩
      obtain ⟨k, hk⟩ : ∃ k, k = kf i := ⟨_, rfl⟩
      rw [← hs, ← hk] at hcc
      rw [← hs] at hxx
      clear hs hk
      have c0 : wr.cell? ⟨b, off + i * 2, none⟩ = some (.string s) := by rw [World.cell?_of_block (hFr.block b hbl (by simp))]; exact hcc.1
      have c1 : wr.cell? ⟨b, off + i * 2 + 1, none⟩ = some (.int .u8 k) := by rw [World.cell?_of_block (hFr.block b hbl (by simp))]; exact hcc.2
      have hbr : b < wr.heap.size := Nat.lt_of_lt_of_le hbl hFr.size
      subst ea
      clear hcc
      have HSb := Lib.hid hS
      have HS1 := Lib.hid hS1
      have HR := Lib.hid hR
      have HE := Lib.hid hE
      have HG := Lib.hid hG
      have HG1 := Lib.hid hG1
      have H01 := Lib.hid h01
      have HFr := Lib.hid hFr
      clear hS hS1 hR hE hG hG1 h01 hFr
      go_upto_region 13 with (first | ((go_at_call 7); (with_reducible refine (rask_any base _ l s k _ (HSb.out.al _) hlen (by simp; omega)).mono ?_); rintro e w4 ⟨l', n, f, y, v4, hA, rfl, hS4, hF4⟩; obtain ⟨ba4, bc4, hv4⟩ := hS4.at_; subst hv4; have HA4 := Lib.hid hA; clear hA; have hb4 := hF4.blk (Blk.new wr _ _) (by simp); have hb4c := hb4.cell; have hb4l := hb4.lt) | ((go_at_call 8); (with_reducible refine (ask_any br base l s k _ ((HR.out.al _).fr0 hF4) hxx).mono ?_); rintro e w5 ⟨l2, n2, f2, y2, hA2, rfl, hR5, hF5⟩; obtain ⟨rfl, rfl, rfl, rfl⟩ : l' = l2 ∧ n = n2 ∧ f = f2 ∧ y = y2 := (by have h := HA4.out.symm.trans hA2; simpa using h)))
      have hS5 := Lib.hid (hS4.frb hF5 (by simp; omega))
      have hal : Fr [br] wr w5 := (((Fr.refl [br] wr).alloc (.cells #[.string s, .int .u8 k] 31)).trans (hF4.mono (by simp))).trans hF5
      have HS15 := Lib.hid (HS1.out.frb hal (by simp; omega))
      have HE5 := Lib.hid (HE.out.frb hal (by simp; omega))
      have HR5 := Lib.hid hR5
      have HGA := Lib.hid (HG.out.ask s k)
      have HGL : Good l' := by have := HGA.out; rw [HA4.out] at this; exact this
      have HF5 := Lib.hid (((HFr.out.mono (by simp)).trans hal).weaken (T := []) (by intro z hz; simp at hz; right; omega))
      have HN5 := Lib.hid (HN.out.fr (((HFr.out.mono (by simp)).trans hal)) (by simp; omega))
      have hlen5 := hR5.len
      have hrr5 := hR5.lt
      clear hS4 hF4 hb4 hb4c hb4l hR5 hF5 hal HSb HS1 HE
      go_cut [70] (fun v wx => v = .bool false ∧ Fr [br] w5 wx ∧ RG wx br base 0 l')
      case first =>
        by_cases h40 : i < 40
        · have h40' : (i : Int) < 40 := by omega
          go_wp2_with (first | ((go_at_call 6); (with_reducible refine (rview_rv br base 0 l' _ HR5.out).mono ?_); rintro e w6 ⟨bv6, rfl, hV6, hF6⟩; have hS6 := hS5.out.frb hF6 (by simp; omega); have hN6 := HN5.out.fr hF6 (by simp; omega)) | ((go_at_call 9); (with_reducible refine (viewed_any bv6 base l' _ _ nm _ _ hV6.vw HGL hS6.rd hN6 HS.out hnl).mono ?_); rintro e w7 ⟨rfl, hF7⟩))
          go_meet
          exact ⟨rfl, hF6.trans (hF7.mono (by simp)), hV6.rg.fr0 hF7⟩
        · have h40' : ¬ (i : Int) < 40 := by omega
          go_wp2
          go_meet
          exact ⟨rfl, Fr.refl _ _, HR5.out⟩
      case rest =>
        obtain ⟨rfl, hFx, hRx⟩ := hcut
        have hSx := hS5.out.frb hFx (by simp; omega)
        have hS1x := HS15.out.frb hFx (by simp; omega)
        have hEx := HE5.out.frb hFx (by simp; omega)
        have hFrx : Fr [] w wc := ((HF5.out.mono (by simp)).trans hFx).weaken (by intro z hz; simp at hz; right; omega)
        have HRx := Lib.hid hRx
        have HSx := Lib.hid hSx
        have HS1x := Lib.hid hS1x
        have HEx := Lib.hid hEx
        have HFrx := Lib.hid hFrx
        clear hFx hRx hSx hS1x hEx hFrx
        by_cases h1 : i = 1
        · have h1' : ((i : Int) == 1) = true := by simp; omega
          go_wp2_with ((go_at_call 6); (with_reducible refine (rview_rv br base 0 l' _ HRx.out).mono ?_); rintro e w6 ⟨bv6, rfl, hV6, hF6⟩)
          have hS6 := HSx.out.frb hF6 (by simp; omega)
          go_roundw
          case rel => exact ⟨i + 1, l', l', bv6, by omega, by go_num, rfl, hS6, hS6, hV6.rg, hV6.vw, HGL, HGL, fun h => by omega, ((HFrx.out.mono (by simp)).trans hF6).weaken (by intro z hz; simp at hz; right; omega)⟩
          case measure => simp [intOf]; omega
        · have h1' : ((i : Int) == 1) = false := by simp; omega
          go_wp2
          go_roundw
          case rel => exact ⟨i + 1, l', l1, be, by omega, by go_num, rfl, HSx.out, HS1x.out, HRx.out, HEx.out, HGL, HG1.out, fun h => H01.out (by omega), HFrx.out⟩
          case measure => simp [intOf]; omega
    · obtain rfl : i = len := by omega
      have hN := Lib.hid (HN.out.fr hFr (by simp))
      have HSb := Lib.hid hS
      have HS1 := Lib.hid hS1
      have HR := Lib.hid hR
      have HE := Lib.hid hE
      have HFr := Lib.hid hFr
      clear hS hS1 hR hE hFr
      by_cases h2 : i < 2
      · have hl10 : l1 = [] := h01 (by omega)
        subst hl10
        have h2' : (i : Int) < 2 := by omega
        go_wp2_with (first | ((go_at_call 6); (with_reducible refine (rview_rv br base 0 l _ HR.out).mono ?_); rintro e w6 ⟨bv6, rfl, hV6, hF6⟩; have hS6 := HSb.out.frb hF6 (by simp; omega); have hE6 := HE.out.frb hF6 (by simp; omega); have hN6 := hN.out.fr hF6 (by simp; omega)) | ((go_at_call 9); (with_reducible refine (viewed_any bv6 base l _ _ nm _ _ hV6.vw hG hS6.rd hN6 HS.out hnl).mono ?_); rintro e w7 ⟨rfl, hF7⟩) | ((go_at_call 9); (with_reducible refine (viewed_any be base [] _ _ nm _ _ (hE6.frb hF7 (by simp)) hG1 (RD.nil _ _) (hN6.fr0 hF7) HS.out hnl).mono ?_); rintro e w8 ⟨rfl, hF8⟩))
        go_ret
        refine ⟨rfl, ((((HFr.out.mono (by simp)).trans hF6).trans (hF7.mono (by simp))).trans (hF8.mono (by simp))).weaken (by intro z hz; simp at hz; right; omega)⟩
      · have h2' : ¬ (i : Int) < 2 := by omega
        go_wp2_with (first | ((go_at_call 6); (with_reducible refine (rview_rv br base 0 l _ HR.out).mono ?_); rintro e w6 ⟨bv6, rfl, hV6, hF6⟩; have hS6 := HSb.out.frb hF6 (by simp; omega); have hS16 := HS1.out.frb hF6 (by simp; omega); have hE6 := HE.out.frb hF6 (by simp; omega); have hN6 := hN.out.fr hF6 (by simp; omega)) | ((go_at_call 9); (with_reducible refine (viewed_any bv6 base l _ _ nm _ _ hV6.vw hG hS6.rd hN6 HS.out hnl).mono ?_); rintro e w7 ⟨rfl, hF7⟩) | ((go_at_call 9); (with_reducible refine (viewed_any be base l1 _ _ nm _ _ (hE6.frb hF7 (by simp)) hG1 (hS16.fr0 hF7).rd (hN6.fr0 hF7) HS.out hnl).mono ?_); rintro e w8 ⟨rfl, hF8⟩))
        go_ret
        refine ⟨rfl, ((((HFr.out.mono (by simp)).trans hF6).trans (hF7.mono (by simp))).trans (hF8.mono (by simp))).weaken (by intro z hz; simp at hz; right; omega)⟩
end Go.Proofs.YtbbnafnnbhbbcaaGreatDoor
