/- The package crdt: state. -/
import Derived.Test.YtanbfejhhnhabaaNs
namespace Go.Proofs.Ytanbfejhhnhabaa
open Go.RowKit Go.Maps Go.Sort
set_option maxRecDepth 100000
set_option linter.unusedVariables false
set_option linter.unusedSimpArgs false
set_option maxHeartbeats 4000000
theorem SV.cells {w : World} {base size : Nat} {v : Value} {n : Nat} {xs : List Value} (h : SV w base size v n xs) (hn : 0 < n) : ∃ g o c, v = .slice (some ⟨g, o, none⟩) n c ∧ base ≤ g ∧ g < w.heap.size ∧ n ≤ c ∧ c ≤ maxLen ∧ (∀ j u, xs[j]? = some u → w.cell? ⟨g, o + j, none⟩ = some u) := by
  rcases h.2 with ⟨_, h2⟩ | ⟨g, o, c, h1, h2, h3, h4, h5, h6, _⟩
  · omega
  · exact ⟨g, o, c, h1, h2, h3, h4, h5, h6⟩
theorem cells_of_blk {W : World} {b : Nat} {xs : List Value} {t : TypeId} (h : Blk W b xs.toArray t) : ∀ j u, xs[j]? = some u → W.cell? ((⟨b, 0, none⟩ : Addr).add j) = some u := fun j u hj => by
  rw [show (⟨b, 0, none⟩ : Addr).add j = ⟨b, j, none⟩ by unfold Addr.add; split <;> simp_all, h.cell j]
  simpa using hj
/-- An own slice of nodes. -/
abbrev SN (w : World) (base : Nat) (v : Value) (l : List Nd) : Prop := SV w base 3 v l.length (flat3 l)
theorem SV.base_le {w : World} {base base' size : Nat} {v : Value} {n : Nat} {xs : List Value} (h : SV w base size v n xs) (hb : base' ≤ base) : SV w base' size v n xs := by
  obtain ⟨h1, h2⟩ := h
  refine ⟨h1, ?_⟩
  rcases h2 with h2 | ⟨g, o, c, e, k1, k2⟩
  · exact .inl h2
  · exact .inr ⟨g, o, c, e, Nat.le_trans hb k1, k2⟩
theorem own_fr {w wr w4 : World} {base size : Nat} {v : Value} {n : Nat} {xs : List Value} (h : Fr [] w wr) (hS : SV wr base size v n xs) (k : Fr v.ownBlock.toList wr w4) (hb : w.heap.size ≤ base) : Fr [] w w4 :=
  ((h.mono (by simp)).trans k).weaken (by intro z hz; rw [Option.mem_toList] at hz; have := (hS.own hz).1; right; omega)
theorem state_any (b n : Nat) (l : List Nd) (w : World) (h : NM w b n l) (hg : Good l) (hn : n ≤ 4096) (hl : l.length ≤ 4096) :
    Calls Try.prog 36 #[.map (some b)] w fun e w' => ∃ v, e = .returned v ∧ SN w' w.heap.size v l ∧ Fr [] w w' := by
  obtain ⟨D, ho, hD⟩ := h.ex
  have hmax : Maps.size D ≤ maxLen := by have := ho.size_le; unfold maxLen; omega
  have hbytes : Maps.size D * 16 ≤ 140737488355328 := by have := ho.size_le; omega
  have hp := names_perm ho hD hg
  have HP := Lib.hid hp
  have HM := Lib.hid h
  have HG := Lib.hid hg
  have HO := Lib.hid ho
  have hbl0 := h.lt
  clear h hp hD hg
  obtain ⟨i0, hi0, hz0, hz1, hz2⟩ := info_parts infoN
  go_enter Try.func36, Try.ntmps36
  go_wp2_with (first
    | (go_at_call 57; refine (callsIn_wide.1 (Try.maps_Keys_57 (some b) _)).mono ?_; rintro e w1 ⟨rfl, rfl⟩)
    | (go_at_call 56; refine (callsIn_wide.1 (Try.slices_Sorted_keys_56_57 b _ D NE w HO.out hmax hbytes)).mono ?_; rintro e w2 ⟨v, ss, rfl, hS, hrow, hnil, hbel⟩; have HF2 := Lib.hid (((Fr.refl [] w).alloc (.cells #[.map (some b)] 68)).trans (Fr.of_below hbel)); have hlen2 : ss.length = l.length := (by have := (hS.trans HP.out.symm).length_eq; simpa using this); have hr0 := hrow; rw [names_eq HG.out hS HP.out, hlen2] at hr0; have HK := Lib.hid (SV.of_owns (B := w.heap.size + 1) hr0 (by simp)); obtain ⟨ka, kc, hv⟩ := HK.out.at_; subst hv; clear hrow hr0 hnil hbel hS hlen2))
  have hz2' := HF2.out.size
  go_loopw [3, 10] (fun x u wr => ∃ j : Nat, j ≤ l.length ∧ u = .int .i64 j ∧ SN wr w2.heap.size x (l.take j) ∧ Fr [] w2 wr) (fun _ u _ => l.length - (intOf u).toNat)
  case atStart => exact ⟨0, by omega, rfl, SV.nil _ _ _, Fr.refl _ _⟩
  case round =>
    obtain ⟨j, hj, rfl, hX, hF⟩ := hrel
    have hlt : (l.take j).length = j := by simp; omega
    by_cases hjl : j < l.length
    · obtain ⟨⟨s, u, d⟩, hj0⟩ : ∃ a, l[j]? = some a := ⟨_, List.getElem?_eq_getElem hjl⟩
      obtain ⟨g, o, c', he, g1, g2, g3, g4, g5⟩ := ((HK.out.fr0 hF)).cells (by omega)
      simp only [Value.slice.injEq] at he
      obtain ⟨rfl, -, rfl⟩ := he
      have k0 := g5 j (.string s) (by simp [hj0, bts])
      have hsz : s.size ≤ maxLen := by have := HG.out.sz _ (List.mem_of_getElem? hj0); unfold maxLen; simp at this; omega
      have hM := (HM.out.fr0 HF2.out).fr0 hF
      have hlk := hM.look s hsz
      rw [lkV_some (lk_of_mem (x := (s, u, d)) HG.out.st (List.mem_of_getElem? hj0))] at hlk
      have hts := take_snoc hj0
      have hX2 : SV wr w2.heap.size 3 u3 j (flat3 (l.take j)) := by
        have h : SV wr w2.heap.size 3 u3 (l.take j).length (flat3 (l.take j)) := hX
        rwa [hlt] at h
      have HX := Lib.hid hX2
      obtain ⟨xa, xc, hx⟩ := hX2.at_
      subst hx
      clear hX2
      have HT := Lib.hid hts
      have hzr := hF.size
      clear g5 hM hX hts hj0
      go_wp2_with (at_builtin; (refine wpList_append_sv _ rfl (.tmp 14) (.tmp 18) 28 rfl 33 i0 (ndV ByteArray.empty 0 0) 3 32 Try.underlying28 hi0 hz0 hz1 hz2 rfl (by decide) w2.heap.size (.slice xa j xc) j (flat3 (l.take j)) ?_ ?_ ?_ ⟨wr.heap.size, 0, none⟩ 1 1 [.string s, .int .u64 u, .int .u64 d] rfl rfl (cells_of_blk (t := 33) (Blk.new _ _ _)) ?_ ?_ ?_ ?_); (focus rfl); (focus (exact HX.out.al _)); (focus (simp; omega)); (focus (simp [Value.oneCell'])); (focus (unfold maxLen; omega)); (focus omega); intro v4 w4 hS4 hF4)
      have eq1 : flat3 (l.take j) ++ [Value.string s, Value.int .u64 u, Value.int .u64 d] = flat3 (l.take (j + 1)) := by rw [HT.out, flat3_app]; rfl
      rw [eq1] at hS4
      have hl1 : (l.take (j + 1)).length = j + 1 := by simp; omega
      go_roundw
      case rel =>
        refine ⟨j + 1, by omega, by go_num, ?_, own_fr (hF.alloc _) (HX.out.al _) hF4 (Nat.le_refl _)⟩
        show SV _ _ _ _ _ _
        rw [hl1]
        exact hS4
      case measure => simp [intOf]; omega
    · obtain rfl : j = l.length := by omega
      rw [List.take_length] at hX
      have HX := Lib.hid hX
      clear hX
      go_wp2
      go_ret
      exact ⟨_, rfl, HX.out.base_le (by omega), HF2.out.trans hF⟩
end Go.Proofs.Ytanbfejhhnhabaa
