/- The package delta: writes into one's own slice; the reference's Counts, Changes: copies. -/
import Derived.Test.YtmilnhicmeblhaaWt
namespace Go.Proofs.Ytmilnhicmeblhaa
open Go.RowKit Go.Maps Go.Sort
set_option maxRecDepth 100000
set_option linter.unusedVariables false
set_option linter.unusedSimpArgs false
set_option maxHeartbeats 8000000
theorem SV.setCells {w : World} {base size g o n c : Nat} {xs : List Value} (h : SV w base size (.slice (some ⟨g, o, none⟩) n c) n xs) (k : Nat) (news : List Value) (hk : k + news.length ≤ n * size) :
    SV (w.setCells g (o + k) news) base size (.slice (some ⟨g, o, none⟩) n c) n (xs.take k ++ news ++ xs.drop (k + news.length)) := by
  obtain ⟨hlen, h2⟩ := h
  have hl2 : (xs.take k ++ news ++ xs.drop (k + news.length)).length = n * size := by simp; omega
  refine ⟨hl2, ?_⟩
  rcases h2 with ⟨h3, _⟩ | ⟨g', o', c', he, k1, k2, k3, k4, k5, k6, k7⟩
  · cases h3
  · simp only [Value.slice.injEq, Option.some.injEq, Addr.mk.injEq] at he
    obtain ⟨⟨rfl, rfl, -⟩, -, rfl⟩ := he
    have hcs : n * size ≤ c * size := Nat.mul_le_mul_right _ k3
    have hsome : ∀ j, j < news.length → (w.cell? ⟨g, o + k + j, none⟩).isSome = true := fun j hj => by
      rw [show o + k + j = o + (k + j) by omega]; exact k6 _ (by omega)
    refine .inr ⟨g, o, c, rfl, k1, Nat.lt_of_lt_of_le k2 (Fr.setCells g news (o + k) w).size, k3, k4, ?_, ?_, fun j => by rw [World.frozen?_setCells]; exact k7 j⟩
    · intro j u hj
      by_cases hin : k ≤ j ∧ j < k + news.length
      · have := World.cell?_setCells_in g news (o + k) w hsome (j - k) (by omega)
        rw [show o + k + (j - k) = o + j by omega] at this
        rw [this]
        rw [List.append_assoc, List.getElem?_append_right (by simp; omega), List.getElem?_append_left (by simp; omega)] at hj
        simp only [List.length_take] at hj
        rw [show j - min k xs.length = j - k by omega] at hj
        have h9 := (List.getElem?_eq_some_iff.1 hj).2
        rw [h9]
      · rw [World.cell?_setCells_out _ _ _ _ _ (by intro _ _; show o + j < o + k ∨ o + k + news.length ≤ o + j; omega)]
        refine k5 j u ?_
        by_cases hjk : j < k
        · rw [List.append_assoc, List.getElem?_append_left (by simp; omega), List.getElem?_take, if_pos hjk] at hj
          exact hj
        · rw [List.getElem?_append_right (by simp; omega)] at hj
          simp only [List.length_append, List.length_take, List.getElem?_drop] at hj
          rw [show k + news.length + (j - (min k xs.length + news.length)) = j by omega] at hj
          exact hj
    · intro j hj
      by_cases hin : k ≤ j ∧ j < k + news.length
      · have := World.cell?_setCells_in g news (o + k) w hsome (j - k) (by omega)
        rw [show o + k + (j - k) = o + j by omega] at this
        rw [this]; rfl
      · rw [World.cell?_setCells_out _ _ _ _ _ (by intro _ _; show o + j < o + k ∨ o + k + news.length ≤ o + j; omega)]
        exact k6 j hj
theorem copyC_any (v : Value) (l : List Ct) (w : World) (h : RC w v l) (hl : l.length * 24 ≤ 140737488355328) :
    Calls Try.prog 27 #[v] w fun e w' => ∃ v', e = .returned v' ∧ SV w' w.heap.size 2 v' l.length (flat2 l) ∧ Fr [] w w' := by
  obtain ⟨la, lc, el⟩ := h.at_
  subst el
  have HL := Lib.hid h
  clear h
  obtain ⟨i0, hi0, hz0, hz1, hz2⟩ := info_parts infoC
  go_enter Try.func27, Try.ntmps27
  go_wp2
  go_loopw [3, 4] (fun vo u wr => ∃ j : Nat, j ≤ l.length ∧ u = .int .i64 j ∧ Hid (SV wr w.heap.size 2 vo j (flat2 (l.take j))) ∧ Hid (Fr [] w wr)) (fun _ u _ => l.length - (intOf u).toNat)
  case atStart => exact ⟨0, by omega, rfl, Lib.hid (SV.nil _ _ _), Lib.hid (Fr.refl _ _)⟩
  case round =>
    obtain ⟨j, hj, rfl, HS, HF⟩ := hrel
    obtain ⟨va, vc, ev⟩ := HS.out.at_
    subst ev
    have hsz := HF.out.size
    by_cases hjl : j < l.length
    · obtain ⟨⟨s, n⟩, hj0⟩ : ∃ a, l[j]? = some a := ⟨_, List.getElem?_eq_getElem hjl⟩
      obtain ⟨g, o, cc, he, g1, g2, g3, g4⟩ := (HL.out.fr0 HF.out).cells (by omega)
      simp only [Value.slice.injEq] at he
      obtain ⟨rfl, -, rfl⟩ := he
      obtain ⟨f0, f1⟩ := flat2_get l j _ hj0
      have k0 := g4 (j * 2) _ f0
      have k1 := g4 (j * 2 + 1) _ f1
      rw [← Nat.add_assoc] at k1
      simp only at k0 k1
      have htk : flat2 (l.take (j + 1)) = flat2 (l.take j) ++ [.string s, .int .u64 n] := by rw [List.take_add_one, hj0]; simp [flat2]
      have HTK := Lib.hid htk
      have hll : (l.take j).length = j := by simp; omega
      have HLL := Lib.hid hll
      clear g4 f0 f1 hj0 htk hll
      go_wp2_with (at_builtin; (refine wpList_append_svo _ rfl (.tmp 11) (.tmp 16) 24 rfl 38 i0 (.agg #[.string ByteArray.empty, .int .u64 0]) 2 24 Try.underlying24 hi0 hz0 hz1 hz2 rfl (by decide) w.heap.size (.slice va j vc) j (flat2 (l.take j)) rfl (HS.out.al _) ?_ ⟨wr.heap.size, 0, none⟩ 1 1 [.string s, .int .u64 n] rfl rfl (cells_of_blk (t := 38) (Blk.new _ _ _)) ?_ ?_ ?_ ?_); (focus (simp at hsz ⊢; omega)); (focus (simp [Value.oneCell'])); (focus (unfold maxLen; omega)); (focus omega); intro v6 w6 hS6 hF6 hO6; have HS6 := Lib.hid hS6; have HF6 := Lib.hid hF6; clear hS6 hF6 hO6)
      go_roundw
      case rel =>
        refine ⟨j + 1, by omega, by go_num, Lib.hid (by rw [HTK.out]; exact HS6.out), Lib.hid ?_⟩
        have F26 : Fr (Value.slice va j vc).ownBlock.toList wr w6 := (((Fr.refl [] wr).alloc _).mono (by simp)).trans HF6.out
        exact ((HF.out.mono (T := (Value.slice va j vc).ownBlock.toList) (by simp)).trans F26).weaken (by intro z hz; simp at hz; right; exact (HS.out.own hz).1)
      case measure => simp [intOf]; omega
    · obtain rfl : j = l.length := by omega
      have hs := HS.out
      rw [List.take_length] at hs
      have HS2 := Lib.hid hs
      clear hs
      go_wp2
      go_ret
      exact ⟨.slice va l.length vc, rfl, HS2.out, HF.out⟩
theorem copyH_any (v : Value) (l : List Ch) (w : World) (h : RH w v l) (hl : l.length * 32 ≤ 140737488355328) :
    Calls Try.prog 31 #[v] w fun e w' => ∃ v', e = .returned v' ∧ SV w' w.heap.size 4 v' l.length (flat4 l) ∧ Fr [] w w' := by
  obtain ⟨la, lc, el⟩ := h.at_
  subst el
  have HL := Lib.hid h
  clear h
  obtain ⟨i0, hi0, hz0, hz1, hz2⟩ := info_parts infoH
  go_enter Try.func31, Try.ntmps31
  go_wp2
  go_loopw [3, 4] (fun vo u wr => ∃ j : Nat, j ≤ l.length ∧ u = .int .i64 j ∧ Hid (SV wr w.heap.size 4 vo j (flat4 (l.take j))) ∧ Hid (Fr [] w wr)) (fun _ u _ => l.length - (intOf u).toNat)
  case atStart => exact ⟨0, by omega, rfl, Lib.hid (SV.nil _ _ _), Lib.hid (Fr.refl _ _)⟩
  case round =>
    obtain ⟨j, hj, rfl, HS, HF⟩ := hrel
    obtain ⟨va, vc, ev⟩ := HS.out.at_
    subst ev
    have hsz := HF.out.size
    by_cases hjl : j < l.length
    · obtain ⟨⟨s, n, r, gn⟩, hj0⟩ : ∃ a, l[j]? = some a := ⟨_, List.getElem?_eq_getElem hjl⟩
      obtain ⟨g, o, cc, he, g1, g2, g3, g4⟩ := (HL.out.fr0 HF.out).cells (by omega)
      simp only [Value.slice.injEq] at he
      obtain ⟨rfl, -, rfl⟩ := he
      obtain ⟨f0, f1, f2, f3⟩ := flat4_get l j _ hj0
      have k0 := g4 (j * 4) _ f0
      have k1 := g4 (j * 4 + 1) _ f1
      have k2 := g4 (j * 4 + 2) _ f2
      have k3 := g4 (j * 4 + 3) _ f3
      rw [← Nat.add_assoc] at k1 k2 k3
      simp only at k0 k1 k2 k3
      have htk : flat4 (l.take (j + 1)) = flat4 (l.take j) ++ [.string s, .int .u64 n, .bool r, .bool gn] := by rw [List.take_add_one, hj0]; simp [flat4]
      have HTK := Lib.hid htk
      have hll : (l.take j).length = j := by simp; omega
      have HLL := Lib.hid hll
      clear g4 f0 f1 f2 f3 hj0 htk hll
      go_wp2_with (at_builtin; (refine wpList_append_svo _ rfl (.tmp 11) (.tmp 16) 26 rfl 34 i0 (.agg #[.string ByteArray.empty, .int .u64 0, .bool false, .bool false]) 4 32 Try.underlying26 hi0 hz0 hz1 hz2 rfl (by decide) w.heap.size (.slice va j vc) j (flat4 (l.take j)) rfl (HS.out.al _) ?_ ⟨wr.heap.size, 0, none⟩ 1 1 [.string s, .int .u64 n, .bool r, .bool gn] rfl rfl (cells_of_blk (t := 34) (Blk.new _ _ _)) ?_ ?_ ?_ ?_); (focus (simp at hsz ⊢; omega)); (focus (simp [Value.oneCell'])); (focus (unfold maxLen; omega)); (focus omega); intro v6 w6 hS6 hF6 hO6; have HS6 := Lib.hid hS6; have HF6 := Lib.hid hF6; clear hS6 hF6 hO6)
      go_roundw
      case rel =>
        refine ⟨j + 1, by omega, by go_num, Lib.hid (by rw [HTK.out]; exact HS6.out), Lib.hid ?_⟩
        have F26 : Fr (Value.slice va j vc).ownBlock.toList wr w6 := (((Fr.refl [] wr).alloc _).mono (by simp)).trans HF6.out
        exact ((HF.out.mono (T := (Value.slice va j vc).ownBlock.toList) (by simp)).trans F26).weaken (by intro z hz; simp at hz; right; exact (HS.out.own hz).1)
      case measure => simp [intOf]; omega
    · obtain rfl : j = l.length := by omega
      have hs := HS.out
      rw [List.take_length] at hs
      have HS2 := Lib.hid hs
      clear hs
      go_wp2
      go_ret
      exact ⟨.slice va l.length vc, rfl, HS2.out, HF.out⟩
end Go.Proofs.Ytmilnhicmeblhaa
