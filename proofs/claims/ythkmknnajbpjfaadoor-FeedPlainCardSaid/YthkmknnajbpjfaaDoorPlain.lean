/- FeedPlain: the walk. -/
import Derived.Test.YthkmknnajbpjfaaDoorLives
import Derived.Test.YthkmknnajbpjfaaDoorSv
namespace Go.Proofs.YthkmknnajbpjfaaDoor
open Go.RowKit
set_option maxRecDepth 100000
set_option linter.unusedVariables false
set_option linter.unusedSimpArgs false
set_option maxHeartbeats 4000000
theorem infoW : (Tryd.prog.info? 29).map (fun i => (i.zero, i.size, i.bytes)) = some (some (.int .u64 0), 1, 8) := by kernel_rfl
def nums (q : List Int) : List Value := q.map (Value.int .u64)
theorem own_fr {w wr w4 : World} {base size : Nat} {v : Value} {n : Nat} {xs : List Value} (h : Fr [] w wr) (hS : SV wr base size v n xs) (k : Fr v.ownBlock.toList wr w4) (hb : w.heap.size ≤ base) : Fr [] w w4 :=
  ((h.mono (by simp)).trans k).weaken (by intro z hz; rw [Option.mem_toList] at hz; have := (hS.own hz).1; right; omega)
theorem QW.own {wr w4 : World} {bf bc bw size z : Nat} {head : Int} {q : List Int} {base : Nat} {v : Value} {n : Nat} {xs : List Value} (h : QW wr bf bc bw z head q) (hS : SV wr base size v n xs) (k : Fr v.ownBlock.toList wr w4) (h0 : bf < base) (h1 : bc < base) (h2 : bw < base) (h3 : 0 < base) : QW w4 bf bc bw z head q := by
  refine h.fr k ?_ ?_ ?_ ?_ <;> (intro hz; rw [Option.mem_toList] at hz; have := (hS.own hz).1; omega)
theorem nums_app (q : List Int) (x : Int) : nums q ++ [Value.int .u64 x] = nums (q ++ [x]) := by simp [nums]
theorem SV.pos {w : World} {base size : Nat} {v : Value} {n : Nat} {xs : List Value} (h : SV w base size v (n + 1) xs) : ∃ g o c, v = .slice (some ⟨g, o, none⟩) (n + 1) c ∧ base ≤ g ∧ g < w.heap.size ∧ n + 1 ≤ c ∧ c ≤ maxLen ∧ (∀ j u, xs[j]? = some u → w.cell? ⟨g, o + j, none⟩ = some u) := by
  rcases h.2 with ⟨_, h2⟩ | ⟨g, o, c, h1, h2, h3, h4, h5, h6, _⟩
  · cases h2
  · exact ⟨g, o, c, h1, h2, h3, h4, h5, h6⟩
theorem SV.at0 {w : World} {base size : Nat} {g o n c : Nat} {x : Value} {xs : List Value} (h : SV w base size (.slice (some ⟨g, o, none⟩) n c) n xs) (hx : xs[0]? = some x) : w.cell? ⟨g, o, none⟩ = some x := by
  rcases h.2 with ⟨h1, h2⟩ | ⟨g, o, c, h1, h2, h3, h4, h5, h6, _⟩
  · cases h1
  · simp at h1
    obtain ⟨⟨rfl, rfl⟩, rfl⟩ := h1
    exact h6 0 x hx
theorem SV.tail {w : World} {base g o n c : Nat} {x : Value} {xs : List Value} (h : SV w base 1 (.slice (some ⟨g, o, none⟩) (n + 1) c) (n + 1) (x :: xs)) : SV w base 1 (.slice (some ⟨g, if c = 1 then o else o + 1, none⟩) n (c - 1)) n xs := by
  obtain ⟨hl, h⟩ := h
  rcases h with ⟨h1, h2⟩ | ⟨g, o, c, h1, h2, h3, h4, h5, h6, h7, h8⟩
  · cases h1
  · simp at h1
    obtain ⟨⟨rfl, rfl⟩, rfl⟩ := h1
    refine ⟨by simp at hl; omega, .inr ⟨_, _, _, rfl, h2, h3, by omega, by omega, ?_, ?_, h8⟩⟩
    · intro j u hj
      split
      · subst_vars
        have : xs.length = 0 := by simp at hl; omega
        rw [List.length_eq_zero_iff.1 this] at hj
        cases hj
      · rw [show o + 1 + j = o + (j + 1) by omega]; exact h6 (j + 1) u hj
    · intro j hj
      split
      · exact h7 j (by omega)
      · rw [show o + 1 + j = o + (j + 1) by omega]; exact h7 (j + 1) (by omega)
theorem plain_bad (size : Int) (v : Value) (w : World) (hu : Uses w) (h : size < 2 ∨ 4096 < size) :
    Calls Tryd.prog 4 #[.int .i64 size, v] w fun e w' => e = .returned (.bool true) ∧ Fr [] w w' := by
  have HU := Lib.hid hu
  have HH := Lib.hid h
  clear hu h
  go_enter Tryd.func4, Tryd.ntmps4
  go_wp2_with (first | ((go_at_call 6); (with_reducible refine (lives_any _ HU.out).mono ?_); rintro e w1 ⟨rfl, hF⟩) | ((go_at_call 7); (with_reducible refine (new_bad size _ HH.out).mono ?_); rintro e w2 ⟨rfl, rfl⟩))
  go_ret
  exact ⟨rfl, hF⟩
theorem plain_ok (size : Nat) (ao : Option Addr) (b off len cap : Nat) (kf xf : Nat → Int) (w : World) (hu : Uses w) (h2 : 2 ≤ size) (h4 : size ≤ 4096)
    (ha : 0 < len → ao = some ⟨b, off, none⟩) (hb : 0 < len → b < w.heap.size) (hc : ∀ j, j < len → w.cell? ⟨b, off + j * 2, none⟩ = some (.int .u8 (kf j)) ∧ w.cell? ⟨b, off + j * 2 + 1, none⟩ = some (.int .u64 (xf j)))
    (hx : ∀ j, j < len → 0 ≤ xf j ∧ xf j < 18446744073709551616) (hl : len * 16 ≤ 140737488351232) :
    Calls Tryd.prog 4 #[.int .i64 size, .slice ao len cap] w fun e w' => e = .returned (.bool true) ∧ Fr [] w w' := by
  have HU := Lib.hid hu
  have HA := Lib.hid ha
  have HB := Lib.hid hb
  have HC := Lib.hid hc
  have HX := Lib.hid hx
  clear hu ha hb hc hx
  go_enter Tryd.func4, Tryd.ntmps4
  go_wp2_with (first | ((go_at_call 6); (with_reducible refine (lives_any _ HU.out).mono ?_); rintro e w1 ⟨rfl, hF⟩) | ((go_at_call 7); (with_reducible refine (new_ok size _ h2 h4 (HU.out.fr hF (by simp))).mono ?_); rintro e w2 ⟨bf, bc, bw, rfl, hQ, hb0, hb1, hb2, hF2⟩))
  have hF3 := hF.trans hF2
  have hs0 := hF.size
  have hQl := hQ.lt
  clear hF hF2
  go_loopw [7, 8, 36] (fun v7 v8 v36 wr => ∃ (i : Nat) (q : List Int) (head : Int), i ≤ len ∧ v36 = .int .i64 i ∧ v8 = .int .u64 head ∧ 0 ≤ head ∧ head ≤ i ∧ SV wr w2.heap.size 1 v7 q.length (nums q) ∧ q.length ≤ size ∧ QW wr bf bc bw size head q ∧ Fr [] w wr ∧ w2.heap.size ≤ wr.heap.size) (fun _ _ v _ => len - (intOf v).toNat)
  case atStart => exact ⟨0, [], 0, by omega, rfl, rfl, by omega, by omega, SV.nil _ _ _, by simp, hQ, hF3, Nat.le_refl _⟩
  case round =>
    obtain ⟨i, q, head, hi, rfl, rfl, hh0, hhi, hS, hq, hQr, hFr, hsz⟩ := hrel
    by_cases hlt : i < len
    · have ea := HA.out (by omega)
      have hbl := HB.out (by omega)
      have hcc := HC.out i hlt
      have hxx := HX.out i hlt
      obtain ⟨k, hk⟩ : ∃ k, k = kf i := ⟨_, rfl⟩
      obtain ⟨x, hxd⟩ : ∃ x, x = xf i := ⟨_, rfl⟩
      rw [← hk, ← hxd] at hcc
      rw [← hxd] at hxx
      clear hk hxd
      have c0 : wr.cell? ⟨b, off + i * 2, none⟩ = some (.int .u8 k) := by rw [World.cell?_of_block (hFr.block b hbl (by simp))]; exact hcc.1
      have c1 : wr.cell? ⟨b, off + i * 2 + 1, none⟩ = some (.int .u64 x) := by rw [World.cell?_of_block (hFr.block b hbl (by simp))]; exact hcc.2
      have hbr : b < wr.heap.size := Nat.lt_of_lt_of_le hbl hFr.size
      subst ea
      clear hcc
      obtain ⟨va, vc, hvv⟩ := hS.at_
      by_cases hk1 : k = 1
      · subst hk1
        have HS := Lib.hid hS
        clear hS
        subst hvv
        have HQ := Lib.hid hQr
        clear hQr
        by_cases hfull : q.length = size
        · have e1 : ((q.length : Int) == (size : Int)) = true := by rw [hfull]; simp
          have HFU := Lib.hid hfull
          clear hfull
          go_wp2_with ((go_at_call 16); (with_reducible refine (put_c_full bf bc bw size head q x hxx _ ?_ HFU.out).mono ?_); (focus (exact HQ.out.al _)); rintro e w3 ⟨rfl, hQ3, hF3⟩)
          go_roundw
          case rel =>
            have hz := hF3.size
            refine ⟨i + 1, q, head, by omega, by go_num, rfl, hh0, by omega, (HS.out.al _).frb hF3 (by simp; omega), hq, hQ3, qfr (bf := bf) (bc := bc) (hFr.alloc _) hF3 (by omega), by simp at hz; omega⟩
          case measure => simp [intOf]; omega
        · have e1 : ((q.length : Int) == (size : Int)) = false := by simp; omega
          have hbd : head + (q.length : Int) ≤ 9223372036854775807 := by omega
          have hbd0 : 0 ≤ head + (q.length : Int) := by omega
          obtain ⟨i0, hi0, hz0, hz1, hz2⟩ := info_parts infoW
          have hroom : q.length < size := by omega
          have HFU := Lib.hid hroom
          have HF2 := Lib.hid hfull
          clear hroom hfull
          go_wp2_with (first | ((go_at_call 16); (with_reducible refine (put_c_ok bf bc bw size head q x hxx _ ?_ HFU.out (by omega)).mono ?_); (focus (exact HQ.out.al _)); rintro e w3 ⟨rfl, hQ3, hF3⟩; have hz3 := hF3.size; have hS3 := Lib.hid ((HS.out.al _).frb hF3 (by simp; omega)); have hFr3 := Lib.hid (qfr (bf := bf) (bc := bc) (hFr.alloc _) hF3 (by omega)); have hB3 : Blk w3 wr.heap.size #[.int .u8 1, .int .u64 x] 39 := (by refine hF3.blk (Blk.new _ _ _) ?_; (simp; omega)); have zb1 := hB3.cell; have zb2 := hB3.lt) | (at_builtin; (refine wpList_append_sv _ rfl _ _ 30 rfl 29 i0 (.int .u64 0) 1 8 Tryd.underlying30 hi0 hz0 hz1 hz2 rfl (by decide) w2.heap.size _ q.length (nums q) rfl (hS3.out.al _) ?_ ⟨w3.heap.size, 0, none⟩ 1 1 [.int .u64 x] rfl rfl (cell_one_new _ _ _) ?_ ?_ ?_ ?_); (focus (simp at hz3 ⊢; omega)); (focus (simp [Value.oneCell'])); (focus (unfold maxLen; omega)); (focus omega); intro v4 w4 hS4 hF4; obtain ⟨va4, vc4, hv4⟩ := hS4.at_; have hS5 := Lib.hid hS4; clear hS4; subst hv4) | ((go_at_call 18); (with_reducible refine (len_c bf bc bw size head (q ++ [x]) _ ?_).mono ?_); (focus (exact QW.own (hQ3.al _) (hS3.out.al _) hF4 (by omega) (by omega) (by omega) (by omega))); rintro e w5 ⟨rfl, hQ5, hF5⟩))
          have hFr4 : Fr [] w w4 := own_fr (hFr3.out.alloc _) (hS3.out.al _) hF4 (by omega)
          have hz4 := hF4.size
          have hz5 := hF5.size
          have hS6 := hS5.out.frb hF5 (by simp; omega)
          rw [nums_app, show q.length + 1 = (q ++ [x]).length by simp] at hS6
          have hR := qfr (bf := bf) (bc := bc) hFr4 hF5 (by omega)
          clear hF4 hFr4 HS hS3 hS5 HQ hFr3 HA HB HC HX HU
          go_roundw
          case rel =>
            refine ⟨i + 1, q ++ [x], head, by omega, by go_num, rfl, hh0, by omega, ?_, ?_, hQ5, hR, ?_⟩
            · simpa using hS6
            · have := HFU.out; simp; omega
            · simp at hz4 hz3; omega
          case measure => simp [intOf]; omega
      · by_cases hk2 : k = 2
        · subst hk2
          have HS := Lib.hid hS
          clear hS
          subst hvv
          have HQ := Lib.hid hQr
          clear hQr
          rcases q with _ | ⟨y, q⟩
          · go_wp2_with (first | ((go_at_call 17); (with_reducible refine (take_c_none bf bc bw size head [] _ ?_ rfl).mono ?_); (focus (exact HQ.out.al _)); rintro e w3 ⟨rfl, hQ3, hF3⟩; have hz3 := hF3.size))
            go_roundw
            case rel => exact ⟨i + 1, [], head, by omega, by go_num, rfl, hh0, by omega, ((HS.out.al _).frb hF3 (by simp; omega)).al _, hq, hQ3.al _, (qfr (bf := bf) (bc := bc) (hFr.alloc _) hF3 (by omega)).alloc _, by simp at hz3 ⊢; omega⟩
            case measure => simp [intOf]; omega
          · obtain ⟨g, o, c, hve, hg0, hg1, hgc, hgm, hgy⟩ := HS.out.pos
            simp only [Value.slice.injEq] at hve
            obtain ⟨rfl, -, rfl⟩ := hve
            have hgy0 := hgy 0 (.int .u64 y) rfl
            rw [Nat.add_zero] at hgy0
            clear hgy
            go_wp2_with (first | ((go_at_call 17); (with_reducible refine (take_c_ok bf bc bw size head (y :: q) _ ?_ y rfl (by simp) (by omega)).mono ?_); (focus (exact HQ.out.al _)); rintro e w3 ⟨rfl, hQ3, hF3⟩; have hz3 := hF3.size; have hg3 : g < w3.heap.size := (by simp at hz3; omega); have hS3 := Lib.hid ((HS.out.al _).frb hF3 (by simp; omega)); have zg := hS3.out.at0 rfl))
            have hq0 : (0 : Int) < (q.length : Int) + 1 := by omega
            have hqb : (q.length : Int) ≤ 4096 := by simp at hq; omega
            have hqs : q.length ≤ size := by simp at hq; omega
            have hST := hS3.out.tail
            have hR0 := Lib.hid (qfr (bf := bf) (bc := bc) (hFr.alloc _) hF3 (by omega))
            clear HS hS3 HQ HA HB HC HX HU
            by_cases hv1 : vc = 1
            · subst hv1
              rw [if_pos rfl] at hST
              have hq00 : q.length = 0 := by have := hgc; omega
              replace hST : SV w3 w2.heap.size 1 (Value.slice (some ⟨g, o, none⟩) 0 0) q.length (nums q) := by simpa [hq00, nums] using hST
              have HST := Lib.hid hST
              clear hST
              go_quiet (fail)
              go_wp2_with ((go_at_call 18); (with_reducible refine (len_c bf bc bw size (head + 1) q _ ?_).mono ?_); (focus (exact (hQ3.al _).fr0 ((Fr.refl _ _).drN _))); rintro e w5 ⟨rfl, hQ5, hF5⟩; have hz5 := hF5.size)
              go_roundw
              case rel =>
                exact ⟨i + 1, q, head + 1, by omega, by go_num, rfl, by omega, by omega, ((HST.out.al _).fr0 ((Fr.refl _ _).drN _)).frb hF5 (by simp; omega), hqs, hQ5, qfr (bf := bf) (bc := bc) ((hR0.out.alloc _).drN _) hF5 (by omega), by simp at hz3 hz5 ⊢; omega⟩
              case measure => simp [intOf]; omega
            · rw [if_neg hv1] at hST
              have HST := Lib.hid hST
              clear hST
              go_quiet (fail)
              go_wp2_with ((go_at_call 18); (with_reducible refine (len_c bf bc bw size (head + 1) q _ ?_).mono ?_); (focus (exact (hQ3.al _).fr0 ((Fr.refl _ _).drN _))); rintro e w5 ⟨rfl, hQ5, hF5⟩; have hz5 := hF5.size)
              go_roundw
              case rel =>
                exact ⟨i + 1, q, head + 1, by omega, by go_num, rfl, by omega, by omega, ((HST.out.al _).fr0 ((Fr.refl _ _).drN _)).frb hF5 (by simp; omega), hqs, hQ5, qfr (bf := bf) (bc := bc) ((hR0.out.alloc _).drN _) hF5 (by omega), by simp at hz3 hz5 ⊢; omega⟩
              case measure => simp [intOf]; omega
        · have HS := Lib.hid hS
          clear hS
          subst hvv
          have HQ := Lib.hid hQr
          clear hQr
          go_wp2_with ((go_at_call 18); (with_reducible refine (len_c bf bc bw size head q _ ?_).mono ?_); (focus (exact HQ.out.al _)); rintro e w3 ⟨rfl, hQ3, hF3⟩; have hz3 := hF3.size)
          go_roundw
          case rel => exact ⟨i + 1, q, head, by omega, by go_num, rfl, hh0, by omega, (HS.out.al _).frb hF3 (by simp; omega), hq, hQ3, qfr (bf := bf) (bc := bc) (hFr.alloc _) hF3 (by omega), by simp at hz3; omega⟩
          case measure => simp [intOf]; omega
    · obtain rfl : i = len := by omega
      go_wp2
      go_ret
      exact ⟨rfl, hFr⟩
end Go.Proofs.YthkmknnajbpjfaaDoor
