/- OnceGrows: the walk of the law. -/
import Derived.Test.YtbbnafnnbhbbcaaDoorGrow
namespace Go.Proofs.YtbbnafnnbhbbcaaDoor
open Go.RowKit Go.Maps
set_option maxRecDepth 100000
set_option linter.unusedVariables false
set_option linter.unusedSimpArgs false
set_option maxHeartbeats 4000000
theorem grows_ok (ao : Option Addr) (b off len cap : Nat) (sf : Nat → ByteArray) (kf : Nat → Int) (w : World) (hu : Uses w)
    (ha : 0 < len → ao = some ⟨b, off, none⟩) (hb : 0 < len → b < w.heap.size) (hc : ∀ j, j < len → w.cell? ⟨b, off + j * 2, none⟩ = some (.string (sf j)) ∧ w.cell? ⟨b, off + j * 2 + 1, none⟩ = some (.int .u8 (kf j)))
    (hx : ∀ j, j < len → (sf j).size ≤ maxLen) (hl : len * 24 ≤ 140737488351232) :
    Calls Tryd.prog 5 #[.slice ao len cap] w fun e w' => e = .returned (.bool true) ∧ Fr [] w w' := by
  have HU := Lib.hid hu
  have HA := Lib.hid ha
  have HB := Lib.hid hb
  have HC := Lib.hid hc
  have HX := Lib.hid hx
  clear hu ha hb hc hx
  go_enter Tryd.func5, Tryd.ntmps5
  go_wp2_with (first | ((go_at_call 7); (with_reducible refine (lives_any _ HU.out).mono ?_); rintro e w1 ⟨rfl, hF1⟩; have hs1 := hF1.size) | ((go_at_call 16); (with_reducible refine (open_any _).mono ?_); rintro e w2 ⟨br, rfl, hR, hb1, hF2⟩; have hs2 := hF2.size; have hrl := hR.lt) | ((go_at_call 17); (with_reducible refine (rview_rv br w2.heap.size 0 [] _ (RG.fresh hR)).mono ?_); rintro e w3 ⟨bv0, rfl, hV, hF3⟩))
  have hF := ((hF1.trans hF2).mono (by simp)).trans hF3
  replace hF : Fr [] w w3 := hF.weaken (by intro z hz; simp at hz; right; omega)
  have hV0 := hV.vw
  have hR0 := hV.rg
  have hwb : w.heap.size ≤ w2.heap.size := by omega
  have HR0 := Lib.hid hR0
  have HV0 := Lib.hid hV0
  clear hR hV hF1 hF2 hF3 hR0 hV0
  obtain ⟨base, hbase⟩ : ∃ n, n = w2.heap.size := ⟨_, rfl⟩
  rw [← hbase] at HR0 HV0 hwb hrl
  have hbw0 : w.heap.size ≤ br := by omega
  clear hbase hs2 hs1
  go_loopw [4, 5, 24] (fun v4 v5 v wr => ∃ (i : Nat) (l l0 : List (ByteArray × Int)) (bw : Nat), i ≤ len ∧ v = .int .i64 i ∧ v5 = .int .i64 l.length ∧ v4 = .pointer (some ⟨bw, 0, none⟩) ∧ RG wr br base 0 l ∧ VW wr base bw l0 ∧ l0 <+: l ∧ Fr [] w wr) (fun _ _ v _ => len - (intOf v).toNat)
  case atStart => exact ⟨0, [], [], bv0, by omega, rfl, rfl, rfl, HR0.out, HV0.out, List.prefix_refl _, hF⟩
  case round =>
    obtain ⟨i, l, l0, bw, hi, rfl, rfl, rfl, hR, hW, hpre, hFr⟩ := hrel
    by_cases hlt : i < len
    · have ea := HA.out (by omega)
      have hbl := HB.out (by omega)
      have hcc := HC.out i hlt
      have hxx := HX.out i hlt
      obtain ⟨s, hs⟩ : ∃ s, s = sf i := ⟨_, rfl⟩
      obtain ⟨k, hk⟩ : ∃ k, k = kf i := ⟨_, rfl⟩
      rw [← hs, ← hk] at hcc
      rw [← hs] at hxx
      clear hs hk HV0 HR0
      have c0 : wr.cell? ⟨b, off + i * 2, none⟩ = some (.string s) := by rw [World.cell?_of_block (hFr.block b hbl (by simp))]; exact hcc.1
      have c1 : wr.cell? ⟨b, off + i * 2 + 1, none⟩ = some (.int .u8 k) := by rw [World.cell?_of_block (hFr.block b hbl (by simp))]; exact hcc.2
      have hbr : b < wr.heap.size := Nat.lt_of_lt_of_le hbl hFr.size
      subst ea
      clear hcc
      have hrr := hR.lt
      have HR := Lib.hid hR
      have HW := Lib.hid hW
      have hlen := hR.len
      have HP := Lib.hid hpre
      have hhi := hR.hi
      have hlo := hR.lo
      have hFR := Lib.hid hFr
      clear hR hW hpre hFr
      go_upto_region 11 with (first | ((go_at_call 18); (with_reducible refine (ask_any br base l s k _ (HR.out.al _) hxx).mono ?_); rintro e w4 ⟨l', n, f, y, hA, rfl, hR4, hF4⟩; have HA4 := Lib.hid (askF_out hA); clear hA; have hb4 := hF4.blk (Blk.new wr _ _) (by simp; omega); have hb4c := hb4.cell; have hb4l := hb4.lt) | ((go_at_call 17); (with_reducible refine (rview_rv br base 0 l' _ hR4).mono ?_); rintro e w5 ⟨bv, rfl, hV5, hF5⟩; have hb5 := hF5.blk hb4 (by simp; omega); have hb5c := hb5.cell; have hb5l := hb5.lt))
      have HV5 := Lib.hid hV5
      have hz4 := hF4.size
      have hz5 := hF5.size
      have HF45 := Lib.hid (((hFR.out.alloc (.cells #[.string s, .int .u8 k] 64)).mono (by simp)).trans (hF4.trans hF5))
      have hlen5 := hV5.vw.n
      have HW5 := Lib.hid (((HW.out.frb ((Fr.refl [] wr).alloc (.cells #[.string s, .int .u8 k] 64)) (by simp)).frb hF4 (by simp; omega)).frb hF5 (by simp; omega))
      clear hb4 hb4c hb4l hR4 hF4 hF5 hV5
      go_cut [41] (fun v wx => v = .bool f ∧ w5 = wx)
      case first =>
        have hO := HA4.out
        rcases hO with ⟨rfl, rfl, rfl, rfl, _⟩ | ⟨rfl, rfl, rfl, _⟩ | ⟨rfl, hy, rfl⟩
        · go_wp2
          go_meet
          exact ⟨rfl, rfl⟩
        · go_wp2
          go_meet
          exact ⟨rfl, rfl⟩
        · go_wp2
          go_meet
          exact ⟨rfl, rfl⟩
      case rest =>
      obtain ⟨rfl, rfl⟩ := hcut
      go_upto_if 41 with (fail)
      go_cut [5] (fun v wx => v = .int .i64 (l'.length : Int) ∧ w5 = wx)
      case first =>
        have hO := HA4.out
        rcases hO with ⟨rfl, rfl, rfl, rfl, _⟩ | ⟨rfl, rfl, rfl, _⟩ | ⟨rfl, hy, rfl⟩
        · go_wp2
          go_meet
          refine ⟨?_, rfl⟩
          simp
        · go_wp2
          go_meet
          exact ⟨rfl, rfl⟩
        · go_wp2
          go_meet
          exact ⟨rfl, rfl⟩
      case rest =>
        obtain ⟨rfl, rfl⟩ := hcut
        go_upto_region 16 with ((go_at_call 19); (with_reducible refine (find_any bv base l' s _ HV5.out.vw hxx).mono ?_); rintro e w6 ⟨at_, kd, is_, hFd, rfl, hF6⟩; have hb6 := hF6.blk hb5 (by simp); have hb6c := hb6.cell; have hb6l := hb6.lt)
        have HV6 := Lib.hid (HV5.out.fr0 hF6)
        have HW6 := Lib.hid (HW5.out.frb hF6 (by simp))
        have HF6 := Lib.hid (HF45.out.trans (hF6.mono (by simp)))
        have hz6 := hF6.size
        have HFd := Lib.hid hFd
        clear hF6 hFd hb5 hb5c hb5l
        go_cut [86] (fun v wx => v = .bool false ∧ Fr [] w6 wx)
        case first =>
          have hO := HA4.out
          have hFd := HFd.out
          have hll := (HA4.out.pre HP.out).length_le
          have hll2 : decide (l'.length < l0.length) = false := by simp; omega
          rcases hO with ⟨hf, rfl, hn, hl', hk⟩ | ⟨hf, rfl, hl', hk⟩ | ⟨hf, hy, hl'⟩
          · rw [hk] at hFd
            obtain ⟨rfl, rfl, rfl⟩ := by simpa using hFd
            clear hk hFd hn hl' hf
            go_wp2_with (first | ((go_at_call 20); (with_reducible refine (vlen_any bv base l' _ HV6.out.vw).mono ?_); rintro e w7 ⟨rfl, rfl⟩) | ((go_at_call 21); (with_reducible refine (all_any bw base l0 _ HW6.out).mono ?_); rintro e w7 ⟨v7, rfl, hS7, hF7⟩; obtain ⟨a7, c7, hv7⟩ := hS7.at_; subst hv7) | ((go_at_call 21); (with_reducible refine (all_any bv base l' _ (HV6.out.vw.frb hF7 (by simp))).mono ?_); rintro e w8 ⟨v8, rfl, hS8, hF8⟩; obtain ⟨a8, c8, hv8⟩ := hS8.at_; subst hv8))
            go_meet
            exact ⟨rfl, hF7.trans hF8⟩
          · rw [hk] at hFd
            obtain ⟨rfl, rfl, rfl⟩ := by simpa using hFd
            clear hk hFd hl' hf
            go_wp2_with (first | ((go_at_call 20); (with_reducible refine (vlen_any bv base l' _ HV6.out.vw).mono ?_); rintro e w7 ⟨rfl, rfl⟩) | ((go_at_call 21); (with_reducible refine (all_any bw base l0 _ HW6.out).mono ?_); rintro e w7 ⟨v7, rfl, hS7, hF7⟩; obtain ⟨a7, c7, hv7⟩ := hS7.at_; subst hv7) | ((go_at_call 21); (with_reducible refine (all_any bv base l' _ (HV6.out.vw.frb hF7 (by simp))).mono ?_); rintro e w8 ⟨v8, rfl, hS8, hF8⟩; obtain ⟨a8, c8, hv8⟩ := hS8.at_; subst hv8))
            go_meet
            exact ⟨rfl, hF7.trans hF8⟩
          · clear hFd hl' hf
            go_wp2_with (first | ((go_at_call 20); (with_reducible refine (vlen_any bv base l' _ HV6.out.vw).mono ?_); rintro e w7 ⟨rfl, rfl⟩) | ((go_at_call 21); (with_reducible refine (all_any bw base l0 _ HW6.out).mono ?_); rintro e w7 ⟨v7, rfl, hS7, hF7⟩; obtain ⟨a7, c7, hv7⟩ := hS7.at_; subst hv7) | ((go_at_call 21); (with_reducible refine (all_any bv base l' _ (HV6.out.vw.frb hF7 (by simp))).mono ?_); rintro e w8 ⟨v8, rfl, hS8, hF8⟩; obtain ⟨a8, c8, hv8⟩ := hS8.at_; subst hv8))
            go_meet
            exact ⟨rfl, hF7.trans hF8⟩
        case rest =>
          obtain ⟨rfl, hF7⟩ := hcut
          have HW7 := Lib.hid (HW6.out.frb hF7 (by simp))
          have HV7 := Lib.hid (HV6.out.fr0 hF7)
          have HF7 := Lib.hid (HF6.out.trans (hF7.mono (by simp)))
          have hz7 := hF7.size
          clear hF7 hb6 hb6c hb6l
          go_wp2_with ((go_at_call 21); (with_reducible refine (all_any bw base l0 _ HW7.out).mono ?_); rintro e w8 ⟨v8, rfl, hS8, hF8⟩; obtain ⟨a8, c8, hv8⟩ := hS8.at_; subst hv8)
          have HS8 := Lib.hid hS8
          have HV8 := Lib.hid (HV7.out.fr0 hF8)
          have HF8 := Lib.hid (HF7.out.trans (hF8.mono (by simp)))
          have hz8 := hF8.size
          have HW8 := Lib.hid (HW7.out.frb hF8 (by simp))
          have hl0 := (HA4.out.pre HP.out).length_le
          clear hF8 hS8
          go_loopw [90] (fun v wq => ∃ j : Nat, j ≤ l0.length ∧ v = .int .i64 j ∧ Fr [] w8 wq) (fun v _ => l0.length - (intOf v).toNat)
          case atStart => exact ⟨0, by omega, rfl, Fr.refl _ _⟩
          case round =>
            obtain ⟨j, hj, rfl, hFq⟩ := hrel
            by_cases hjl : j < l0.length
            · obtain ⟨⟨sj, kj⟩, hj0⟩ : ∃ a, l0[j]? = some a := ⟨_, List.getElem?_eq_getElem hjl⟩
              have hj1 : l'[j]? = some (sj, kj) := by
                obtain ⟨t, ht⟩ := HA4.out.pre HP.out
                rw [← ht, List.getElem?_append_left hjl]; exact hj0
              have hj1l : j < l'.length := (List.getElem?_eq_some_iff.1 hj1).1
              obtain ⟨g, o, c, he, g1, g2, g3, g4, g5⟩ := (HS8.out.fr0 hFq).cells (by omega)
              simp only [Value.slice.injEq] at he
              obtain ⟨rfl, -, rfl⟩ := he
              have gk0 := g5 (j * 2) _ (flat_get l0 j _ hj0).1
              have gk1 := g5 (j * 2 + 1) _ (flat_get l0 j _ hj0).2
              rw [← Nat.add_assoc] at gk1
              have HJ0 := Lib.hid hj0
              have HJ1 := Lib.hid hj1
              have HVq := Lib.hid (HV8.out.vw.frb hFq (by simp))
              have hb : Blk (wr.alloc (.cells #[.string sj, .int .u8 kj] 64)) wr.heap.size #[.string sj, .int .u8 kj] 64 := Blk.new _ _ _
              have hjI : (j : Int) < (l'.length : Int) := by omega
              clear g5 hj0 hj1
              go_wp2_with fail
              have hbc := hb.cell
              have hbl := hb.lt
              go_region_with ((first | (go_at_call 21; (with_reducible refine (all_any bv base l' _ ?_).mono ?_); (focus (refine VW.frb (S := []) HVq.out ?_ ?_; (focus (repeat' (first | (with_reducible exact Fr.refl _ _) | (with_reducible refine Fr.drew ?_) | (with_reducible refine Fr.drN ?_ _) | (with_reducible refine Fr.alloc ?_ _) | (with_reducible refine Fr.set ?_ ?_ _) | (left; simp; done) | (right; simp; done) | (right; simp; omega)))); (simp))); rintro e w9 ⟨v9, rfl, hS9, hF9⟩; obtain ⟨g9, o9, c9, he9, k1, k2, k3, k4, k5⟩ := hS9.cells (by omega); subst he9; have q0 := k5 (j * 2) _ (flat_get l' j _ HJ1.out).1; have q1 := k5 (j * 2 + 1) _ (flat_get l' j _ HJ1.out).2; rw [← Nat.add_assoc] at q1; clear k5; have hb9 : Blk w9 wr.heap.size #[.string sj, .int .u8 kj] 64 := (by refine hF9.blk ?_ ?_; (focus (repeat' (first | (with_reducible exact hb) | (with_reducible refine Blk.drew ?_) | (with_reducible refine Blk.drN ?_ _) | (with_reducible refine Blk.set ?_ _ _) | (with_reducible refine Blk.other ?_ ?_ _) | (with_reducible refine Blk.alloc ?_ _) | (simp; done) | (simp; omega)))); (focus (simp))); have hb9c := hb9.cell; have hb9l := hb9.lt)))
              all_goals go_wp2
              all_goals go_roundw
              all_goals first
                | (simp [intOf]; omega; done)
                | (refine ⟨j + 1, by omega, by go_num, ?_⟩; refine hFq.trans ?_; (have hF9' : Fr [] wr w9 := (by refine Fr.trans ?_ hF9; (repeat' (first | (with_reducible exact Fr.refl _ _) | (with_reducible refine Fr.drew ?_) | (with_reducible refine Fr.drN ?_ _) | (with_reducible refine Fr.alloc ?_ _) | (with_reducible refine Fr.set ?_ ?_ _) | (left; simp; done) | (right; simp; done) | (right; simp; omega))))); (repeat' (first | (with_reducible exact hF9') | (with_reducible refine Fr.drew ?_) | (with_reducible refine Fr.drN ?_ _) | (with_reducible refine Fr.alloc ?_ _) | (with_reducible refine Fr.set ?_ ?_ _) | (left; simp; done) | (right; simp; done) | (right; simp; omega))); done)
            · obtain rfl : j = l0.length := by omega
              have hFin := (HF8.out.trans (hFq.mono (by simp))).weaken (T := []) (by intro z hz; simp at hz; right; omega)
              by_cases h60 : len < 60
              · go_wp2
                go_roundw
                case rel => exact ⟨i + 1, l', l', bv, by omega, by go_num, rfl, rfl, HV8.out.rg.fr0 hFq, HV8.out.vw.frb hFq (by simp), List.prefix_refl _, hFin⟩
                case measure => simp [intOf]; omega
              · go_wp2
                go_roundw
                case rel => exact ⟨i + 1, l', l0, bw, by omega, by go_num, rfl, rfl, HV8.out.rg.fr0 hFq, HW8.out.frb hFq (by simp), HA4.out.pre HP.out, hFin⟩
                case measure => simp [intOf]; omega
    · obtain rfl : i = len := by omega
      go_wp2
      go_ret
      exact ⟨rfl, hFr⟩
end Go.Proofs.YtbbnafnnbhbbcaaDoor
