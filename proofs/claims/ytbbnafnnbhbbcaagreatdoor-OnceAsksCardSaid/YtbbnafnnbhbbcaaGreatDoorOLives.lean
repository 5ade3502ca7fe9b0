/- Once: the law's first question: what a small cell and a small registry answer. -/
import Derived.Test.YtbbnafnnbhbbcaaGreatDoorOnc
namespace Go.Proofs.YtbbnafnnbhbbcaaGreatDoor
open Go.RowKit
set_option maxRecDepth 100000
set_option linter.unusedVariables false
set_option linter.unusedSimpArgs false
set_option maxHeartbeats 4000000
theorem step_any (F : Nat) (caps : Array Value) (S : List Nat) (G : World → Prop) (bp bq : Nat) (x : Int) (ans : Int) (own : Bool) (why : Int) (w : World)
    (p : Pn w bp bq x (.func (.func F) #[] caps) false ans own why) (hS : ∀ z, z ∈ S → z < w.heap.size)
    (hE : ∀ (args : Array Value) (W : World), (callFunc F args).run Tryz.prog W = .ok (.enter F args) W)
    (hG : ∀ a b z cs, G a → w.heap.size ≤ z → Blk a z cs 50 → Fr [z] a b → G b)
    (hC : ∀ W, Fr [] w W → Calls Tryz.prog F (#[.pointer (some ⟨bp, 0, none⟩)] ++ caps) W fun e w' => (∃ d1 d2 d3 d4 d5, e = .returned (.agg #[.int .u8 d1, .int .i64 d2, .int .u64 d3, .int .u64 d4, .bool d5])) ∧ G w' ∧ (∃ b, w'.cell? ⟨bp, 4, none⟩ = some (.bool b)) ∧ Fr S W w') :
    Calls Tryz.prog 12 #[.pointer (some ⟨bp, 0, none⟩)] w fun e w' => (∃ v, e = .returned v) ∧ G w' ∧ Fr S w w' := by
  have p5 := p.b.cell
  have p6 := p.b.lt
  have HC := Lib.hid hC
  have HG := Lib.hid hG
  have HS := Lib.hid hS
  clear hC hG hS
  go_enter Tryz.func12, Tryz.ntmps12
  go_wp2_with fail
  go_region_with ((with_reducible refine (HC.out _ ?_).mono ?_); (focus (repeat' (first | (with_reducible exact Fr.refl _ _) | (with_reducible refine Fr.drew ?_) | (with_reducible refine Fr.drN ?_ _) | (with_reducible refine Fr.alloc ?_ _) | (with_reducible refine Fr.set ?_ ?_ _) | (left; simp; done) | (right; simp; done) | (right; simp; omega)))); rintro e w1 ⟨⟨d1, d2, d3, d4, d5, rfl⟩, hg, ⟨b, hb⟩, hF⟩; have hB : Blk w1 w.heap.size #[.int .u8 0, .int .i64 0, .int .u64 0, .int .u64 0, .bool false] 50 := (by refine hF.blk ?_ ?_; (focus (repeat' (first | ((with_reducible refine Blk.mk0 _ _ _ _ ?_); first | (simp; done) | (simp; omega)) | (with_reducible refine Blk.drew ?_) | (with_reducible refine Blk.drN ?_ _) | (with_reducible refine Blk.set ?_ _ _) | (with_reducible refine Blk.other ?_ ?_ _) | (with_reducible refine Blk.alloc ?_ _) | (simp; done) | (simp; omega)))); (intro hm; have := HS.out _ hm; omega)); have zb1 := hB.cell; have zb2 := hB.free; have zb3 := hB.lt; have zb4 := World.block_lt_of_cell? w1 _ hb)
  all_goals go_wp2_with fail
  all_goals first
    | (refine bodyPost_ret (v := .tuple #[.agg #[.int .u8 d1, .int .i64 d2, .int .u64 d3, .int .u64 d4, .bool d5], .bool b]) ?_ rfl ⟨⟨_, rfl⟩, ?_, ?_⟩; (focus (simp [results, Tryz.results12, go_sem, zb1, zb3]; done)))
    | (refine bodyPost_ret (v := .tuple #[.agg #[.int .u8 d1, .int .i64 d2, .int .u64 d3, .int .u64 d4, .bool d5], .bool false]) ?_ rfl ⟨⟨_, rfl⟩, ?_, ?_⟩; (focus (simp [results, Tryz.results12, go_sem, zb1, zb3]; done)))
  all_goals first
    | ((with_reducible show Fr _ _ _); replace hF : Fr S w w1 := (by refine Fr.trans ?_ hF; (repeat' (first | (with_reducible exact Fr.refl _ _) | (with_reducible refine Fr.drew ?_) | (with_reducible refine Fr.drN ?_ _) | (with_reducible refine Fr.alloc ?_ _) | (with_reducible refine Fr.set ?_ ?_ _) | (left; simp; done) | (right; simp; done) | (right; simp; omega)))); (repeat' (first | (with_reducible exact hF) | (with_reducible refine Fr.drew ?_) | (with_reducible refine Fr.drN ?_ _) | (with_reducible refine Fr.alloc ?_ _) | (with_reducible refine Fr.set ?_ ?_ _) | (left; simp; done) | (right; simp; done) | (right; simp; omega))); done)
    | (refine HG.out w1 _ w.heap.size _ hg (Nat.le_refl _) hB ?_; (repeat' (first | (with_reducible exact Fr.refl _ _) | (with_reducible refine Fr.drew ?_) | (with_reducible refine Fr.drN ?_ _) | (with_reducible refine Fr.alloc ?_ _) | (with_reducible refine Fr.set ?_ ?_ _) | (left; simp; done) | (right; simp; done) | (right; simp; omega))); done)
/-- The cell and its operation behind i steps. -/
def St (bq bc bw bp : Nat) (x : Int) (i : Nat) (W : World) : Prop :=
  match i with
  | 0 => Cl W bq bc bw 0 [0, 0] ∧ Pn W bp bq x (.func (.func 32) #[] #[]) false 0 false 0
  | 1 => Cl W bq bc bw 0 [0, 0] ∧ Pn W bp bq x (.func (.func 47) #[] #[]) false 0 false 0
  | 2 => Cl W bq bc bw 0 [1, 0] ∧ Pn W bp bq x (.func (.func 68) #[] #[]) false 0 false 0
  | 3 => Cl W bq bc bw 0 [1, x] ∧ Pn W bp bq x (.func (.func 84) #[] #[]) false 0 false 0
  | _ => Cl W bq bc bw 0 [2, x] ∧ Pn W bp bq x (.func (.func 84) #[] #[]) true x true 0
theorem CP.keep {bq bc bw bp : Nat} {x : Int} {l : List Int} {nx : Value} {dn own : Bool} {ans why : Int} {w : World} (h0 : bq < w.heap.size) (h1 : bc < w.heap.size) (h2 : bw < w.heap.size) (h3 : bp < w.heap.size) (h4 : 0 < w.heap.size) :
    ∀ (a b : World) (z : Nat) (cs : Array Value), (Cl a bq bc bw 0 l ∧ Pn a bp bq x nx dn ans own why) → w.heap.size ≤ z → Blk a z cs 50 → Fr [z] a b → (Cl b bq bc bw 0 l ∧ Pn b bp bq x nx dn ans own why) := by
  rintro a b z cs ⟨hc, hp⟩ hz _ hF
  exact ⟨hc.fr hF (by simp; omega) (by simp; omega) (by simp; omega) (by simp; omega), hp.fr hF (by simp; omega)⟩
theorem step_st (bq bc bw bp : Nat) (x : Int) (i : Nat) (w : World) (h : St bq bc bw bp x i w) (hi : i < 4) :
    Calls Tryz.prog 12 #[.pointer (some ⟨bp, 0, none⟩)] w fun e w' => (∃ v, e = .returned v) ∧ St bq bc bw bp x (i + 1) w' ∧ Fr [bp, bw] w w' := by
  have hc : i = 0 ∨ i = 1 ∨ i = 2 ∨ i = 3 := by omega
  rcases hc with rfl | rfl | rfl | rfl
  · obtain ⟨hc, hp⟩ := h
    have h0 := hc.f.lt
    have h1 := hc.h.c.lt
    have h2 := hc.h.d.lt
    have h3 := hp.b.lt
    have h4 := hc.h.u.lt
    refine step_any 32 #[] [bp, bw] (St bq bc bw bp x 1) bp bq x 0 false 0 w hp (by intro z hz; simp at hz; omega) (fun _ _ => by kernel_rfl) (CP.keep h0 h1 h2 h3 h4) ?_
    intro W hW
    refine (look_none bp bq bc bw 0 0 x _ false 0 false 0 W (hc.fr0 hW) (hp.fr hW (by simp))).mono ?_
    rintro e w' ⟨rfl, hp1, hF⟩
    exact ⟨⟨_, _, _, _, _, rfl⟩, ⟨hc.fr ((hW.mono (by simp)).trans hF) (S := [bp]) (by simpa using hc.f.ne hp.b (by decide)) (by simpa using hc.h.c.ne hp.b (by decide)) (by simpa using hc.h.d.ne hp.b (by decide)) (by have := hp.z; simp; omega), hp1⟩, ⟨_, (hp1.b.cel 4 rfl).c⟩, hF.mono (by simp)⟩
  · obtain ⟨hc, hp⟩ := h
    have h0 := hc.f.lt
    have h1 := hc.h.c.lt
    have h2 := hc.h.d.lt
    have h3 := hp.b.lt
    have h4 := hc.h.u.lt
    refine step_any 47 #[] [bp, bw] (St bq bc bw bp x 2) bp bq x 0 false 0 w hp (by intro z hz; simp at hz; omega) (fun _ _ => by kernel_rfl) (CP.keep h0 h1 h2 h3 h4) ?_
    intro W hW
    refine (begin_hit bp bq bc bw 0 0 x _ false 0 false 0 W (hc.fr0 hW) (hp.fr hW (by simp))).mono ?_
    rintro e w' ⟨rfl, hc1, hp1, hF⟩
    exact ⟨⟨_, _, _, _, _, rfl⟩, ⟨hc1, hp1⟩, ⟨_, (hp1.b.cel 4 rfl).c⟩, hF.mono (by simp)⟩
  · obtain ⟨hc, hp⟩ := h
    have h0 := hc.f.lt
    have h1 := hc.h.c.lt
    have h2 := hc.h.d.lt
    have h3 := hp.b.lt
    have h4 := hc.h.u.lt
    refine step_any 68 #[] [bp, bw] (St bq bc bw bp x 3) bp bq x 0 false 0 w hp (by intro z hz; simp at hz; omega) (fun _ _ => by kernel_rfl) (CP.keep h0 h1 h2 h3 h4) ?_
    intro W hW
    refine (put_any bp bq bc bw 0 1 0 x _ false 0 false 0 W (hc.fr0 hW) (hp.fr hW (by simp))).mono ?_
    rintro e w' ⟨rfl, hc1, hp1, hF⟩
    exact ⟨⟨_, _, _, _, _, rfl⟩, ⟨hc1, hp1⟩, ⟨_, (hp1.b.cel 4 rfl).c⟩, hF.mono (by simp)⟩
  · obtain ⟨hc, hp⟩ := h
    have h0 := hc.f.lt
    have h1 := hc.h.c.lt
    have h2 := hc.h.d.lt
    have h3 := hp.b.lt
    have h4 := hc.h.u.lt
    refine step_any 84 #[] [bp, bw] (St bq bc bw bp x 4) bp bq x 0 false 0 w hp (by intro z hz; simp at hz; omega) (fun _ _ => by kernel_rfl) (CP.keep h0 h1 h2 h3 h4) ?_
    intro W hW
    refine (last_any bp bq bc bw 0 1 x x _ false 0 false 0 W (hc.fr0 hW) (hp.fr hW (by simp))).mono ?_
    rintro e w' ⟨rfl, hc1, hp1, hF⟩
    exact ⟨⟨_, _, _, _, _, rfl⟩, ⟨hc1, hp1⟩, ⟨_, (hp1.b.cel 4 rfl).c⟩, hF.mono (by simp)⟩
/-- The name 'a'. -/
abbrev sa : ByteArray := ⟨#[97]⟩
theorem sa_right2 : rightF sa 2 = 0 := by kernel_rfl
theorem sa_right1 : rightF sa 1 = 0 := by kernel_rfl
theorem sa_place : placeF [(sa, 2)] sa = some 0 := by simp [placeF]
theorem sa_known2 : knownF [(sa, 2)] sa 2 = (0, true, 0) := by unfold knownF; rw [sa_place]; rfl
theorem sa_known1 : knownF [(sa, 2)] sa 1 = (0, true, 132) := by unfold knownF; rw [sa_place]; rfl
theorem St.keep {bq bc bw bp i : Nat} {x : Int} {a b : World} {S : List Nat} (h : St bq bc bw bp x i a) (hF : Fr S a b) (h0 : bq ∉ S) (h1 : bc ∉ S) (h2 : bw ∉ S) (h3 : bp ∉ S) (h4 : 0 ∉ S) : St bq bc bw bp x i b := by
  unfold St at h ⊢
  split at h <;> exact ⟨h.1.fr hF h0 h1 h2 h4, h.2.fr hF h3⟩
theorem St.lts {bq bc bw bp i : Nat} {x : Int} {a : World} (h : St bq bc bw bp x i a) : bq < a.heap.size ∧ bc < a.heap.size ∧ bw < a.heap.size ∧ bp < a.heap.size ∧ 0 < a.heap.size := by
  unfold St at h
  split at h <;> exact ⟨h.1.f.lt, h.1.h.c.lt, h.1.h.d.lt, h.2.b.lt, h.1.h.u.lt⟩
theorem lives_any (w : World) (hu : Uses w) :
    Calls Tryz.prog 4 #[] w fun e w' => e = .returned (.bool true) ∧ Fr [] w w' := by
  have HU := Lib.hid hu
  have hul := hu.lt
  clear hu
  go_enter Tryz.func4, Tryz.ntmps4
  go_wp2_with (first | ((go_at_call 10); (with_reducible refine (cell_new _ HU.out).mono ?_); rintro e w1 ⟨bq, bc, bw, rfl, hC, hl1, hl2, hl3, hF1⟩; have hs1 := hF1.size) | ((go_at_call 5); (with_reducible refine (open_any _).mono ?_); rintro e w2 ⟨br, rfl, hR, hb1, hF2⟩; have hs2 := hF2.size; have hrl := hR.lt) | ((go_at_call 11); (with_reducible refine (start_make bq 5 _ ?_).mono ?_); (focus omega); rintro e w3 ⟨bp, rfl, hP, hp1, hF3⟩; have hs3 := hF3.size))
  have hC3 := Lib.hid ((hC.fr0 hF2).fr0 hF3)
  have hR3 := Lib.hid (hF3.blk hR (by simp))
  have hq1 := (hC.f.lt)
  have hq2 := (hC.h.c.lt)
  have hq3 := (hC.h.d.lt)
  have hq4 := hP.b.lt
  have hF03 := Lib.hid ((hF1.trans hF2).trans hF3)
  have hS0 : St bq bc bw bp 5 0 w3 := ⟨hC3.out, hP⟩
  clear hC hR hP hF1 hF2 hF3
  go_loopw [5] (fun v wr => ∃ i : Nat, i ≤ 4 ∧ v = .int .i64 i ∧ St bq bc bw bp 5 i wr ∧ Blk wr br #[.int .i32 0, .int .u32 0, .int .u32 0, .int .i32 0, .int .u32 0, .pointer none] 74 ∧ Fr [] w wr) (fun v _ => 4 - (intOf v).toNat)
  case atStart => exact ⟨0, by omega, rfl, hS0, hR3.out, hF03.out⟩
  case round =>
    obtain ⟨i, hi, rfl, hS, hR, hF⟩ := hrel
    by_cases hlt : i < 4
    · have HS := Lib.hid hS
      have HR := Lib.hid hR
      clear hS hR hS0
      go_wp2_with ((go_at_call 12); (with_reducible refine (step_st bq bc bw bp 5 i _ HS.out hlt).mono ?_); rintro e w4 ⟨⟨v, rfl⟩, hS4, hF4⟩)
      go_roundw
      case rel => exact ⟨i + 1, by omega, by go_num, hS4, hF4.blk HR.out (by simp; omega), ((hF.mono (by simp)).trans hF4).weaken (by intro z hz; simp at hz; right; omega)⟩
      case measure => simp [intOf]; omega
    · obtain rfl : i = 4 := by omega
      have hQ := hS.lts
      have hsr := hF.size
      have hbr := hR.lt
      have HS := Lib.hid hS
      have HR := Lib.hid (RG.fresh hR)
      have HF := Lib.hid hF
      obtain ⟨hC4, hP4⟩ : Cl wr bq bc bw 0 [2, 5] ∧ Pn wr bp bq 5 (.func (.func 84) #[] #[]) true 5 true 0 := hS
      have HC4 := Lib.hid hC4
      have HP4 := Lib.hid hP4
      clear hR hS0 hC4 hP4 hF
      go_wp2_with (first | ((go_at_call 13); (with_reducible refine (answer_any bp bq 5 _ true 5 true 0 _ HP4.out).mono ?_); rintro e w5 ⟨rfl, hF5⟩) | ((go_at_call 14); (with_reducible refine (peek_made bq bc bw 0 5 _ (HC4.out.fr0 hF5)).mono ?_); rintro e w6 ⟨rfl, rfl⟩))
      have h6 := Lib.hid (HR.out.fr0 hF5)
      have hs6 := hF5.size
      have HF5 := Lib.hid hF5
      clear hF5
      go_at_call 8
      refine (ask_new br wr.heap.size [] sa 2 _ h6.out sa_right2 (by unfold maxLen; simp; decide) rfl (by simp)).mono ?_
      rintro e w7 ⟨rfl, hR7, hF7⟩
      go_wp2_with fail
      go_at_call 8
      refine (ask_known br wr.heap.size [(sa, 2)] sa 1 0 132 _ hR7 sa_right1 (by unfold maxLen; simp; decide) sa_known1).mono ?_
      rintro e w8 ⟨rfl, hR8, hF8⟩
      go_wp2_with fail
      go_at_call 8
      refine (ask_known br wr.heap.size [(sa, 2)] sa 2 0 0 _ hR8 sa_right2 (by unfold maxLen; simp; decide) sa_known2).mono ?_
      rintro e w9 ⟨rfl, hR9, hF9⟩
      have hF79 := (hF7.trans hF8).trans hF9
      have hP9 := (HP4.out.fr HF5.out (by simp)).fr hF79 (by simp; omega)
      have hFin : Fr [] w w9 := ((((HF.out.trans HF5.out).mono (by simp)).trans hF79)).weaken (by intro z hz; simp at hz; right; omega)
      clear hF7 hF8 hF9 hR7 hR8 hR9 hF79
      go_wp2_with ((go_at_call 15); (with_reducible refine (done_any bp bq 5 _ true 5 true 0 _ hP9).mono ?_); rintro e w10 ⟨rfl, rfl⟩)
      go_ret
      exact ⟨rfl, hFin⟩
end Go.Proofs.YtbbnafnnbhbbcaaGreatDoor
