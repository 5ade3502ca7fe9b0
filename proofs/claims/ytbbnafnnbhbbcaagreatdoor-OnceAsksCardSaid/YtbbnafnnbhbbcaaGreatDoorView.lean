/- A registry's view: at first an empty one, that is put once. -/
import Derived.Test.YtbbnafnnbhbbcaaGreatDoorSync
namespace Go.Proofs.YtbbnafnnbhbbcaaGreatDoor
open Go.RowKit
set_option maxRecDepth 100000
set_option linter.unusedVariables false
set_option linter.unusedSimpArgs false
set_option maxHeartbeats 4000000
open Go.MuLone in
theorem lock_free' (b o : Nat) (w : World) (h : Cel w b o (.int .i32 0)) :
    Calls Tryz.prog 20 #[.pointer (some ⟨b, o, none⟩)] w fun e w' => e = .returned (.tuple #[]) ∧ w.setCell ⟨b, o, none⟩ (.int .i32 1) = w' :=
  (Go.MuLone.lock_free muLib ⟨b, o, none⟩ w h.c h.f).mono fun e w' h => ⟨h.1, h.2.symm⟩
theorem bool_load (b o : Nat) (n : Int) (w : World) (h : Cel w b o (.int .u32 n)) :
    Calls Tryz.prog 50 #[.pointer (some ⟨b, o, none⟩)] w fun e w' => e = .returned (.bool (n != 0)) ∧ w = w' := by
  have hl := at_load32 h.c
  go_enter Tryz.func50, Tryz.ntmps50
  go_wp2
  go_ret
  exact ⟨rfl, rfl⟩
/-- A registry in memory. -/
structure Reg (w : World) (br : Nat) (m : Value) (d : Int) (p : Value) : Prop where
  ex : ∃ s0 s1, Blk w br #[m, .int .u32 s0, .int .u32 d, .int .i32 0, .int .u32 s1, p] 74
theorem put_view (br pl : Nat) (p : Option Addr) (w : World) (hp : Blk w pl #[.pointer (some ⟨br, 0, none⟩)] 25) (h : Cel w br 5 (.pointer p)) :
    Calls Tryz.prog 35 #[.pointer (some ⟨pl, 0, none⟩)] w fun e w' => e = .returned (.tuple #[]) ∧ (w.setCell ⟨br, 5, none⟩ (.pointer (some ⟨w.heap.size, 0, none⟩))).alloc (.cells #[.slice none 0 0, .map none] 79) = w' := by
  have hc := (hp.cel 0 (v := .pointer (some ⟨br, 0, none⟩)) rfl).c
  have hlt := h.lt
  go_enter Tryz.func35, Tryz.ntmps35
  go_wp2_with ((go_at_call 24); (with_reducible refine (ptr_store br 5 w.heap.size p #[.slice none 0 0, .map none] _ (h.al _) (Blk.new _ _ _) rfl).mono ?_); rintro e w1 ⟨rfl, rfl⟩)
  first | go_end0 | refine bodyPost_ret (results_none rfl _ _ _) rfl ?_
  exact ⟨rfl, rfl⟩
theorem slow_view (br pl : Nat) (m p : Value) (po : Option Addr) (hpo : p = .pointer po) (s0 s1 : Int) (w : World) (hp : Blk w pl #[.pointer (some ⟨br, 0, none⟩)] 25) (h : Blk w br #[m, .int .u32 s0, .int .u32 0, .int .i32 0, .int .u32 s1, p] 74) :
    Calls Tryz.prog 51 #[.pointer (some ⟨br, 2, none⟩), .func (.func 35) #[] #[.pointer (some ⟨pl, 0, none⟩)]] w fun e w' => e = .returned (.tuple #[]) ∧
      Blk w' w.heap.size #[.slice none 0 0, .map none] 79 ∧ Blk w' br #[m, .int .u32 s0, .int .u32 1, .int .i32 0, .int .u32 s1, .pointer (some ⟨w.heap.size, 0, none⟩)] 74 ∧ Fr [br] w w' := by
  subst hpo
  have hne := h.ne hp (by decide)
  have hlt := h.lt
  have hpl := hp.lt
  have h1 := h.set 3 (.int .i32 1)
  have hp1 := hp.other (a := ⟨br, 3, none⟩) (by simpa using hne.symm) (.int .i32 1)
  have hnot : ∀ (x : Bool) (w : World), (Op.unary .not (.bool x)).run Tryz.prog w = .ok (.bool (!x)) w := fun _ _ => rfl
  go_enter_defers Tryz.func51, Tryz.ntmps51
  go_wp2_with (first | ((go_at_call 20); (with_reducible refine (lock_free' br 3 _ (h.cel 3 rfl)).mono ?_); rintro e w1 ⟨rfl, rfl⟩) | ((go_at_call 50); (with_reducible refine (bool_load br 2 0 _ (h1.cel 2 rfl)).mono ?_); rintro e w1 ⟨rfl, rfl⟩) | ((go_at_call 35); (with_reducible refine (put_view br pl po _ hp1 (h1.cel 5 rfl)).mono ?_); rintro e w1 ⟨rfl, rfl⟩))
  have h2 := (h1.set 5 (.pointer (some ⟨w.heap.size, 0, none⟩))).alloc (.cells #[.slice none 0 0, .map none] 79)
  have hv2 : Blk (((w.setCell ⟨br, 3, none⟩ (.int .i32 1)).setCell ⟨br, 5, none⟩ (.pointer (some ⟨w.heap.size, 0, none⟩))).alloc (.cells #[.slice none 0 0, .map none] 79)) w.heap.size #[.slice none 0 0, .map none] 79 := by repeat' (first | ((with_reducible refine Blk.mk0 _ _ _ _ ?_); first | (simp; done) | (simp; omega)) | (with_reducible refine Blk.drew ?_) | (with_reducible refine Blk.drN ?_ _) | (with_reducible refine Blk.set ?_ _ _) | (with_reducible refine Blk.other ?_ ?_ _) | (with_reducible refine Blk.alloc ?_ _) | (simp; done) | (simp; omega))
  have hF2 : Fr [br] w (((w.setCell ⟨br, 3, none⟩ (.int .i32 1)).setCell ⟨br, 5, none⟩ (.pointer (some ⟨w.heap.size, 0, none⟩))).alloc (.cells #[.slice none 0 0, .map none] 79)) := by repeat' (first | (with_reducible exact Fr.refl _ _) | (with_reducible refine Fr.drew ?_) | (with_reducible refine Fr.drN ?_ _) | (with_reducible refine Fr.alloc ?_ _) | (with_reducible refine Fr.set ?_ ?_ _) | (left; simp; done) | (right; simp; done) | (right; simp; omega))
  generalize (((w.setCell ⟨br, 3, none⟩ (.int .i32 1)).setCell ⟨br, 5, none⟩ (.pointer (some ⟨w.heap.size, 0, none⟩))).alloc (.cells #[.slice none 0 0, .map none] 79)) = w2 at h2 hv2 hF2 ⊢
  refine leaves_cons (f := 72) (args := #[.pointer (some ⟨br, 2, none⟩), .bool true]) (by simp) (by simp [go_sem]) ?_
  refine (store_deferred ⟨br, 2, none⟩ (.int .u32 0) .returning _ ?_ ?_).mono ?_
  · exact (h2.cel 2 rfl).c
  · exact (h2.cel 2 rfl).f
  rintro e u' w'' ⟨rfl, rfl, rfl⟩
  have h3 := h2.drew.set 2 (.int .u32 1)
  refine leaves_cons (f := 21) (args := #[.pointer (some ⟨br, 3, none⟩)]) (by simp [settle]) (by simp [go_sem]) ?_
  refine (Go.MuLone.unlock_deferred muLib ⟨br, 3, none⟩ _ _ ?_ ?_).mono ?_
  · exact (h3.cel 3 rfl).c
  · exact (h3.cel 3 rfl).f
  rintro e u' w'' ⟨rfl, rfl, rfl⟩
  have h4 := h3.set 3 (.int .i32 0)
  have hvl : br ≠ w.heap.size := by omega
  simp [Leaves, settle, results, Tryz.results51]
  refine ⟨?_, h4, (hF2.drew.set (.inl (by simp)) _).set (.inl (by simp)) _⟩
  exact (hv2.drew.other (by simpa using hvl.symm) _).other (by simpa using hvl.symm) _
theorem do_first (br pl : Nat) (m p : Value) (po : Option Addr) (hpo : p = .pointer po) (s0 s1 : Int) (w : World) (hp : Blk w pl #[.pointer (some ⟨br, 0, none⟩)] 25) (h : Blk w br #[m, .int .u32 s0, .int .u32 0, .int .i32 0, .int .u32 s1, p] 74) :
    Calls Tryz.prog 34 #[.pointer (some ⟨br, 2, none⟩), .func (.func 35) #[] #[.pointer (some ⟨pl, 0, none⟩)]] w fun e w' => e = .returned (.tuple #[]) ∧
      Blk w' w.heap.size #[.slice none 0 0, .map none] 79 ∧ Blk w' br #[m, .int .u32 s0, .int .u32 1, .int .i32 0, .int .u32 s1, .pointer (some ⟨w.heap.size, 0, none⟩)] 74 ∧ Fr [br] w w' := by
  have hnot : ∀ (x : Bool) (w : World), (Op.unary .not (.bool x)).run Tryz.prog w = .ok (.bool (!x)) w := fun _ _ => rfl
  go_enter Tryz.func34, Tryz.ntmps34
  go_wp2_with (first | ((go_at_call 50); (with_reducible refine (bool_load br 2 0 _ (h.cel 2 rfl)).mono ?_); rintro e w1 ⟨rfl, rfl⟩) | ((go_at_call 51); (with_reducible refine (slow_view br pl m p po hpo s0 s1 _ hp h).mono ?_); rintro e w1 ⟨rfl, hv, hr, hF⟩))
  first | go_end0 | refine bodyPost_ret (results_none rfl _ _ _) rfl ?_
  exact ⟨rfl, hv, hr, hF⟩
theorem do_done (br : Nat) (f m p : Value) (s0 s1 : Int) (w : World) (h : Blk w br #[m, .int .u32 s0, .int .u32 1, .int .i32 0, .int .u32 s1, p] 74) :
    Calls Tryz.prog 34 #[.pointer (some ⟨br, 2, none⟩), f] w fun e w' => e = .returned (.tuple #[]) ∧ w = w' := by
  have hnot : ∀ (x : Bool) (w : World), (Op.unary .not (.bool x)).run Tryz.prog w = .ok (.bool (!x)) w := fun _ _ => rfl
  go_enter Tryz.func34, Tryz.ntmps34
  go_wp2_with ((go_at_call 50); (with_reducible refine (bool_load br 2 1 _ (h.cel 2 rfl)).mono ?_); rintro e w1 ⟨rfl, rfl⟩)
  first | go_end0 | refine bodyPost_ret (results_none rfl _ _ _) rfl ?_
  exact ⟨rfl, rfl⟩
theorem view_first (br : Nat) (m : Value) (s0 s1 : Int) (w : World) (h : Blk w br #[m, .int .u32 s0, .int .u32 0, .int .i32 0, .int .u32 s1, .pointer none] 74) :
    Calls Tryz.prog 16 #[.pointer (some ⟨br, 0, none⟩)] w fun e w' => ∃ bv, e = .returned (.pointer (some ⟨bv, 0, none⟩)) ∧ w.heap.size ≤ bv ∧
      Blk w' bv #[.slice none 0 0, .map none] 79 ∧ Blk w' br #[m, .int .u32 s0, .int .u32 1, .int .i32 0, .int .u32 s1, .pointer (some ⟨bv, 0, none⟩)] 74 ∧ Fr [br] w w' := by
  have hlt := h.lt
  go_enter Tryz.func16, Tryz.ntmps16
  go_wp2_with (first | ((go_at_call 34); (with_reducible refine (do_first br w.heap.size m (.pointer none) none rfl s0 s1 _ (Blk.new _ _ _) (h.alloc _)).mono ?_); rintro e w1 ⟨rfl, hv, hr, hF⟩; rw [World.size_alloc] at hv hr; have hb := hF.blk (Blk.new w #[.pointer (some ⟨br, 0, none⟩)] 25) (by simp; omega); have hbc := hb.cell; have hbl := hb.lt) | ((go_at_call 36); (with_reducible refine (ptr_load br 5 (w.heap.size + 1) _ _ (hr.cel 5 rfl) hv rfl).mono ?_); rintro e w2 ⟨rfl, rfl⟩))
  go_ret
  refine ⟨_, rfl, by omega, hv, hr, ?_⟩
  exact (((Fr.refl [br] w).alloc _).trans hF)
theorem view_again (br bv : Nat) (m : Value) (cs : Array Value) (hcs : cs.size = 2) (s0 s1 : Int) (w : World) (h : Blk w br #[m, .int .u32 s0, .int .u32 1, .int .i32 0, .int .u32 s1, .pointer (some ⟨bv, 0, none⟩)] 74) (hv : Blk w bv cs 79) :
    Calls Tryz.prog 16 #[.pointer (some ⟨br, 0, none⟩)] w fun e w' => e = .returned (.pointer (some ⟨bv, 0, none⟩)) ∧ w.alloc (.cells #[.pointer (some ⟨br, 0, none⟩)] 25) = w' := by
  have hlt := h.lt
  go_enter Tryz.func16, Tryz.ntmps16
  go_wp2_with (first | ((go_at_call 34); (with_reducible refine (do_done br _ m _ s0 s1 _ (h.alloc _)).mono ?_); rintro e w1 ⟨rfl, rfl⟩) | ((go_at_call 36); (with_reducible refine (ptr_load br 5 bv cs _ ((h.alloc _).cel 5 rfl) (hv.alloc _) hcs).mono ?_); rintro e w2 ⟨rfl, rfl⟩))
  go_ret
  exact ⟨rfl, rfl⟩
end Go.Proofs.YtbbnafnnbhbbcaaGreatDoor
