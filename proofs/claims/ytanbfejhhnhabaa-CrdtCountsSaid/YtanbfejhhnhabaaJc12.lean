/- Arguments that are slices, also slices in slices: what a law's walk may know of them. -/
import Derived.Test.YtanbfejhhnhabaaJc10
import Derived.Test.YtanbfejhhnhabaaJc11
import Derived.Test.YtanbfejhhnhabaaJc1
import Derived.WalkKit
import Derived.ProofKit
import Derived.OpenShut
import Derived.ChangeOld
import Derived.Below
import Derived.SizedLaws
import Derived.Deep.SlicePairs
/- The law CrdtCounts: what a round holds in memory. -/
namespace Go.Proofs.Ytanbfejhhnhabaa
open Go.RowKit Go.Maps Go.Sort
set_option maxRecDepth 100000
set_option linter.unusedVariables false
set_option linter.unusedSimpArgs false
/-- The counter, the reference's counter, the state that was. -/
structure CS (W w : World) (bc b nb : Nat) (nm : ByteArray) (S T U : List Nd) (bv vw : Value) : Prop where
  ct : CT w bc b 0 nm S
  bk : Blk w nb #[.string nm, bv] 35
  sn : SN w W.heap.size bv T
  su : SN w W.heap.size vw U
  f : Fr [] W w
  h1 : W.heap.size ≤ bc
  h2 : W.heap.size ≤ b
  h3 : W.heap.size ≤ nb
  o : ∀ g, bv.ownBlock = some g → g ≠ bc ∧ g ≠ b ∧ g ≠ nb
  u : ∀ g, vw.ownBlock = some g → g ≠ bc ∧ g ≠ b ∧ g ≠ nb ∧ bv.ownBlock ≠ some g
variable {W w w' : World} {bc b nb : Nat} {nm : ByteArray} {S T U : List Nd} {bv vw : Value}
theorem CS.nc (h : CS W w bc b nb nm S T U bv vw) : nb ≠ bc := h.bk.ne h.ct.blk (by decide)
theorem CS.nm_ (h : CS W w bc b nb nm S T U bv vw) : nb ≠ b := h.ct.nm_.neBlk h.bk
theorem CS.fr (h : CS W w bc b nb nm S T U bv vw) {X : List Nat} (F : Fr X w w') (x1 : bc ∉ X) (x2 : b ∉ X) (x3 : nb ∉ X) (x4 : ∀ g, bv.ownBlock = some g → g ∉ X) (x5 : ∀ g, vw.ownBlock = some g → g ∉ X) (x6 : ∀ g, g ∈ X → W.heap.size ≤ g) :
    CS W w' bc b nb nm S T U bv vw :=
  ⟨h.ct.fr F x1 x2, F.blk h.bk x3, h.sn.fr F x4, h.su.fr F x5, ((h.f.mono (by simp)).trans F).weaken (fun k hk => .inr (x6 k hk)), h.h1, h.h2, h.h3, h.o, h.u⟩
theorem CS.fr0 (h : CS W w bc b nb nm S T U bv vw) (F : Fr [] w w') : CS W w' bc b nb nm S T U bv vw := h.fr F (by simp) (by simp) (by simp) (by simp) (by simp) (by simp)
theorem CS.upd (h : CS W w bc b nb nm S T U bv vw) {b' : Nat} {S' : List Nd} (C : CT w' bc b' 0 nm S') (F : Fr [bc, b] w w') (hb : b' = b ∨ w.heap.size ≤ b') : CS W w' bc b' nb nm S' T U bv vw := by
  have e1 := h.nc
  have e2 := h.nm_
  refine ⟨C, F.blk h.bk (by simp; exact ⟨e1, e2⟩), h.sn.fr F (fun g hg => ?_), h.su.fr F (fun g hg => ?_), ((h.f.mono (by simp)).trans F).weaken (fun k hk => ?_), h.h1, ?_, h.h3, fun g hg => ?_, fun g hg => ?_⟩
  · have := h.o g hg; simp; omega
  · have := h.u g hg; simp; omega
  · simp at hk; have := h.h1; have := h.h2; right; omega
  · have := h.h2; have := h.f.size; omega
  · have k1 := h.o g hg; have k2 := (h.sn.own hg).2; refine ⟨k1.1, ?_, k1.2.2⟩; omega
  · have := h.u g hg; have := (h.su.own hg).2; refine ⟨by omega, by omega, by omega, (h.u g hg).2.2.2⟩
theorem CS.state (h : CS W w bc b nb nm S T U bv vw) {v : Value} (hS : SN w' w.heap.size v S) (C : CT w' bc b 0 nm S) (F : Fr [bc] w w') : CS W w' bc b nb nm S T S bv v := by
  have h' := h.upd C (F.mono (by simp)) (.inl rfl)
  refine ⟨h'.ct, h'.bk, h'.sn, hS.base_le h.f.size, h'.f, h'.h1, h'.h2, h'.h3, h'.o, fun g hg => ?_⟩
  have k1 := (hS.own hg).1
  have k2 := h.ct.blk.lt
  have k3 := h.ct.nm_.lt
  have k4 := h.bk.lt
  refine ⟨by omega, by omega, by omega, fun e => ?_⟩
  have := (h.sn.own e).2
  omega
theorem CS.book (h : CS W w bc b nb nm S T U bv vw) {bv' : Value} {T' : List Nd} (hv : bv' = bv ∧ T' = T ∨ SN w' w.heap.size bv' T') (F : Fr [] w w') :
    CS W ((w'.setCell ⟨nb, 0, none⟩ (.string nm)).setCell ⟨nb, 1, none⟩ bv') bc b nb nm S T' U bv' vw := by
  have h' := h.fr0 F
  have e1 := h.nc
  have e2 := h.nm_
  have G : Fr [nb] w' ((w'.setCell ⟨nb, 0, none⟩ (.string nm)).setCell ⟨nb, 1, none⟩ bv') := ((Fr.refl _ _).set (.inl (by simp)) _).set (.inl (by simp)) _
  have hb : Blk ((w'.setCell ⟨nb, 0, none⟩ (.string nm)).setCell ⟨nb, 1, none⟩ bv') nb #[.string nm, bv'] 35 := ((h'.bk.set 0 (.string nm)).set 1 bv').cast (by simp)
  have hf := ((h'.f.mono (by simp)).trans G).weaken (T := []) (fun k hk => by simp at hk; have := h.h3; right; omega)
  have hu := h'.su.fr G (fun g hg => by have := h.u g hg; simp; omega)
  have hc := h'.ct.fr G (by simp; omega) (by simp; omega)
  rcases hv with ⟨rfl, rfl⟩ | hS
  · exact ⟨hc, hb, h'.sn.fr G (fun g hg => by have := h.o g hg; simp; omega), hu, hf, h.h1, h.h2, h.h3, h.o, h.u⟩
  · have k2 := h.ct.blk.lt
    have k3 := h.ct.nm_.lt
    have k4 := h.bk.lt
    refine ⟨hc, hb, (hS.fr G (fun g hg => ?_)).base_le h.f.size, hu, hf, h.h1, h.h2, h.h3, fun g hg => ?_, fun g hg => ?_⟩
    · have := (hS.own hg).1; simp; omega
    · have := (hS.own hg).1; omega
    · have k5 := h.u g hg
      refine ⟨k5.1, k5.2.1, k5.2.2.1, fun e => ?_⟩
      have k6 := (hS.own e).1
      have k7 := (h.su.own hg).2
      omega
theorem CS.clear (h : CS W w bc b nb nm S T U bv vw) {g : Nat} {cur : List Nd} (hg : vw.ownBlock = some g) (hS : SN w' W.heap.size vw cur) (F : Fr [g] w w') : CS W w' bc b nb nm S T cur bv vw := by
  have k := h.u g hg
  have hl := (h.su.own hg).1
  have h' := h.fr (U := U) F (by simp; omega) (by simp; omega) (by simp; omega) (fun z hz => by simp; rintro rfl; exact k.2.2.2 hz)
  refine ⟨h.ct.fr F (by simp; omega) (by simp; omega), F.blk h.bk (by simp; omega), h.sn.fr F (fun z hz => by simp; rintro rfl; exact k.2.2.2 hz), hS, ((h.f.mono (by simp)).trans F).weaken (fun z hz => by simp at hz; right; omega), h.h1, h.h2, h.h3, h.o, h.u⟩
theorem CS.drop (h : CS W w bc b nb nm S T U bv vw) : CS W w bc b nb nm S T [] bv (.slice none 0 0) :=
  ⟨h.ct, h.bk, h.sn, SV.nil _ _ _, h.f, h.h1, h.h2, h.h3, h.o, fun g hg => by simp [Value.ownBlock] at hg⟩
/-- What a step makes of a state. -/
structure Stp (S S' : List Nd) : Prop where
  rt : Rt S'
  len : S'.length ≤ 64
  up : belowF S S' = (true, 0)
theorem Stp.arg {S S' : List Nd} (h : Stp S S') : Arg S' := h.rt.arg h.len
theorem Stp.val {S S' : List Nd} (h : Stp S S') : valueF S' = (valL S', 0) := by unfold valueF; rw [if_pos (h.rt.right h.len)]
theorem stp_count {S : List Nd} (hr : Rt S) (hl : S.length ≤ 64) {nm : ByteArray} (hn : nameF nm = true) {up down : Int} (hu : 0 ≤ up) (hd : 0 ≤ down) : Stp S (countF S nm up down).1 := by
  obtain ⟨h1, h2⟩ := count_grown hr hl hn hu hd
  have h3 := count_len hr.srt hl nm up down
  exact ⟨h1, h3, by rw [belowF_ok hr h1 hl h3, h2]⟩
theorem stp_take {S m : List Nd} (hr : Rt S) (hl : S.length ≤ 64) (hm : Arg m) : Stp S (takeF S m).1 := by
  have hself : S.all (hasL S) = true := (all_le hr hr).2 (fun s => ⟨Int.le_refl _, Int.le_refl _⟩)
  have hsame : Stp S S := ⟨hr, hl, by rw [belowF_ok hr hr hl hl, hself]⟩
  unfold takeF
  split
  · rename_i h0
    unfold mergeF at h0 ⊢
    split
    · rename_i h1
      have hrm := right_rt hm.pos h1.2
      split
      · rename_i h2
        have h3 := merge_rt hr hrm
        exact ⟨h3, h2, by rw [belowF_ok hr h3 hl h2, below_left hr hrm]⟩
      · rename_i h2
        rw [if_pos h1, if_neg h2] at h0
        simp at h0
    · rename_i h1
      rw [if_neg h1] at h0
      simp at h0
  · exact hsame
theorem rvalue_to {v : Value} {l : List Nd} {x y : Int} {w : World} (h : RN w v l) (a : Arg l) (e : valueF l = (x, y)) :
    Calls Try.prog 16 #[v] w fun e w' => e = .returned (.tuple #[.int .i64 x, .int .i64 y]) ∧ Fr [] w w' := by
  have := rvalue_any v l w h a
  rwa [e] at this
theorem rbelow_to {v1 v2 : Value} {l1 l2 : List Nd} {p : Bool} {y : Int} {w : World} (h1 : RN w v1 l1) (h2 : RN w v2 l2) (a1 : Arg l1) (a2 : Arg l2) (e : belowF l1 l2 = (p, y)) :
    Calls Try.prog 17 #[v1, v2] w fun e w' => e = .returned (.tuple #[.bool p, .int .i64 y]) ∧ Fr [] w w' := by
  have := rbelow2_any v1 v2 l1 l2 w h1 h2 a1 a2
  rwa [e] at this
theorem rsame_to {v1 v2 : Value} {l : List Nd} {w : World} (h1 : RN w v1 l) (h2 : RN w v2 l) :
    Calls Try.prog 18 #[v1, v2] w fun e w' => e = .returned (.bool true) ∧ Fr [] w w' :=
  (same_any v1 v2 l l w h1 h2).mono fun e w' ⟨k1, k2⟩ => ⟨by rw [k1]; simp, k2⟩
/-! Moves. -/
structure Mv where
  k : Int
  n : Int
  v : Value
  l : List Nd
def flatM (l : List Mv) : List Value := l.flatMap fun a => [.int .i64 a.k, .int .u64 a.n, a.v]
theorem flatM_len (l : List Mv) : (flatM l).length = l.length * 3 := by
  induction l with
  | nil => rfl
  | cons a r ih => simp only [flatM, List.flatMap_cons, List.length_append, List.length_cons] at ih ⊢; rw [ih]; simp; omega
theorem flatM_get : ∀ (l : List Mv) (i : Nat) (a : Mv) (h : l[i]? = some a), (flatM l)[i * 3]? = some (.int .i64 a.k) ∧ (flatM l)[i * 3 + 1]? = some (.int .u64 a.n) ∧ (flatM l)[i * 3 + 2]? = some a.v
  | [], i, a, h => by simp at h
  | x :: r, 0, a, h => by simp at h; subst h; simp [flatM]
  | x :: r, i + 1, a, h => by
    have := flatM_get r i a (by simpa using h)
    simp only [flatM, List.flatMap_cons] at this ⊢
    rw [show (i + 1) * 3 = (i * 3) + 3 by omega, show i * 3 + 3 + 1 = (i * 3 + 1) + 3 by omega, show i * 3 + 3 + 2 = (i * 3 + 2) + 3 by omega]
    rw [List.getElem?_append_right (by simp), List.getElem?_append_right (by simp), List.getElem?_append_right (by simp)]
    simpa using this
structure MArg (w : World) (l : List Mv) : Prop where
  rn : ∀ a ∈ l, RN w a.v a.l
  arg : ∀ a ∈ l, Arg a.l
  n0 : ∀ a ∈ l, 0 ≤ a.n ∧ a.n < 18446744073709551616
  len : l.length ≤ 9223372036854775806
end Go.Proofs.Ytanbfejhhnhabaa

/- The law CrdtCounts: the walk. -/
namespace Go.Proofs.Ytanbfejhhnhabaa
open Go.RowKit Go.Maps Go.Sort
set_option maxRecDepth 100000
set_option linter.unusedVariables false
set_option linter.unusedSimpArgs false
set_option maxHeartbeats 8000000
theorem counts_bad (nm : ByteArray) (va : Value) (w : World) (hn : nameF nm = false) (hs : nm.size ≤ maxLen) :
    Calls Try.prog 3 #[.string nm, va] w fun e w' => e = .returned (.bool true) ∧ Fr [] w w' := by
  have hm : mergeF [(nm, 1, 0)] [] = ([], 230) := by
    unfold mergeF
    rw [if_neg]
    rintro ⟨h, _⟩
    unfold rightL at h
    simp only [Bool.and_eq_true] at h
    obtain ⟨_, h⟩ := h
    simp only [okL, okN, Bool.and_eq_true, hn] at h
    exact absurd h.1.1.1.1.1 (by simp)
  have ha : Arg [(nm, 1, 0)] := ⟨by simpa using hs, by simp [Pos], by simp⟩
  have ha0 : Arg [] := ⟨by simp, by simp [Pos], by simp⟩
  have HM := Lib.hid hm
  have HA := Lib.hid ha
  have HA0 := Lib.hid ha0
  clear hm ha ha0
  go_enter Try.func3, Try.ntmps3
  go_wp2_with fail
  go_at_call 7
  refine (new_bad nm _ hn).mono ?_
  rintro e w0 ⟨rfl, rfl⟩
  go_wp2_with fail
  go_at_call 8
  refine (lives_any _).mono ?_
  rintro e w1 ⟨rfl, hF1⟩
  go_wp2_with fail
  go_at_call 9
  refine (rmerge_any _ _ [(nm, 1, 0)] [] _ (RN.blk (l := [(nm, 1, 0)]) (t := 33) (Blk.new _ _ _) (by show 1 ≤ maxLen; unfold maxLen; omega)) (RD.nil _ _) HA.out HA0.out).mono ?_
  rintro e w2 ⟨v2, rfl, hS2, hF2⟩
  rw [HM.out] at hS2 ⊢
  go_wp2_with fail
  go_ret
  exact ⟨rfl, (hF1.alloc _).trans hF2⟩
theorem counts_ok (nm : ByteArray) (va : Value) (l : List Mv) (w : World) (hn : nameF nm = true) (hR : RD w 3 va l.length (flatM l)) (hA : MArg w l) :
    Calls Try.prog 3 #[.string nm, va] w fun e w' => e = .returned (.bool true) ∧ Fr [] w w' := by
  have HR := Lib.hid hR
  have HA := Lib.hid hA
  have HN := Lib.hid hn
  have hlen := hA.len
  obtain ⟨la, lc, e⟩ := hR.at_
  subst e
  clear hR hA
  go_enter Try.func3, Try.ntmps3
  go_wp2_with fail
  go_at_call 7
  refine (new_ok nm _ hn).mono ?_
  rintro e w0 ⟨bc, b, rfl, hC, hbc, hb, hF⟩
  clear hn
  go_wp2_with fail
  go_at_call 8
  refine (lives_any _).mono ?_
  rintro e w1 ⟨rfl, hF1⟩
  have hz1 := (hF.trans hF1).size
  have HC : Hid (CS w (w1.alloc (.cells #[.string nm, .slice none 0 0] 35)) bc b w1.heap.size nm [] [] [] (.slice none 0 0) (.slice none 0 0)) := Lib.hid (by
    have hc1 := hC.fr0 hF1
    have k1 := hc1.blk.lt
    have k2 := hc1.nm_.lt
    have G : Fr [] w1 (w1.alloc (.cells #[.string nm, .slice none 0 0] 35)) := (Fr.refl _ _).alloc _
    exact ⟨hc1.fr0 G, Blk.new w1 #[.string nm, .slice none 0 0] 35, SV.nil _ _ _, SV.nil _ _ _, (hF.trans hF1).trans G, hbc, hb, hz1, fun g hg => by simp [Value.ownBlock] at hg, fun g hg => by simp [Value.ownBlock] at hg⟩)
  clear hC hF hF1
  obtain ⟨nb, hnb⟩ : ∃ nb, nb = w1.heap.size := ⟨_, rfl⟩
  go_wp2_with fail
  go_loopw [53] (fun u wr => ∃ j : Nat, j ≤ l.length ∧ u = .int .i64 j ∧ ∃ (S : List Nd) (b : Nat) (bv : Value), Hid (CS w wr bc b w1.heap.size nm S S [] bv (.slice none 0 0)) ∧ Hid (Rt S ∧ S.length ≤ 64)) (fun u _ => l.length - (intOf u).toNat)
  case atStart => exact ⟨0, by omega, rfl, [], b, _, HC, Lib.hid ⟨⟨Srt.nil, by simp⟩, by simp⟩⟩
  case round =>
    clear HC
    obtain ⟨j, hj, rfl, S, b, bv, HC, HS⟩ := hrel
    by_cases hjl : j < l.length
    · obtain ⟨x, hj0⟩ : ∃ a, l[j]? = some a := ⟨_, List.getElem?_eq_getElem hjl⟩
      have hmem := List.mem_of_getElem? hj0
      have HRx := Lib.hid (HA.out.rn x hmem)
      have HAx := Lib.hid (HA.out.arg x hmem)
      obtain ⟨hn0, hn1⟩ := HA.out.n0 x hmem
      obtain ⟨k, n, v, m⟩ := x
      obtain ⟨pa, pc, e⟩ := HRx.out.at_
      simp only at e HRx HAx hn0 hn1
      subst e
      obtain ⟨g, o, c', he, g1, g2, g3, g4⟩ := (HR.out.fr0 HC.out.f).cells (by omega)
      simp only [Value.slice.injEq] at he
      obtain ⟨rfl, -, rfl⟩ := he
      have k0 := g4 (j * 3) _ (flatM_get l j _ hj0).1
      have k1 := g4 (j * 3 + 1) _ (flatM_get l j _ hj0).2.1
      have k2 := g4 (j * 3 + 2) _ (flatM_get l j _ hj0).2.2
      rw [← Nat.add_assoc] at k1 k2
      simp only at k0 k1 k2
      obtain ⟨ba, bcap, eb⟩ := HC.out.sn.at_
      subst eb
      clear g4 hj0 hmem
      have HC1 := Lib.hid (HC.out.fr0 ((Fr.refl [] wr).alloc (.cells #[.int .i64 k, .int .u64 n, .slice pa m.length pc] 37)))
      clear HC
      go_wp2_with fail
      go_at_call 10
      refine (cstate_any bc b nm S _ HC1.out.ct).mono ?_
      rintro e w2 ⟨vw, rfl, hS2, hC2, hF2⟩
      have hmb := hF2.blk (Blk.new wr #[.int .i64 k, .int .u64 n, .slice pa m.length pc] 37) (by have := HC1.out.ct.blk.ne (Blk.new wr #[.int .i64 k, .int .u64 n, .slice pa m.length pc] 37) (by decide); simpa using this.symm)
      have HC2 := Lib.hid (HC1.out.state hS2 hC2 hF2)
      obtain ⟨wa, wc, ew⟩ := HC2.out.su.at_
      subst ew
      clear hS2 hC2 hF2 HC1
      have mb1 := hmb.cell
      have mb2 := hmb.lt
      have nb1 := HC2.out.bk.cell
      have nb2 := HC2.out.bk.free
      have nb3 := HC2.out.bk.lt
      have HMB := Lib.hid hmb
      clear hmb
      by_cases hk1 : k = 1
      · subst hk1
        go_wp2_with fail
        go_at_call 11
        refine (radd0 _ S nm n _ HC2.out.sn.rd HS.out.1.srt HS.out.2 (right_bnd (HS.out.1.right HS.out.2) HS.out.1.pos) hn0 hn1).mono ?_
        rintro e w3 ⟨bv3, rfl, hv3, hF3⟩
        have HC3 := Lib.hid (HC2.out.book hv3 hF3)
        have nb1' := (hF3.blk HC2.out.bk (by simp)).cell
        have nb2' := (hF3.blk HC2.out.bk (by simp)).free
        have nb3' := (hF3.blk HC2.out.bk (by simp)).lt
        have hmb := hF3.blk HMB.out (by simp)
        have mb1' := hmb.cell
        have mb2' := hmb.lt
        have hnm : wr.heap.size ≠ w1.heap.size := HMB.out.ne HC2.out.bk (by decide)
        have HMB3 := Lib.hid hmb
        have HF3 := Lib.hid hF3
        have hsn3 := HC3.out.sn
        obtain ⟨ca, ccap, ec⟩ := hsn3.at_
        subst ec
        clear hv3 hF3 hmb hsn3 nb1 nb2 nb3 mb1 mb2
        go_wp2_with fail
        go_at_call 12
        refine (add_any bc b nm S n _ HC3.out.ct hn0 hn1).mono ?_
        rintro e w4 ⟨rfl, hC4, hF4⟩
        have HC4 := Lib.hid (HC3.out.upd hC4 hF4 (.inl rfl))
        clear hC4 hF4 nb1' nb2' nb3' mb1' mb2' HC3 HF3 HMB3
        obtain ⟨S', y, hSy⟩ : ∃ S' y, countF S nm n 0 = (S', y) := ⟨_, _, rfl⟩
        have hst : Stp S (countF S nm n 0).1 := stp_count HS.out.1 HS.out.2 HN.out hn0 (Int.le_refl _)
        rw [(by simpa using radd_count HS.out.1.srt (right_bnd (HS.out.1.right HS.out.2) HS.out.1.pos) HS.out.2 nm hn0 false : raddF S nm n false = countF S nm n 0)] at HC4 ⊢
        rw [hSy] at hst HC4 ⊢
        simp only at hst HC4 ⊢
        have HST := Lib.hid hst
        clear hst hSy HC2 HMB
        have nb1 := HC4.out.bk.cell
        have nb3 := HC4.out.bk.lt
        go_wp2_with fail
        go_at_call 16
        refine (rvalue_to HC4.out.sn.rd HST.out.arg HST.out.val).mono ?_
        rintro e w5 ⟨rfl, hF5⟩
        have HC5 := Lib.hid (HC4.out.fr0 hF5)
        clear hF5 HC4 nb1 nb3
        go_wp2_with fail
        go_at_call 10
        refine (cstate_any bc b nm S' _ HC5.out.ct).mono ?_
        rintro e w6 ⟨v6, rfl, hS6, hC6, hF6⟩
        have HC6 := Lib.hid (HC5.out.upd hC6 (hF6.mono (by simp)) (.inl rfl))
        have HR6 := Lib.hid hS6.rd
        obtain ⟨fa, fcap, ef⟩ := hS6.at_
        subst ef
        clear hS6 hC6 hF6 HC5
        go_wp2_with fail
        go_at_call 17
        refine (rbelow_to HC6.out.su.rd HR6.out (HS.out.1.arg HS.out.2) HST.out.arg HST.out.up).mono ?_
        rintro e w7 ⟨rfl, hF7⟩
        have HC7 := Lib.hid (HC6.out.fr0 hF7)
        have HR7 := Lib.hid (HR6.out.fr0 hF7)
        have nb1 := HC7.out.bk.cell
        have nb3 := HC7.out.bk.lt
        clear hF7 HC6 HR6
        go_wp2_with fail
        go_at_call 18
        refine (rsame_to HR7.out HC7.out.sn.rd).mono ?_
        rintro e w8 ⟨rfl, hF8⟩
        have HC8 := Lib.hid (HC7.out.fr0 hF8)
        clear hF8 HC7 HR7 nb1 nb3
        go_wp2_with fail
        go_at_call 19
        refine (cval_any bc b nm S' _ HC8.out.ct).mono ?_
        rintro e w9 ⟨rfl, hC9, hF9⟩
        have HC9 := Lib.hid (HC8.out.upd hC9 (hF9.mono (by simp)) (.inl rfl))
        clear hC9 hF9 HC8
        go_wp2_with fail
        go_loopw [134] (fun u wx => ∃ i : Nat, i ≤ S.length ∧ u = .int .i64 i ∧ ∃ cur : List Nd, cur.length = S.length ∧ Hid (CS w wx bc b w1.heap.size nm S' S' cur (.slice ca S'.length ccap) (.slice wa S.length wc))) (fun u _ => S.length - (intOf u).toNat)
        case atStart => exact ⟨0, by omega, rfl, S, rfl, HC9⟩
        case round =>
          obtain ⟨i, hi, rfl, cur, hcl, HCx⟩ := hrel
          have hsl := HS.out.2
          by_cases hil : i < S.length
          · have hsu := HCx.out.su
            unfold SN at hsu
            rw [hcl] at hsu
            obtain ⟨z, zo, zc, hz, -⟩ := hsu.cells (by omega)
            simp only [Value.slice.injEq] at hz
            obtain ⟨rfl, -, rfl⟩ := hz
            obtain ⟨⟨s', u', d'⟩, hi0⟩ : ∃ a, cur[i]? = some a := ⟨_, List.getElem?_eq_getElem (by omega)⟩
            obtain ⟨q0, q1, q2, q3, q4, q5, q6, q7⟩ := hsu.slot hi0
            have HSU := Lib.hid hsu
            clear hsu hi0
            go_wp2_with fail
            go_roundw
            case rel =>
              have hset := HSU.out.setCells (i * 3) [.string ByteArray.empty, .int .u64 0, .int .u64 0] (by simp; omega)
              have e3 := flat3_set cur i ByteArray.empty 0 0 (by omega)
              simp only [List.length_cons, List.length_nil] at hset
              rw [← e3] at hset
              have hl2 : (cur.set i (ByteArray.empty, 0, 0)).length = S.length := by simp [hcl]
              refine ⟨i + 1, by omega, by go_num, cur.set i (ByteArray.empty, 0, 0), hl2, Lib.hid (HCx.out.clear (g := z) rfl ?_ (Fr.setCells z [.string ByteArray.empty, .int .u64 0, .int .u64 0] (zo + i * 3) _))⟩
              unfold SN
              rw [hl2]
              exact hset
            case measure => simp [intOf]; omega
          · obtain rfl : i = S.length := by omega
            go_wp2_with fail
            go_roundw
            case rel => exact ⟨j + 1, by omega, by go_num, S', b, _, Lib.hid HCx.out.drop, Lib.hid ⟨HST.out.rt, HST.out.len⟩⟩
            case measure => simp [intOf]; omega
      by_cases hk2 : k = 2
      · subst hk2
        go_wp2_with fail
        go_at_call 11
        refine (radd1 _ S nm n _ HC2.out.sn.rd HS.out.1.srt HS.out.2 (right_bnd (HS.out.1.right HS.out.2) HS.out.1.pos) hn0 hn1).mono ?_
        rintro e w3 ⟨bv3, rfl, hv3, hF3⟩
        have HC3 := Lib.hid (HC2.out.book hv3 hF3)
        have nb1' := (hF3.blk HC2.out.bk (by simp)).cell
        have nb2' := (hF3.blk HC2.out.bk (by simp)).free
        have nb3' := (hF3.blk HC2.out.bk (by simp)).lt
        have hmb := hF3.blk HMB.out (by simp)
        have mb1' := hmb.cell
        have mb2' := hmb.lt
        have hnm : wr.heap.size ≠ w1.heap.size := HMB.out.ne HC2.out.bk (by decide)
        have HMB3 := Lib.hid hmb
        have HF3 := Lib.hid hF3
        have hsn3 := HC3.out.sn
        obtain ⟨ca, ccap, ec⟩ := hsn3.at_
        subst ec
        clear hv3 hF3 hmb hsn3 nb1 nb2 nb3 mb1 mb2
        go_wp2_with fail
        go_at_call 13
        refine (sub_any bc b nm S n _ HC3.out.ct hn0 hn1).mono ?_
        rintro e w4 ⟨rfl, hC4, hF4⟩
        have HC4 := Lib.hid (HC3.out.upd hC4 hF4 (.inl rfl))
        clear hC4 hF4 nb1' nb2' nb3' mb1' mb2' HC3 HF3 HMB3
        obtain ⟨S', y, hSy⟩ : ∃ S' y, countF S nm 0 n = (S', y) := ⟨_, _, rfl⟩
        have hst : Stp S (countF S nm 0 n).1 := stp_count HS.out.1 HS.out.2 HN.out (Int.le_refl _) hn0
        rw [(by simpa using radd_count HS.out.1.srt (right_bnd (HS.out.1.right HS.out.2) HS.out.1.pos) HS.out.2 nm hn0 true : raddF S nm n true = countF S nm 0 n)] at HC4 ⊢
        rw [hSy] at hst HC4 ⊢
        simp only at hst HC4 ⊢
        have HST := Lib.hid hst
        clear hst hSy HC2 HMB
        have nb1 := HC4.out.bk.cell
        have nb3 := HC4.out.bk.lt
        go_wp2_with fail
        go_at_call 16
        refine (rvalue_to HC4.out.sn.rd HST.out.arg HST.out.val).mono ?_
        rintro e w5 ⟨rfl, hF5⟩
        have HC5 := Lib.hid (HC4.out.fr0 hF5)
        clear hF5 HC4 nb1 nb3
        go_wp2_with fail
        go_at_call 10
        refine (cstate_any bc b nm S' _ HC5.out.ct).mono ?_
        rintro e w6 ⟨v6, rfl, hS6, hC6, hF6⟩
        have HC6 := Lib.hid (HC5.out.upd hC6 (hF6.mono (by simp)) (.inl rfl))
        have HR6 := Lib.hid hS6.rd
        obtain ⟨fa, fcap, ef⟩ := hS6.at_
        subst ef
        clear hS6 hC6 hF6 HC5
        go_wp2_with fail
        go_at_call 17
        refine (rbelow_to HC6.out.su.rd HR6.out (HS.out.1.arg HS.out.2) HST.out.arg HST.out.up).mono ?_
        rintro e w7 ⟨rfl, hF7⟩
        have HC7 := Lib.hid (HC6.out.fr0 hF7)
        have HR7 := Lib.hid (HR6.out.fr0 hF7)
        have nb1 := HC7.out.bk.cell
        have nb3 := HC7.out.bk.lt
        clear hF7 HC6 HR6
        go_wp2_with fail
        go_at_call 18
        refine (rsame_to HR7.out HC7.out.sn.rd).mono ?_
        rintro e w8 ⟨rfl, hF8⟩
        have HC8 := Lib.hid (HC7.out.fr0 hF8)
        clear hF8 HC7 HR7 nb1 nb3
        go_wp2_with fail
        go_at_call 19
        refine (cval_any bc b nm S' _ HC8.out.ct).mono ?_
        rintro e w9 ⟨rfl, hC9, hF9⟩
        have HC9 := Lib.hid (HC8.out.upd hC9 (hF9.mono (by simp)) (.inl rfl))
        clear hC9 hF9 HC8
        go_wp2_with fail
        go_loopw [134] (fun u wx => ∃ i : Nat, i ≤ S.length ∧ u = .int .i64 i ∧ ∃ cur : List Nd, cur.length = S.length ∧ Hid (CS w wx bc b w1.heap.size nm S' S' cur (.slice ca S'.length ccap) (.slice wa S.length wc))) (fun u _ => S.length - (intOf u).toNat)
        case atStart => exact ⟨0, by omega, rfl, S, rfl, HC9⟩
        case round =>
          obtain ⟨i, hi, rfl, cur, hcl, HCx⟩ := hrel
          have hsl := HS.out.2
          by_cases hil : i < S.length
          · have hsu := HCx.out.su
            unfold SN at hsu
            rw [hcl] at hsu
            obtain ⟨z, zo, zc, hz, -⟩ := hsu.cells (by omega)
            simp only [Value.slice.injEq] at hz
            obtain ⟨rfl, -, rfl⟩ := hz
            obtain ⟨⟨s', u', d'⟩, hi0⟩ : ∃ a, cur[i]? = some a := ⟨_, List.getElem?_eq_getElem (by omega)⟩
            obtain ⟨q0, q1, q2, q3, q4, q5, q6, q7⟩ := hsu.slot hi0
            have HSU := Lib.hid hsu
            clear hsu hi0
            go_wp2_with fail
            go_roundw
            case rel =>
              have hset := HSU.out.setCells (i * 3) [.string ByteArray.empty, .int .u64 0, .int .u64 0] (by simp; omega)
              have e3 := flat3_set cur i ByteArray.empty 0 0 (by omega)
              simp only [List.length_cons, List.length_nil] at hset
              rw [← e3] at hset
              have hl2 : (cur.set i (ByteArray.empty, 0, 0)).length = S.length := by simp [hcl]
              refine ⟨i + 1, by omega, by go_num, cur.set i (ByteArray.empty, 0, 0), hl2, Lib.hid (HCx.out.clear (g := z) rfl ?_ (Fr.setCells z [.string ByteArray.empty, .int .u64 0, .int .u64 0] (zo + i * 3) _))⟩
              unfold SN
              rw [hl2]
              exact hset
            case measure => simp [intOf]; omega
          · obtain rfl : i = S.length := by omega
            go_wp2_with fail
            go_roundw
            case rel => exact ⟨j + 1, by omega, by go_num, S', b, _, Lib.hid HCx.out.drop, Lib.hid ⟨HST.out.rt, HST.out.len⟩⟩
            case measure => simp [intOf]; omega
      have hk1' : (k == 1) = false := by simpa using hk1
      have hk2' : (k == 2) = false := by simpa using hk2
      go_wp2_with fail
      go_at_call 14
      refine (rtake_any _ _ S m nm _ HC2.out.sn.rd (HRx.out.fr0 HC2.out.f) (HS.out.1.arg HS.out.2) HAx.out).mono ?_
      rintro e w3 ⟨bv3, rfl, hv3, hF3⟩
      have HC3 := Lib.hid (HC2.out.book hv3 hF3)
      have nb1' := (hF3.blk HC2.out.bk (by simp)).cell
      have nb2' := (hF3.blk HC2.out.bk (by simp)).free
      have nb3' := (hF3.blk HC2.out.bk (by simp)).lt
      have hmb := hF3.blk HMB.out (by simp)
      have mb1' := hmb.cell
      have mb2' := hmb.lt
      have hnm : wr.heap.size ≠ w1.heap.size := HMB.out.ne HC2.out.bk (by decide)
      have HMB3 := Lib.hid hmb
      have HF3 := Lib.hid hF3
      have hsn3 := HC3.out.sn
      obtain ⟨ca, ccap, ec⟩ := hsn3.at_
      subst ec
      clear hv3 hF3 hmb hsn3 nb1 nb2 nb3 mb1 mb2
      go_wp2_with fail
      go_at_call 15
      refine (take_any bc b nm S m _ _ HC3.out.ct (HRx.out.fr0 HC3.out.f) HAx.out (fun g hg h0 => by have := HRx.out.own h0 hg; have := HC3.out.h1; omega)).mono ?_
      rintro e w4 ⟨b4, rfl, hC4, hb4, hF4⟩
      have HC4 := Lib.hid (HC3.out.upd hC4 (hF4.mono (by simp)) hb4)
      clear hC4 hF4 nb1' nb2' nb3' mb1' mb2' HC3 HF3 HMB3
      obtain ⟨S', y, hSy⟩ : ∃ S' y, takeF S m = (S', y) := ⟨_, _, rfl⟩
      have hst : Stp S (takeF S m).1 := stp_take HS.out.1 HS.out.2 HAx.out
      rw [hSy] at hst HC4 ⊢
      simp only at hst HC4 ⊢
      have HST := Lib.hid hst
      clear hst hSy HC2 HMB
      have nb1 := HC4.out.bk.cell
      have nb3 := HC4.out.bk.lt
      go_wp2_with fail
      go_at_call 16
      refine (rvalue_to HC4.out.sn.rd HST.out.arg HST.out.val).mono ?_
      rintro e w5 ⟨rfl, hF5⟩
      have HC5 := Lib.hid (HC4.out.fr0 hF5)
      clear hF5 HC4 nb1 nb3
      go_wp2_with fail
      go_at_call 10
      refine (cstate_any bc b4 nm S' _ HC5.out.ct).mono ?_
      rintro e w6 ⟨v6, rfl, hS6, hC6, hF6⟩
      have HC6 := Lib.hid (HC5.out.upd hC6 (hF6.mono (by simp)) (.inl rfl))
      have HR6 := Lib.hid hS6.rd
      obtain ⟨fa, fcap, ef⟩ := hS6.at_
      subst ef
      clear hS6 hC6 hF6 HC5
      go_wp2_with fail
      go_at_call 17
      refine (rbelow_to HC6.out.su.rd HR6.out (HS.out.1.arg HS.out.2) HST.out.arg HST.out.up).mono ?_
      rintro e w7 ⟨rfl, hF7⟩
      have HC7 := Lib.hid (HC6.out.fr0 hF7)
      have HR7 := Lib.hid (HR6.out.fr0 hF7)
      have nb1 := HC7.out.bk.cell
      have nb3 := HC7.out.bk.lt
      clear hF7 HC6 HR6
      go_wp2_with fail
      go_at_call 18
      refine (rsame_to HR7.out HC7.out.sn.rd).mono ?_
      rintro e w8 ⟨rfl, hF8⟩
      have HC8 := Lib.hid (HC7.out.fr0 hF8)
      clear hF8 HC7 HR7 nb1 nb3
      go_wp2_with fail
      go_at_call 19
      refine (cval_any bc b4 nm S' _ HC8.out.ct).mono ?_
      rintro e w9 ⟨rfl, hC9, hF9⟩
      have HC9 := Lib.hid (HC8.out.upd hC9 (hF9.mono (by simp)) (.inl rfl))
      clear hC9 hF9 HC8
      go_wp2_with fail
      go_loopw [134] (fun u wx => ∃ i : Nat, i ≤ S.length ∧ u = .int .i64 i ∧ ∃ cur : List Nd, cur.length = S.length ∧ Hid (CS w wx bc b4 w1.heap.size nm S' S' cur (.slice ca S'.length ccap) (.slice wa S.length wc))) (fun u _ => S.length - (intOf u).toNat)
      case atStart => exact ⟨0, by omega, rfl, S, rfl, HC9⟩
      case round =>
        obtain ⟨i, hi, rfl, cur, hcl, HCx⟩ := hrel
        have hsl := HS.out.2
        by_cases hil : i < S.length
        · have hsu := HCx.out.su
          unfold SN at hsu
          rw [hcl] at hsu
          obtain ⟨z, zo, zc, hz, -⟩ := hsu.cells (by omega)
          simp only [Value.slice.injEq] at hz
          obtain ⟨rfl, -, rfl⟩ := hz
          obtain ⟨⟨s', u', d'⟩, hi0⟩ : ∃ a, cur[i]? = some a := ⟨_, List.getElem?_eq_getElem (by omega)⟩
          obtain ⟨q0, q1, q2, q3, q4, q5, q6, q7⟩ := hsu.slot hi0
          have HSU := Lib.hid hsu
          clear hsu hi0
          go_wp2_with fail
          go_roundw
          case rel =>
            have hset := HSU.out.setCells (i * 3) [.string ByteArray.empty, .int .u64 0, .int .u64 0] (by simp; omega)
            have e3 := flat3_set cur i ByteArray.empty 0 0 (by omega)
            simp only [List.length_cons, List.length_nil] at hset
            rw [← e3] at hset
            have hl2 : (cur.set i (ByteArray.empty, 0, 0)).length = S.length := by simp [hcl]
            refine ⟨i + 1, by omega, by go_num, cur.set i (ByteArray.empty, 0, 0), hl2, Lib.hid (HCx.out.clear (g := z) rfl ?_ (Fr.setCells z [.string ByteArray.empty, .int .u64 0, .int .u64 0] (zo + i * 3) _))⟩
            unfold SN
            rw [hl2]
            exact hset
          case measure => simp [intOf]; omega
        · obtain rfl : i = S.length := by omega
          go_wp2_with fail
          go_roundw
          case rel => exact ⟨j + 1, by omega, by go_num, S', b4, _, Lib.hid HCx.out.drop, Lib.hid ⟨HST.out.rt, HST.out.len⟩⟩
          case measure => simp [intOf]; omega
    · obtain rfl : j = l.length := by omega
      go_wp2_with fail
      go_ret
      exact ⟨rfl, HC.out.f⟩
end Go.Proofs.Ytanbfejhhnhabaa

namespace Go.Proofs.Ytanbfejhhnhabaa
open Go.ChangeShapes Go.WideShapes Go.ChangeAt Go.RowKit Go.Deep
set_option linter.unusedVariables false
set_option linter.unusedSimpArgs false
set_option maxRecDepth 100000
set_option maxHeartbeats 2000000
theorem flatMap_len {α : Type} {f : α → List Value} {s : Nat} (hf : ∀ a, (f a).length = s) (l : List α) : (l.flatMap f).length = l.length * s := by
  induction l with
  | nil => simp
  | cons a r ih => simp only [List.flatMap_cons, List.length_append, List.length_cons, ih, hf, Nat.add_mul]; omega
theorem flatMap_at {α : Type} {f : α → List Value} {s : Nat} (hf : ∀ a, (f a).length = s) : ∀ (l : List α) (i : Nat) (a : α) (r : Nat), l[i]? = some a → r < s → (l.flatMap f)[i * s + r]? = (f a)[r]?
  | [], i, a, r, h, _ => by simp at h
  | x :: l, 0, a, r, h, hr => by
    simp at h
    subst h
    rw [List.flatMap_cons, List.getElem?_append_left (by rw [hf]; omega)]
    simp
  | x :: l, i + 1, a, r, h, hr => by
    have := flatMap_at hf l i a r (by simpa using h) hr
    rw [List.flatMap_cons, List.getElem?_append_right (by rw [hf, Nat.add_mul]; omega), hf, Nat.add_mul]
    rw [show i * s + 1 * s + r - s = i * s + r by omega]
    exact this
theorem add_none (b o j : Nat) : (⟨b, o, none⟩ : Addr).add j = ⟨b, o + j, none⟩ := by
  unfold Addr.add
  split <;> simp_all
theorem cell_lt {w : World} {a : Addr} {v : Value} (h : w.cell? a = some v) : a.spot = none ∧ a.block < w.heap.size := by
  unfold World.cell? at h
  split at h
  · rename_i c _ _ hb
    split at h
    · cases h
    · rename_i hs
      refine ⟨by simpa using hs, ?_⟩
      rcases Nat.lt_or_ge a.block w.heap.size with hl | hl
      · exact hl
      · rw [Array.getElem?_eq_none hl] at hb; cases hb
  · cases h
theorem wts_all {H : Type} {P : Program} {e : TypeId} : ∀ {ds : List (DataW H)} {d : DataW H}, d ∈ ds → ∀ z ∈ d.weights P e, z ∈ DataW.weightsAll P e ds
  | [], d, h, z, hz => by cases h
  | x :: r, d, h, z, hz => by
    simp only [DataW.weightsAll, List.mem_append]
    rcases List.mem_cons.1 h with rfl | h
    · exact .inl hz
    · exact .inr (wts_all h z hz)
/-- A slice of elements that one function tells by their cells. -/
theorem RD.open_ {H : Type} {enc : TypeId × Value → H} {P : Program} {W : World} {t e : TypeId} {fuel s bt : Nat} {v : Value} {x : DataW H × List MemPlace} {α : Type} (f : α → List Value) (G : α → Prop)
    (ht : P.underlying t = some (.slice e)) (hs : P.cellsOf e = s) (hs0 : 0 < s) (hb : P.bytesOf e = bt) (hf : ∀ a, (f a).length = s)
    (h : DataW.trod enc P W 0 (fun _ => true) true fuel t [v] = some x) (hw : ∀ z ∈ x.1.weights P t, z ≤ reachBytes)
    (dec : ∀ (n : Nat) (cs : List Value) (y : DataW H × List MemPlace), DataW.trod enc P W 0 (fun _ => true) true n e cs = some y → (∀ z ∈ y.1.weights P e, z ≤ reachBytes) → cs.length = s → ∃ a, cs = f a ∧ G a) :
    ∃ l : List α, RD W s v l.length (l.flatMap f) ∧ (∀ a ∈ l, G a) ∧ l.length * bt ≤ reachBytes := by
  rcases open_slice ht h with ⟨h0, _⟩ | ⟨a, n, c, m, k, D, Pl, hcs, _, hl, hm, hmm, hx, hD⟩
  · simp at h0
    subst h0
    exact ⟨[], RD.nil _ _, by simp, by simp⟩
  · simp at hcs
    subst hcs
    rw [if_pos rfl] at hmm
    subst hmm
    rw [hx] at hw
    simp only [DataW.weights, ht, hb] at hw
    have hlen := hw ((((List.range n).map D).length + ((List.range (m - n)).map fun j => D (n + j)).length) * bt) (by simp)
    simp only [List.length_map, List.length_range] at hlen
    have hnb : n * bt ≤ reachBytes := Nat.le_trans (Nat.mul_le_mul_right _ (by omega)) hlen
    have each : ∀ i, i < n → ∃ q : α, (∀ r, r < s → W.cell? ((a.add (i * s)).add r) = (f q)[r]?) ∧ G q := by
      intro i hi
      obtain ⟨cs', h1, h2⟩ := hD i (by omega)
      rw [hs] at h1
      obtain ⟨_, hcl, hcell⟩ := World.cells?_some h1
      obtain ⟨q, hq, hG⟩ := dec k cs' _ h2 (fun z hz => hw z (by
        refine List.mem_cons_of_mem _ (List.mem_append_left _ (wts_all (d := D i) (List.mem_map.2 ⟨i, List.mem_range.2 hi, rfl⟩) z hz))) ) hcl
      exact ⟨q, fun r hr => by rw [← hq]; exact hcell r hr, hG⟩
    rcases Nat.eq_zero_or_pos n with h0 | h0
    · subst h0
      exact ⟨[], RD.empty _ _ hm (fun h => by cases h), by simp, by simp⟩
    · obtain ⟨q0, hq0⟩ := each 0 h0
      haveI : Inhabited α := ⟨q0⟩
      obtain ⟨q, hq⟩ := choose_lt (α := α) (p := fun i x => (∀ r, r < s → W.cell? ((a.add (i * s)).add r) = (f x)[r]?) ∧ G x) each
      have hll : ((List.range n).map q).length = n := by simp
      have hc0 : W.cell? a = (f q0)[0]? := by simpa [Addr.add] using hq0.1 0 hs0
      have hs1 : ∃ u, (f q0)[0]? = some u := ⟨_, List.getElem?_eq_getElem (by rw [hf]; omega)⟩
      obtain ⟨u0, hu0⟩ := hs1
      obtain ⟨ab, ao, asp⟩ := a
      obtain ⟨hsp, hlt⟩ := cell_lt (hc0.trans hu0)
      simp only at hsp hlt
      subst hsp
      refine ⟨(List.range n).map q, ?_, ?_, by rw [hll]; exact hnb⟩
      · rw [hll]
        refine ⟨by rw [flatMap_len hf, hll], .inr ⟨ab, ao, _, rfl, hlt, hl, hm, fun j u hj => ?_⟩⟩
        have hjl := (List.getElem?_eq_some_iff.1 hj).1
        rw [flatMap_len hf, hll] at hjl
        have hj2 : j = j / s * s + j % s := by rw [Nat.mul_comm]; exact (Nat.div_add_mod j s).symm
        have hr : j % s < s := Nat.mod_lt _ hs0
        have hi : j / s < n := (Nat.div_lt_iff_lt_mul hs0).2 hjl
        have hat := flatMap_at hf ((List.range n).map q) (j / s) (q (j / s)) (j % s) (by simp [hi]) hr
        rw [← hj2, hj] at hat
        have hcell := (hq (j / s) hi).1 (j % s) hr
        rw [add_none, add_none, Nat.add_assoc, ← hj2] at hcell
        rw [hcell]
        exact hat.symm
      · intro y hy
        obtain ⟨i, hi, rfl⟩ := List.mem_map.1 hy
        exact (hq i (List.mem_range.1 hi)).2
theorem wts_arg {H : Type} {P : Program} {ts : List TypeId} {ds : List (DataW H)} (h : (DataW.weightsEach P ts ds).all (· ≤ reachBytes) = true) {j : Nat} {t : TypeId} {d : DataW H} (ht : ts[j]? = some t) (hd : ds[j]? = some d) : ∀ z ∈ d.weights P t, z ≤ reachBytes :=
  fun z hz => by simpa using List.all_eq_true.1 h z (DataW.weights_mem_each ht hd z hz)
theorem trod_value {H : Type} {enc : TypeId × Value → H} {P : Program} {W : World} {t e : TypeId} {fuel : Nat} {cs : List Value} {x : DataW H × List MemPlace} (ht : P.underlying t = some (.slice e)) (h : DataW.trod enc P W 0 (fun _ => true) true fuel t cs = some x) : ∃ v, cs = [v] := by
  rcases open_slice ht h with ⟨h0, _⟩ | ⟨a, n, c, m, k, D, Pl, hcs, _⟩
  · exact ⟨_, h0⟩
  · exact ⟨_, hcs⟩
theorem bnd_u64 {n : Int} (h : (Lit.int .u64 n).wf = true) : 0 ≤ n ∧ n < 18446744073709551616 := by
  have := bounds_u64 h
  omega
end Go.Proofs.Ytanbfejhhnhabaa
