/- The package delta: (*Receiver).All. -/
import Derived.Test.YtmilnhicmeblhaaRv
import Derived.Test.YtmilnhicmeblhaaIter
namespace Go.Proofs.Ytmilnhicmeblhaa
open Go.RowKit Go.Maps Go.Sort
set_option maxRecDepth 100000
set_option linter.unusedVariables false
set_option linter.unusedSimpArgs false
set_option maxHeartbeats 8000000
theorem SV.cells {w : World} {base size : Nat} {v : Value} {n : Nat} {xs : List Value} (h : SV w base size v n xs) (hn : 0 < n) : ∃ g o c, v = .slice (some ⟨g, o, none⟩) n c ∧ base ≤ g ∧ g < w.heap.size ∧ n ≤ c ∧ c ≤ maxLen ∧ (∀ j u, xs[j]? = some u → w.cell? ⟨g, o + j, none⟩ = some u) := by
  rcases h.2 with ⟨_, h2⟩ | ⟨g, o, c, h1, h2, h3, h4, h5, h6, _⟩
  · omega
  · exact ⟨g, o, c, h1, h2, h3, h4, h5, h6⟩
theorem SV.capLe {w : World} {base size : Nat} {a : Option Addr} {n c : Nat} {xs : List Value} (h : SV w base size (.slice a n c) n xs) : n ≤ c ∧ c ≤ maxLen := by
  rcases h.2 with ⟨he, h2⟩ | ⟨g, o, c', he, h2, h3, h4, h5, h6, _⟩
  · simp at he; unfold maxLen; omega
  · simp at he; obtain ⟨rfl, rfl⟩ := he; exact ⟨h4, h5⟩
theorem key_of {s : ByteArray} {kl : Lit} (h : keyOf Try.prog 9 (.string s) = some kl) : kl = mk5 s ∧ s.size ≤ maxLen := by
  obtain ⟨x, h1, h2, h3⟩ := Maps.keyOf_str Try.underlying9 h
  simp only [encStr, Value.string.injEq] at h1
  subst h1
  exact ⟨by rw [h2]; simp [mk5], by simpa [ByteArray.size] using h3⟩
theorem ranges_fr {P : Program} {k : TypeId} {R : Value → Option (DataW Unit × List MemPlace)} {w w' : World} {b r n : Nat} {D : DataW Unit} {left : Lit → Bool} {cnt : Nat} {S : List Nat} (h : w.ranges P k R b r n D left cnt) (f : Fr S w w') (hb : b ∉ S) (hr : r ∉ S) : w'.ranges P k R b r n D left cnt := by
  obtain ⟨es, clock, since, seen, c0, h1, h2, h3, h4, h5, h6⟩ := h
  exact ⟨es, clock, since, seen, c0, (f.block b (Array.getElem?_eq_some_iff.1 h1).1 hb).trans h1, h2, h3, h4, (f.block r (Array.getElem?_eq_some_iff.1 h5).1 hr).trans h5, h6⟩
abbrev tots (q : Sq) : List (List Ct) := q.map (fun x => x.2.2.1)
theorem all_any (F : List Nat) (p b n : Nat) (q : Sq) (w : World) (h : RV w F p b n q) :
    Calls Try.prog 24 #[.pointer (some ⟨p, 0, none⟩)] w fun e w' => ∃ v, e = .returned v ∧ SV w' w.heap.size 2 v (allF (tots q)).length (flat2 (allF (tots q))) ∧ Fr [] w w' := by
  obtain ⟨D, hown, hD⟩ := h.mp.ex
  have hmm := @run_makeMap Try.prog
  have hpc := h.bk.cell
  have hpl := h.bk.lt
  have hord : ∀ t ∈ tots q, Ord t := fun t ht => by obtain ⟨x, hx, rfl⟩ := List.mem_map.1 ht; exact Ord.right (h.tot x hx).2.2.1 (h.tot x hx).2.2.2
  have hF1 : Fr [] w (w.alloc (.map #[] 0)) := (Fr.refl _ _).alloc _
  have hown1 : (w.alloc (.map #[] 0)).ownsMap Try.prog 9 XH.E b n D := by
    obtain ⟨es, clock, he, r⟩ := hown
    exact ⟨es, clock, (Below.heap_alloc w _ b (h.lt b h.bF)).trans he, r⟩
  have HN1 := Lib.hid (NM.made XU w w.heap.size rfl)
  have HO := Lib.hid hown1
  have HD := Lib.hid hD
  have HR := Lib.hid h
  have HORD := Lib.hid hord
  have hbl := h.lt b h.bF
  have hne1 : b ≠ w.heap.size := by omega
  have hpne : p ≠ w.heap.size := by omega
  have hlen := h.len
  clear h hown hown1 hD hord hF1
  obtain ⟨i0, hi0, hz0, hz1, hz2⟩ := info_parts infoC
  obtain ⟨r, hr⟩ : ∃ r, r = (w.alloc (.map #[] 0)).heap.size := ⟨_, rfl⟩
  have hrz : r ≤ w.heap.size + 1 ∧ w.heap.size + 1 ≤ r := by rw [hr]; simp
  go_enter Try.func24, Try.ntmps24
  go_wp2_with (at_range; refine wpList_range_own _ rfl _ 97 rfl 9 101 mlaw Try.underlying97 XH.E b n D rfl HO.out ?_; intro w0 hrg0 hg0 hs0; rw [← hr] at hrg0 hs0 ⊢)
  go_frame
  have hG0 := Lib.hid hg0
  have hRG0 := Lib.hid hrg0
  clear hrg0 hg0 hpc hmm hr
  go_loopw [26] (fun _ wr => ∃ (left : Lit → Bool) (cnt : Nat) (vis rest : Sq) (nn : Nat), Hid (wr.ranges Try.prog 9 XH.E b r n D left cnt) ∧ Hid (Vis q vis rest left) ∧ nn + 4096 * rest.length ≤ 4096 * q.length ∧ Hid (NM XU wr w.heap.size nn (allF (tots vis))) ∧ Hid (Fr [] w wr) ∧ w.heap.size + 2 ≤ wr.heap.size)
    (fun _ wr => wr.rangeLeft b r)
  case atStart =>
    refine ⟨_, _, [], q, 0, hRG0, Lib.hid (Vis.start HD.out), by omega, ?_, ?_, by omega⟩
    · exact Lib.hid (HN1.out.fr (Fr.of_grownBy hG0.out) (by simp))
    · exact Lib.hid (((Fr.refl [] w).alloc _).trans ((Fr.of_grownBy hG0.out).mono (by simp)))
  case round =>
    obtain ⟨left, cnt, vis, rest, nn, HRG, HVS, hnn, HM, HF, hsw⟩ := hrel
    go_wp2_with (at_next; refine wpList_next_ranges _ rfl _ rfl 9 mlaw XH.E Value.string XH.vl (fun key kl hkey => keyOf_string_inv Try.underlying9 hkey) (fun v y hv => (XH.E_inv v y.1 y.2 hv).imp fun a h => h.1) b r n D left cnt rfl HRG.out ?_ ?_)
    · intro hc0 hl0
      have hpm := HVS.out.done HR.out.gd hl0
      have hall : allF (tots q) = allF (tots vis) := allF_perm HORD.out (hpm.map _)
      have hM := HM.out
      rw [← hall] at hM
      have hordA : Ord (allF (tots q)) := Ord.all HORD.out Ord.nil
      have hlenA : (allF (tots q)).length ≤ 1048576 := by
        have h1 := allF_len (tots q) 4096 (fun t ht => by
          obtain ⟨x, hx, rfl⟩ := List.mem_map.1 ht
          exact (rightC_iff.1 (HR.out.tot x hx).2.2.1).2.2) []
        have h2 : (tots q).length ≤ 256 := by simpa using hlen
        have h3 : 4096 * (tots q).length ≤ 4096 * 256 := Nat.mul_le_mul_left _ h2
        unfold allF
        simp only [List.length_nil, Nat.zero_add] at h1
        omega
      obtain ⟨l, hA⟩ : ∃ l, allF (tots q) = l := ⟨_, rfl⟩
      rw [hA] at hM hordA hlenA
      have HA := Lib.hid hA
      have hgood : Good l := Good.of_srt hordA.st hordA.sz
      obtain ⟨Dm, ho, hDm⟩ := hM.ex
      have hsz := NM.dsize ho hDm hgood
      have hmax : Maps.size Dm ≤ maxLen := by unfold maxLen; omega
      have hbytes : Maps.size Dm * 16 ≤ 140737488355328 := by omega
      have HP := Lib.hid (names_perm ho hDm hgood)
      have HMM := Lib.hid hM
      have HO2 := Lib.hid ho
      have HOA := Lib.hid hordA
      clear hl0 hpm hall hM hordA hA hgood hDm ho hsz
      go_wp2_with (first
        | (go_at_call 51; refine (callsIn_wide.1 (Try.maps_Keys_51 (some w.heap.size) _)).mono ?_; rintro e w1 ⟨rfl, rfl⟩)
        | (go_at_call 50; refine (callsIn_wide.1 (Try.slices_Sorted_keys_50_51 w.heap.size _ Dm XU.E wr HO2.out hmax hbytes)).mono ?_; rintro e w2 ⟨v, ss, rfl, hS, hrow, hnil, hbel⟩; have HF2 := Lib.hid (((Fr.refl [] wr).alloc (.cells #[.map (some w.heap.size)] 104)).trans (Fr.of_below hbel)); have hlen2 : ss.length = l.length := (by have := (hS.trans HP.out.symm).length_eq; simpa using this); have hr0 := hrow; rw [names_eq HOA.out.st hS HP.out, hlen2] at hr0; have HK := Lib.hid (SV.of_owns (B := wr.heap.size + 1) hr0 (by simp)); obtain ⟨ka, kc, hv⟩ := HK.out.at_; subst hv; clear hrow hr0 hnil hbel hS hlen2))
      have hz2' := HF2.out.size
      go_loopw [8, 42] (fun x u wx => ∃ j : Nat, j ≤ l.length ∧ u = .int .i64 j ∧ SV wx w2.heap.size 2 x j (flat2 (l.take j)) ∧ Fr [] w2 wx) (fun _ u _ => l.length - (intOf u).toNat)
      case atStart => exact ⟨0, by omega, rfl, SV.nil _ _ _, Fr.refl _ _⟩
      case round =>
        obtain ⟨j, hj, rfl, hX, hFx⟩ := hrel
        by_cases hjl : j < l.length
        · obtain ⟨⟨s, u⟩, hj0⟩ : ∃ a, l[j]? = some a := ⟨_, List.getElem?_eq_getElem hjl⟩
          obtain ⟨g, o, c', he, g1, g2, g3, g4, g5⟩ := (HK.out.fr0 hFx).cells (by omega)
          simp only [Value.slice.injEq] at he
          obtain ⟨rfl, -, rfl⟩ := he
          have k0 := g5 j (.string s) (by simp [hj0, bts])
          have hszs : s.size ≤ maxLen := by have := HOA.out.sz _ (List.mem_of_getElem? hj0); unfold maxLen; simp at this; omega
          have hMx := (HMM.out.fr0 HF2.out).fr0 hFx
          have hlk : (Instr.lookup 104 (.map (some w.heap.size)) (.string s) false).run Try.prog wr = .ok (.int .u64 u) wr := by
            have h1 := hMx.look s hszs
            unfold lkV at h1
            rw [lk_of HOA.out.st (List.mem_of_getElem? hj0)] at h1
            exact h1
          have HT := Lib.hid hj0
          have HX := Lib.hid hX
          obtain ⟨xa, xc, hx⟩ := hX.at_
          subst hx
          have hzr := hFx.size
          have HFX := Lib.hid hFx
          clear g5 hMx hX hj0 hFx
          go_wp2_with (at_builtin; (refine wpList_append_sv _ rfl (.tmp 46) (.tmp 52) 24 rfl 38 i0 (ctV ByteArray.empty 0) 2 24 Try.underlying24 hi0 hz0 hz1 hz2 rfl (by decide) w2.heap.size (.slice xa j xc) j (flat2 (l.take j)) ?_ ?_ ?_ ⟨wr.heap.size, 0, none⟩ 1 1 [.string s, .int .u64 u] rfl rfl (cells_of_blk (t := 38) (Blk.new _ _ _)) ?_ ?_ ?_ ?_); (focus rfl); (focus (exact HX.out.al _)); (focus (simp; omega)); (focus (simp [Value.oneCell'])); (focus (unfold maxLen; omega)); (focus omega); intro v4 w4 hS4 hF4)
          have eq1 : flat2 (l.take j) ++ [Value.string s, Value.int .u64 u] = flat2 (l.take (j + 1)) := by rw [List.take_add_one, HT.out, flat2_app]; rfl
          rw [eq1] at hS4
          go_roundw
          case rel =>
            refine ⟨j + 1, by omega, by go_num, hS4, ?_⟩
            exact (((HFX.out.alloc _).mono (by simp)).trans hF4).weaken (by intro z hz; rw [Option.mem_toList] at hz; have := (HX.out.own hz).1; right; omega)
          case measure => simp [intOf]; omega
        · obtain rfl : j = l.length := by omega
          rw [List.take_length] at hX
          have HX := Lib.hid hX
          have HFX := Lib.hid hFx
          clear hX hFx
          go_wp2
          go_ret
          rw [HA.out]
          refine ⟨u8, rfl, ?_, (HF.out.trans HF2.out).trans HFX.out⟩
          exact HX.out.base_le (Nat.le_trans HF.out.size hz2')
    · intro s ca cn cc ck kl y1 y2 w1 cnt1 hkey hlx hv hat hrg1 hlt1 hg1 hs1 hen
      obtain ⟨c, hceq⟩ : ∃ c : Hd, ((ca, cn, cc), ck) = c := ⟨_, rfl⟩
      rw [hceq] at hv hen ⊢
      clear hceq
      obtain ⟨rfl, hs⟩ := key_of hkey
      obtain ⟨x, rest', hxs, hrp, hxq, hvis⟩ := HVS.out.step HR.out.gd hs hlx
      obtain ⟨nm, slc, tot, num⟩ := x
      simp only at hxs
      subst hxs
      have hc : c = (slc, num) := by
        have h1 := (HD.out nm hs).2 (.lit (.bool true))
        rw [lk_mapQ HR.out.gd hxq, hat] at h1
        have h2 := XH.E_mk c
        rw [hv] at h2
        have h3 : y1 = XH.enc c := by have := Option.some.inj h2; exact congrArg Prod.fst this
        rw [h3] at h1
        exact XH.inj _ _ h1
      subst hc
      obtain ⟨hsv, hob, hrt, hwt⟩ := HR.out.tot _ hxq
      simp only at hsv hob hrt hwt
      obtain ⟨ta, tc, hts⟩ := hsv.at_
      rw [hts] at hsv
      have hval : XH.vl (slc, num) = .agg #[.slice ta tot.length tc, .int .u64 num] := by
        show hdV (slc, num) = _
        unfold hdV
        rw [hts]
      rw [hval] at hen ⊢
      have hrl : rest.length = rest'.length + 1 := by simpa using hrp.length_eq
      have hOT := Ord.right hrt hwt
      have htl := (rightC_iff.1 hrt).2.2
      have hbr : b ≠ r := by omega
      have F1 : Fr [r] wr w1 := Fr.of_grownBy hg1
      have HF1 := Lib.hid (((HF.out.mono (T := [r]) (by simp)).trans F1).weaken (T := []) (by intro z hz; simp at hz; subst hz; right; omega))
      have HM1 := Lib.hid (HM.out.fr F1 (by simp; omega))
      have HRG1 := Lib.hid hrg1
      have HVI := Lib.hid hvis
      have HSV := Lib.hid hsv
      have HOT := Lib.hid hOT
      have HOV := Lib.hid (show Ord (allF (tots vis)) from Ord.all (fun t ht => by
        obtain ⟨x, hx, rfl⟩ := List.mem_map.1 ht
        exact HORD.out _ (List.mem_map.2 ⟨x, HVS.out.perm.mem_iff.2 (List.mem_append_left _ hx), rfl⟩)) Ord.nil)
      have HLT := Lib.hid hlt1
      have hs1' : w.heap.size + 2 ≤ w1.heap.size := by omega
      clear hkey hlx hv hat hrg1 hlt1 hg1 hs1 hvis hsv hob hrt hwt hts hval hOT hrp F1
      go_wp2
      go_loopw [26] (fun u wr => ∃ j : Nat, j ≤ tot.length ∧ u = .int .i64 j ∧ Hid (wr.ranges Try.prog 9 XH.E b r n D (fun z => left z && !z.sameKey (mk5 nm)) cnt1) ∧ Hid (NM XU wr w.heap.size (nn + j) (addT (allF (tots vis)) (tot.take j))) ∧ Hid (Fr [] w wr) ∧ w.heap.size + 2 ≤ wr.heap.size) (fun u _ => tot.length - (intOf u).toNat)
      case atStart =>
        refine ⟨0, by omega, rfl, Lib.hid (ranges_fr HRG1.out ((Fr.refl [] w1).alloc _) (by simp) (by simp)), Lib.hid ?_, Lib.hid (HF1.out.alloc _), by simp; omega⟩
        rw [List.take_zero, addT_nil _ HOV.out]
        exact HM1.out.fr0 ((Fr.refl [] w1).alloc _)
      case round =>
        clear hen
        obtain ⟨j, hj, rfl, HRX, HMX, HFX, hsx⟩ := hrel
        by_cases hjl : j < tot.length
        · obtain ⟨⟨k, cc⟩, hj0⟩ : ∃ a, tot[j]? = some a := ⟨_, List.getElem?_eq_getElem hjl⟩
          obtain ⟨g, o, c', he, g1, g2, g3, g4, g5⟩ := (HSV.out.fr0 HFX.out).cells (by omega)
          simp only [Value.slice.injEq] at he
          obtain ⟨rfl, -, rfl⟩ := he
          have k0 := g5 (j * 2) _ (flat2_get tot j _ hj0).1
          have k1 := g5 (j * 2 + 1) _ (flat2_get tot j _ hj0).2
          rw [← Nat.add_assoc] at k1
          simp only at k0 k1
          have hszk : k.size ≤ maxLen := by have := HOT.out.sz _ (List.mem_of_getElem? hj0); unfold maxLen; simp at this; omega
          have hMa := HMX.out.fr0 ((Fr.refl [] wr).alloc (.cells #[.string k, .int .u64 cc] 38))
          obtain ⟨z, hz⟩ : ∃ z, (lk (addT (allF (tots vis)) (tot.take j)) k).getD 0 = z := ⟨_, rfl⟩
          have hlk : (Instr.lookup 104 (.map (some w.heap.size)) (.string k) false).run Try.prog (wr.alloc (.cells #[.string k, .int .u64 cc] 38)) = .ok (.int .u64 z) (wr.alloc (.cells #[.string k, .int .u64 cc] 38)) := by
            have h1 := hMa.look k hszk
            unfold lkV at h1
            rw [show XU.zero = 0 from rfl, hz] at h1
            exact h1
          obtain ⟨z2, hz2⟩ : ∃ z2, IntKind.u64.wrap (z + cc) = z2 := ⟨_, rfl⟩
          obtain ⟨w5, hup0, hM5, hF5⟩ := hMa.store (l' := addT (allF (tots vis)) (tot.take (j + 1))) k hszk z2 (by unfold maxLen; omega) (fun t => by rw [addT_step HOV.out HOT.out hj0 t]; simp only; rw [hz, hz2])
          have hup : (Instr.mapUpdate 104 (.map (some w.heap.size)) (.string k) (.int .u64 z2)).run Try.prog (wr.alloc (.cells #[.string k, .int .u64 cc] 38)) = .ok () w5 := hup0
          have HM5 := Lib.hid hM5
          have HF5 := Lib.hid ((Fr.alloc (Fr.refl [] wr) (.cells #[.string k, .int .u64 cc] 38)).mono (T := [w.heap.size]) (by simp) |>.trans hF5)
          have hb := Blk.new wr #[.string k, .int .u64 cc] 38
          have hbc := hb.cell
          have hbl5 := hb.lt
          clear g5 hMa hz hup0 hM5 hF5 hj0 hb
          go_wp2
          go_roundw
          case rel =>
            refine ⟨j + 1, by omega, by go_num, Lib.hid (ranges_fr HRX.out HF5.out (by simp; omega) (by simp; omega)), Lib.hid HM5.out, Lib.hid ?_, by have := HF5.out.size; omega⟩
            exact ((HFX.out.mono (T := [w.heap.size]) (by simp)).trans HF5.out).weaken (by intro z hz; simp at hz; subst hz; right; omega)
          case measure => simp [intOf]; omega
        · obtain rfl : j = tot.length := by omega
          go_wp2
          go_roundw
          case rel =>
            refine ⟨_, cnt1, vis ++ [(nm, slc, tot, num)], rest', nn + tot.length, HRX, HVI, by omega, Lib.hid ?_, HFX, hsx⟩
            have := HMX.out
            rw [List.take_length] at this
            rw [show tots (vis ++ [(nm, slc, tot, num)]) = tots vis ++ [tot] by simp, allF_snoc]
            exact this
          case measure => rw [HRX.out.left_eq, HRG.out.left_eq]; exact HLT.out
end Go.Proofs.Ytmilnhicmeblhaa
