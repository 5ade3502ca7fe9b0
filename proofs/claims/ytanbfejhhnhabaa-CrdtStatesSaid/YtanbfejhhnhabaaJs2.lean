/- The package crdt: state. -/
import Derived.Shelf.SlIter.Nil
import Derived.Shelf.SortM.Plain
import Derived.Shelf.SortM.SortNone
import Derived.Ground.GgzProg
import Derived.Ground.SlgmProg
import Derived.Test.YtanbfejhhnhabaaProg
import Derived.Test.YtanbfejhhnhabaaJs1
/- Sorted keys of a map: the contracts of the library that the kit holds, laid at this translation. -/
namespace Go.Proofs.Ytanbfejhhnhabaa
open Go.RowKit Go.Maps Go.Sort Go.Shelf

def Try.keys57_ren : Go.Shelf.Ren := ⟨fun | 7 => 57 | 10 => 74 | n => n, fun | 23 => 68 | 26 => 9 | 3 => 33 | 28 => 96 | 0 => 0 | 27 => 95 | 33 => 67 | 4 => 4 | n => n, fun | n => n⟩
theorem Try.keys57 : Go.Proofs.SlLaysZ.n7 Try.prog Try.keys57_ren := {
  mixed := by kernel_rfl
  f7 := ⟨Try.f57.name, by decide, Try.func57.trans (congrArg some (by kernel_rfl))⟩
  f10 := ⟨Try.f74.name, by decide, Try.func74.trans (congrArg some (by kernel_rfl))⟩
  t0 := Try.underlying0
  a0 := Try.isAgg0
  z0 := Try.sizeOf0
  v0 := Try.zeroValue0
  t4 := Try.underlying4
  a4 := Try.isAgg4
  z4 := Try.sizeOf4
  v4 := Try.zeroValue4
  t23 := Try.underlying68
  a23 := Try.isAgg68
  z23 := Try.sizeOf68
  v23 := Try.zeroValue68
  t26 := Try.underlying9
  a26 := Try.isAgg9
  z26 := Try.sizeOf9
  v26 := Try.zeroValue9
  t27 := Try.underlying95
  a27 := Try.isAgg95
  z27 := Try.sizeOf95
  v27 := Try.zeroValue95
  t28 := Try.underlying96
  a28 := Try.isAgg96
  z28 := Try.sizeOf96
  v28 := Try.zeroValue96
  t33 := Try.underlying67
  a33 := Try.isAgg67
  z33 := Try.sizeOf67
  v33 := Try.zeroValue67 }
def Try.sorted56_ren : Go.Shelf.Ren := ⟨fun | 6 => 56 | 8 => 72 | 9 => 73 | 11 => 82 | 13 => 84 | 12 => 83 | 23 => 94 | 24 => 95 | 14 => 85 | 15 => 86 | 16 => 87 | 17 => 88 | 18 => 89 | 19 => 90 | 20 => 91 | 21 => 92 | 22 => 93 | 25 => 96 | 26 => 97 | 27 => 98 | 28 => 99 | 29 => 100 | 30 => 101 | 31 => 102 | n => n, fun | 26 => 9 | 28 => 96 | 24 => 53 | 0 => 0 | 3 => 3 | 37 => 111 | 48 => 71 | 50 => 31 | 4 => 4 | 40 => 121 | 39 => 120 | 45 => 126 | 5 => 5 | 9 => 9 | 51 => 130 | 55 => 134 | 57 => 136 | 58 => 137 | 33 => 67 | n => n, fun | n => n⟩
theorem Try.sorted56 : Go.Proofs.SlLaysZ.n6 Try.prog Try.sorted56_ren := {
  mixed := by kernel_rfl
  f6 := ⟨Try.f56.name, by decide, Try.func56.trans (congrArg some (by kernel_rfl))⟩
  f8 := ⟨Try.f72.name, by decide, Try.func72.trans (congrArg some (by kernel_rfl))⟩
  f11 := ⟨Try.f82.name, by decide, Try.func82.trans (congrArg some (by kernel_rfl))⟩
  t0 := Try.underlying0
  a0 := Try.isAgg0
  z0 := Try.sizeOf0
  v0 := Try.zeroValue0
  t24 := Try.underlying53
  a24 := Try.isAgg53
  z24 := Try.sizeOf53
  v24 := Try.zeroValue53
  t26 := Try.underlying9
  a26 := Try.isAgg9
  z26 := Try.sizeOf9
  v26 := Try.zeroValue9
  t28 := Try.underlying96
  a28 := Try.isAgg96
  z28 := Try.sizeOf96
  v28 := Try.zeroValue96
  i26 := by kernel_rfl }
def Try.sort73_ren : Go.Shelf.Ren := ⟨fun | 6 => 73 | 8 => 84 | 9 => 83 | 19 => 94 | 20 => 95 | 21 => 85 | 22 => 86 | 23 => 87 | 24 => 88 | 25 => 89 | 26 => 90 | 27 => 91 | 28 => 92 | 29 => 93 | 36 => 96 | 31 => 97 | 32 => 98 | 37 => 99 | 38 => 100 | 39 => 101 | 41 => 102 | n => n, fun | 27 => 53 | 29 => 9 | 3 => 3 | 32 => 111 | 26 => 53 | 0 => 0 | 44 => 71 | 46 => 31 | 4 => 4 | 36 => 121 | 35 => 120 | 41 => 126 | 5 => 5 | 9 => 9 | 53 => 130 | 57 => 134 | 63 => 136 | 64 => 137 | n => n, fun | n => n⟩
theorem Try.sort73 : Go.Proofs.SlLaysM.n6 Try.prog Try.sort73_ren := {
  mixed := by kernel_rfl
  f6 := ⟨Try.f73.name, by decide, Try.func73.trans (congrArg some (by kernel_rfl))⟩
  f8 := Try.func84.trans (congrArg some (by kernel_rfl))
  f9 := ⟨Try.f83.name, by decide, Try.func83.trans (congrArg some (by kernel_rfl))⟩
  f19 := Try.func94.trans (congrArg some (by kernel_rfl))
  f20 := Try.func95.trans (congrArg some (by kernel_rfl))
  f21 := ⟨Try.f85.name, by decide, Try.func85.trans (congrArg some (by kernel_rfl))⟩
  f22 := ⟨Try.f86.name, by decide, Try.func86.trans (congrArg some (by kernel_rfl))⟩
  f23 := ⟨Try.f87.name, by decide, Try.func87.trans (congrArg some (by kernel_rfl))⟩
  f24 := ⟨Try.f88.name, by decide, Try.func88.trans (congrArg some (by kernel_rfl))⟩
  f25 := ⟨Try.f89.name, by decide, Try.func89.trans (congrArg some (by kernel_rfl))⟩
  f26 := ⟨Try.f90.name, by decide, Try.func90.trans (congrArg some (by kernel_rfl))⟩
  f27 := ⟨Try.f91.name, by decide, Try.func91.trans (congrArg some (by kernel_rfl))⟩
  f28 := ⟨Try.f92.name, by decide, Try.func92.trans (congrArg some (by kernel_rfl))⟩
  f29 := ⟨Try.f93.name, by decide, Try.func93.trans (congrArg some (by kernel_rfl))⟩
  f31 := Try.func97.trans (congrArg some (by kernel_rfl))
  f32 := Try.func98.trans (congrArg some (by kernel_rfl))
  f36 := ⟨Try.f96.name, by decide, Try.func96.trans (congrArg some (by kernel_rfl))⟩
  f37 := ⟨Try.f99.name, by decide, Try.func99.trans (congrArg some (by kernel_rfl))⟩
  f38 := ⟨Try.f100.name, by decide, Try.func100.trans (congrArg some (by kernel_rfl))⟩
  f39 := ⟨Try.f101.name, by decide, Try.func101.trans (congrArg some (by kernel_rfl))⟩
  f41 := ⟨Try.f102.name, by decide, Try.func102.trans (congrArg some (by kernel_rfl))⟩
  t0 := Try.underlying0
  a0 := Try.isAgg0
  z0 := Try.sizeOf0
  v0 := Try.zeroValue0
  t3 := Try.underlying3
  a3 := Try.isAgg3
  z3 := Try.sizeOf3
  v3 := Try.zeroValue3
  t4 := Try.underlying4
  a4 := Try.isAgg4
  z4 := Try.sizeOf4
  v4 := Try.zeroValue4
  t5 := Try.underlying5
  a5 := Try.isAgg5
  z5 := Try.sizeOf5
  v5 := Try.zeroValue5
  t9 := Try.underlying9
  a9 := Try.isAgg9
  z9 := Try.sizeOf9
  v9 := Try.zeroValue9
  t26 := Try.underlying53
  a26 := Try.isAgg53
  z26 := Try.sizeOf53
  v26 := Try.zeroValue53
  t27 := Try.underlying53
  a27 := Try.isAgg53
  z27 := Try.sizeOf53
  v27 := Try.zeroValue53
  t29 := Try.underlying9
  a29 := Try.isAgg9
  z29 := Try.sizeOf9
  v29 := Try.zeroValue9
  t32 := Try.underlying111
  a32 := Try.isAgg111
  z32 := Try.sizeOf111
  v32 := Try.zeroValue111
  t35 := Try.underlying120
  a35 := Try.isAgg120
  z35 := Try.sizeOf120
  v35 := Try.zeroValue120
  t36 := Try.underlying121
  a36 := Try.isAgg121
  z36 := Try.sizeOf121
  v36 := Try.zeroValue121
  t41 := Try.underlying126
  a41 := Try.isAgg126
  z41 := Try.sizeOf126
  v41 := Try.zeroValue126
  t44 := Try.underlying71
  a44 := Try.isAgg71
  z44 := Try.sizeOf71
  v44 := Try.zeroValue71
  t46 := Try.underlying31
  a46 := Try.isAgg31
  z46 := Try.sizeOf31
  v46 := Try.zeroValue31
  t53 := Try.underlying130
  a53 := Try.isAgg130
  z53 := Try.sizeOf130
  v53 := Try.zeroValue130
  t57 := Try.underlying134
  a57 := Try.isAgg134
  z57 := Try.sizeOf134
  v57 := Try.zeroValue134
  t63 := Try.underlying136
  a63 := Try.isAgg136
  z63 := Try.sizeOf136
  v63 := Try.zeroValue136
  t64 := Try.underlying137
  a64 := Try.isAgg137
  z64 := Try.sizeOf137
  v64 := Try.zeroValue137 }
/-- slices.Sort's two contracts at this dump, at the fence that asks nothing. -/
theorem Try.sorts56 (m : Nat) : AnyZ.SortsIn Try.prog Try.sorted56_ren Fence.wide m :=
  ⟨fun blk off cap ss W hH hblk hsz => callsIn_wide.2 (AnyM.slices_Sort_string Try.sort73 blk off cap ss W hH hblk hsz),
   fun p cap W => callsIn_wide.2 (AnyM.slices_Sort_string_none Try.sort73 p cap W)⟩

/-- **maps.Keys[map[string]abacus/api.Node,string,abacus/api.Node], at whatever map, the nil one too:** a function value over ONE NEW BLOCK, which holds the map. -/
theorem Try.maps_Keys_57 (mb : Option Nat) (W : World) : CallsIn Fence.wide 5 Try.prog 57 #[.map mb] W fun e w' => e = .returned (.func (.func 74) #[] #[.pointer (some ⟨W.heap.size, 0, none⟩)]) ∧ w' = W.alloc (.cells #[.map mb] 68) :=
  AnyZ.keys_in Try.keys57 Fence.wide 5 trivial rfl mb W

set_option maxHeartbeats 1000000 in
/-- **slices.Sorted[string] AT WHAT maps.Keys[map[string]abacus/api.Node,string,abacus/api.Node] HANDED BACK FOR A MAP THAT IS NOT nil** ('w': the world AHEAD of maps.Keys' call): A NEW SLICE THAT HOLDS THE MAP's KEYS, SORTED; nil just where it has none; nothing that lay before has turned. -/
theorem Try.slices_Sorted_keys_56_57 {H : Type} (b nn : Nat) (D0 : DataW H) (R : Value → Option (DataW H × List MemPlace)) (w : World) (hown : w.ownsMap Try.prog 9 R b nn D0) (hmax : Maps.size D0 ≤ maxLen) (hbytes : Maps.size D0 * 16 ≤ 140737488355328) :
    CallsIn Fence.wide 5 Try.prog 56 #[.func (.func 74) #[] #[.pointer (some ⟨w.heap.size, 0, none⟩)]] (w.alloc (.cells #[.map (some b)] 68)) fun e w' => ∃ (v : Value) (ss : List (List UInt8)), e = .returned v ∧ ss.Perm (strKeys D0) ∧
      w'.ownsRow (w.alloc (.cells #[.map (some b)] 68)).heap.size 9 1 v ss.length ((ss.mergeSort (fun x y => decide (x ≤ y))).map encStr) ∧ (v = .slice none 0 0 ↔ ss = []) ∧ Below (w.alloc (.cells #[.map (some b)] 68)).heap.size (w.alloc (.cells #[.map (some b)] 68)) w' := by
  have hbl := hown.lt
  have hseq : SeqGives Fence.wide 2 Try.prog 74 #[.pointer (some ⟨w.heap.size, 0, none⟩)] encStr (fun ss => ss.Perm (strKeys D0)) (Maps.size D0) (w.alloc (.cells #[.map (some b)] 68)) :=
    AnyZ.keys_gives (ρ := Try.keys57_ren) { Try.keys57 with } Fence.wide _ trivial rfl (by omega) w.heap.size b nn D0 _ (by simp) (by simp) (by
      obtain ⟨es, clock, hb, Ft, hs, hD⟩ := hown
      exact ⟨es, clock, (Below.heap_alloc _ _ b hbl).trans hb, Ft, hs, hD⟩)
  exact AnyZ.sorted_in Try.sorted56 Fence.wide 5 trivial trivial trivial trivial rfl (by omega) (Try.sorts56 _) (enters_of Try.func73 (by kernel_rfl) rfl) 74 #[.pointer (some ⟨w.heap.size, 0, none⟩)] trivial (enters_of Try.func74 (by kernel_rfl) rfl) _ _ hmax hbytes _ hseq

set_option maxHeartbeats 1000000 in
/-- **.. AND FOR THE nil MAP: nil.** -/
theorem Try.slices_Sorted_keys_nil_56_57 (w : World) :
    CallsIn Fence.wide 5 Try.prog 56 #[.func (.func 74) #[] #[.pointer (some ⟨w.heap.size, 0, none⟩)]] (w.alloc (.cells #[.map none] 68)) fun e w' => ∃ (v : Value) (ss : List (List UInt8)), e = .returned v ∧ ss = [] ∧
      w'.ownsRow (w.alloc (.cells #[.map none] 68)).heap.size 9 1 v ss.length ((ss.mergeSort (fun x y => decide (x ≤ y))).map encStr) ∧ (v = .slice none 0 0 ↔ ss = []) ∧ Below (w.alloc (.cells #[.map none] 68)).heap.size (w.alloc (.cells #[.map none] 68)) w' := by
  have hseq : SeqGives Fence.wide 2 Try.prog 74 #[.pointer (some ⟨w.heap.size, 0, none⟩)] encStr (fun ss : List (List UInt8) => ss = []) 0 (w.alloc (.cells #[.map none] 68)) :=
    AnyZ.keys_gives_nil (ρ := Try.keys57_ren) { Try.keys57 with } Fence.wide _ trivial rfl w.heap.size _ (by simp) (by simp)
  exact AnyZ.sorted_in Try.sorted56 Fence.wide 5 trivial trivial trivial trivial rfl (by omega) (Try.sorts56 _) (enters_of Try.func73 (by kernel_rfl) rfl) 74 #[.pointer (some ⟨w.heap.size, 0, none⟩)] trivial (enters_of Try.func74 (by kernel_rfl) rfl) _ 0 (Nat.zero_le _) (by omega) _ hseq


end Go.Proofs.Ytanbfejhhnhabaa

/- The package crdt: nodes, state, value, has. -/
namespace Go.Proofs.Ytanbfejhhnhabaa
open Go.RowKit Go.Maps Go.Sort
set_option maxRecDepth 100000
set_option linter.unusedVariables false
set_option linter.unusedSimpArgs false
set_option maxHeartbeats 4000000
/-- The cells of nodes. -/
def flat3 (l : List Nd) : List Value := l.flatMap fun a => [.string a.1, .int .u64 a.2.1, .int .u64 a.2.2]
theorem flat3_len (l : List Nd) : (flat3 l).length = l.length * 3 := by
  induction l with
  | nil => rfl
  | cons a l ih => simp [flat3] at ih ⊢; omega
theorem flat3_app (a b : List Nd) : flat3 (a ++ b) = flat3 a ++ flat3 b := by simp [flat3]
theorem flat3_get (l : List Nd) (i : Nat) (a : Nd) (h : l[i]? = some a) : (flat3 l)[i * 3]? = some (.string a.1) ∧ (flat3 l)[i * 3 + 1]? = some (.int .u64 a.2.1) ∧ (flat3 l)[i * 3 + 2]? = some (.int .u64 a.2.2) := by
  induction l generalizing i with
  | nil => simp at h
  | cons b l ih =>
    cases i with
    | zero => simp at h; subst h; simp [flat3]
    | succ i =>
      have := ih i (by simpa using h)
      simp only [flat3, List.flatMap_cons] at this ⊢
      rw [show (i + 1) * 3 = (i * 3) + 3 by omega, show i * 3 + 3 + 1 = (i * 3 + 1) + 3 by omega, show i * 3 + 3 + 2 = (i * 3 + 2) + 3 by omega]
      rw [List.getElem?_append_right (by simp), List.getElem?_append_right (by simp), List.getElem?_append_right (by simp)]
      simpa using this
theorem flat3_one (l : List Nd) : ∀ u ∈ flat3 l, u.oneCell' = true := by
  intro u hu
  unfold flat3 at hu
  obtain ⟨a, _, h⟩ := List.mem_flatMap.1 hu
  simp at h
  rcases h with rfl | rfl | rfl <;> rfl
theorem infoN : (Try.prog.info? 33).map (fun i => (i.zero, i.size, i.bytes)) = some (some (ndV ByteArray.empty 0 0), 3, 32) := by kernel_rfl
theorem take_snoc {l : List Nd} {j : Nat} {a : Nd} (h : l[j]? = some a) : l.take (j + 1) = l.take j ++ [a] := by
  rw [List.take_add_one, h]; rfl
theorem putL_snoc {l : List Nd} {j : Nat} {a : Nd} (hs : Srt l) (h : l[j]? = some a) : putL (l.take j) a = l.take (j + 1) := by
  have hm : Srt (l.take (j + 1)) := hs.sublist (List.take_sublist _ _)
  refine Srt.ext (Srt.put (hs.sublist (List.take_sublist _ _)) a) hm (fun s => ?_)
  rw [lk_putL, take_snoc h]
  have hsn : Srt (l.take j ++ [a]) := by rw [← take_snoc h]; exact hm
  by_cases e : s = a.1
  · rw [if_pos e, e, lk_of_mem hsn (by simp)]
  · rw [if_neg e]
    have : ∀ l : List Nd, lk (l ++ [a]) s = lk l s := by
      intro l
      induction l with
      | nil => simp [lk, Ne.symm e]
      | cons x r ih => simp only [List.cons_append, lk, ih]
    rw [this]
/-- A read slice of nodes. -/
abbrev RN (w : World) (v : Value) (l : List Nd) : Prop := RD w 3 v l.length (flat3 l)
theorem nodes_any (v : Value) (l : List Nd) (w : World) (h : RN w v l) (hg : Good l) (hl : l.length < maxLen) :
    Calls Try.prog 38 #[v] w fun e w' => ∃ b, e = .returned (.map (some b)) ∧ NM w' b l.length l ∧ w.heap.size ≤ b ∧ Fr [] w w' := by
  obtain ⟨A, c, rfl⟩ := h.at_
  have H := Lib.hid h
  have hmm := @run_makeMap Try.prog
  have hl' := hl
  unfold maxLen at hl'
  clear h
  go_enter Try.func38, Try.ntmps38
  go_wp2
  go_loopw [9] (fun u wr => ∃ j : Nat, j ≤ l.length ∧ u = .int .i64 j ∧ NM wr w.heap.size j (l.take j) ∧ Fr [w.heap.size] (w.alloc (.map #[] 0)) wr) (fun u _ => l.length - (intOf u).toNat)
  case atStart => exact ⟨0, by omega, rfl, NM.made w _ rfl, Fr.refl _ _⟩
  case round =>
    obtain ⟨j, hj, rfl, hM, hF⟩ := hrel
    by_cases hjl : j < l.length
    · obtain ⟨⟨s, u, d⟩, hj0⟩ : ∃ a, l[j]? = some a := ⟨_, List.getElem?_eq_getElem hjl⟩
      have hFw : Fr [] w wr := (((Fr.refl [] w).alloc (.map #[] 0)).mono (by simp) |>.trans hF).weaken (by intro z hz; simp at hz; subst hz; exact .inr (Nat.le_refl _))
      obtain ⟨g, o, c', he, g1, g2, g3, g4⟩ := (H.out.fr0 hFw).cells (by omega)
      simp only [Value.slice.injEq] at he
      obtain ⟨rfl, -, rfl⟩ := he
      have k0 := g4 (j * 3) _ (flat3_get l j _ hj0).1
      have k1 := g4 (j * 3 + 1) _ (flat3_get l j _ hj0).2.1
      have k2 := g4 (j * 3 + 2) _ (flat3_get l j _ hj0).2.2
      rw [← Nat.add_assoc] at k1 k2
      have hsz : s.size ≤ maxLen := by have := hg.sz _ (List.mem_of_getElem? hj0); unfold maxLen; simp at this; omega
      have hput := putL_snoc hg.st hj0
      have hb := Blk.new wr #[.string s, .int .u64 u, .int .u64 d] 33
      obtain ⟨w2, hup, hM2, hF2⟩ := (hM.fr0 ((Fr.refl [] wr).alloc (.cells #[.string s, .int .u64 u, .int .u64 d] 33))).store s hsz u d (by omega)
      have hbc := hb.cell
      have hbl := hb.lt
      rw [hput] at hM2
      clear hput g4 hM hj0
      go_wp2
      go_roundw
      case rel => exact ⟨j + 1, by omega, by go_num, hM2, (hF.alloc _).trans hF2⟩
      case measure => simp [intOf]; omega
    · obtain rfl : j = l.length := by omega
      rw [List.take_length] at hM
      go_wp2
      go_ret
      exact ⟨_, rfl, hM, Nat.le_refl _, (((Fr.refl [] w).alloc (.map #[] 0)).mono (by simp) |>.trans hF).weaken (by intro z hz; simp at hz; subst hz; exact .inr (Nat.le_refl _))⟩
/-- What a state comes to. -/
def valL (l : List Nd) : Int := (l.map (fun a => a.2.1 - a.2.2)).sum
/-- Numbers that nodes may have. -/
def Bnd (l : List Nd) : Prop := ∀ a ∈ l, 0 ≤ a.2.1 ∧ a.2.1 ≤ 72057594037927936 ∧ 0 ≤ a.2.2 ∧ a.2.2 ≤ 72057594037927936
theorem valL_snoc (l : List Nd) (a : Nd) : valL (l ++ [a]) = valL l + (a.2.1 - a.2.2) := by simp [valL]
theorem valL_bd (l : List Nd) (h : Bnd l) : -(72057594037927936 * (l.length : Int)) ≤ valL l ∧ valL l ≤ 72057594037927936 * (l.length : Int) := by
  induction l with
  | nil => simp [valL]
  | cons a r ih =>
    have h1 := ih (fun x hx => h x (List.mem_cons_of_mem _ hx))
    have h2 := h a List.mem_cons_self
    have e : valL (a :: r) = (a.2.1 - a.2.2) + valL r := by simp [valL]
    rw [e, List.length_cons]
    omega
theorem value_any (v : Value) (l : List Nd) (w : World) (h : RN w v l) (hb : Bnd l) (hl : l.length ≤ 64) :
    Calls Try.prog 40 #[v] w fun e w' => e = .returned (.int .i64 (valL l)) ∧ Fr [] w w' := by
  obtain ⟨A, c, rfl⟩ := h.at_
  have H := Lib.hid h
  have HB := Lib.hid hb
  clear h hb
  go_enter Try.func40, Try.ntmps40
  go_wp2
  go_loopw [3, 8] (fun x u wr => ∃ j : Nat, j ≤ l.length ∧ u = .int .i64 j ∧ x = .int .i64 (valL (l.take j)) ∧ Fr [] w wr) (fun _ u _ => l.length - (intOf u).toNat)
  case atStart => exact ⟨0, by omega, rfl, rfl, Fr.refl _ _⟩
  case round =>
    obtain ⟨j, hj, rfl, rfl, hF⟩ := hrel
    by_cases hjl : j < l.length
    · obtain ⟨⟨s, u, d⟩, hj0⟩ : ∃ a, l[j]? = some a := ⟨_, List.getElem?_eq_getElem hjl⟩
      obtain ⟨g, o, c', he, g1, g2, g3, g4⟩ := (H.out.fr0 hF).cells (by omega)
      simp only [Value.slice.injEq] at he
      obtain ⟨rfl, -, rfl⟩ := he
      have k0 := g4 (j * 3) _ (flat3_get l j _ hj0).1
      have k1 := g4 (j * 3 + 1) _ (flat3_get l j _ hj0).2.1
      have k2 := g4 (j * 3 + 2) _ (flat3_get l j _ hj0).2.2
      rw [← Nat.add_assoc] at k1 k2
      have hbd := HB.out _ (List.mem_of_getElem? hj0)
      obtain ⟨hu0, hu1, hd0, hd1⟩ := hbd
      simp only at k0 k1 k2 hu0 hu1 hd0 hd1
      have hv := valL_bd (l.take j) (fun x hx => HB.out x (List.mem_of_mem_take hx))
      have hlt : (l.take j).length = j := by simp; omega
      rw [hlt] at hv
      obtain ⟨x, hx⟩ : ∃ x, x = valL (l.take j) := ⟨_, rfl⟩
      have hnew : valL (l.take (j + 1)) = x + (u - d) := by rw [take_snoc hj0, valL_snoc, hx]
      rw [← hx] at hv ⊢
      have hx1 : -4611686018427387904 ≤ x := by omega
      have hx2 : x ≤ 4611686018427387904 := by omega
      have HN := Lib.hid hnew
      have hb := Blk.new wr #[.string s, .int .u64 u, .int .u64 d] 33
      have hbc := hb.cell
      have hbl := hb.lt
      clear hx hnew g4 hj0 hv hlt
      go_wp2
      go_roundw
      case rel => exact ⟨j + 1, by omega, by go_num, by rw [HN.out], hF.alloc _⟩
      case measure => simp [intOf]; omega
    · obtain rfl : j = l.length := by omega
      rw [List.take_length]
      go_wp2
      go_ret
      exact ⟨rfl, hF⟩
/-- Has a state all of a node? -/
def hasL (l : List Nd) (x : Nd) : Bool := match lk l x.1 with | some p => decide (x.2.1 ≤ p.1) && decide (x.2.2 ≤ p.2) | none => false
theorem has_any (b n : Nat) (l : List Nd) (s : ByteArray) (u d : Int) (w : World) (h : NM w b n l) (hs : s.size ≤ maxLen) :
    Calls Try.prog 44 #[.map (some b), ndV s u d] w fun e w' => e = .returned (.bool (hasL l (s, u, d))) ∧ Fr [] w w' := by
  have hB := Blk.new w #[.string s, .int .u64 u, .int .u64 d] 33
  have hlk := (h.fr0 ((Fr.refl [] w).alloc (.cells #[.string s, .int .u64 u, .int .u64 d] 33))).look_ok s hs
  unfold hasL
  cases hl : lk l s with
  | none =>
    rw [lkV_none hl, hl] at hlk
    clear hl
    go_enter Try.func44, Try.ntmps44
    go_wp2
    go_ret
    exact ⟨rfl, by repeat' (first | (with_reducible exact Fr.refl _ _) | (with_reducible refine Fr.drew ?_) | (with_reducible refine Fr.drN ?_ _) | (with_reducible refine Fr.alloc ?_ _) | (with_reducible refine Fr.set ?_ ?_ _) | (left; simp; done) | (right; simp; done) | (right; simp; omega))⟩
  | some p =>
    obtain ⟨u', d'⟩ := p
    rw [lkV_some hl, hl] at hlk
    clear hl
    by_cases h1 : u ≤ u'
    · by_cases h2 : d ≤ d'
      · have e : (decide (u ≤ u') && decide (d ≤ d')) = true := by simp [h1, h2]
        simp only [e]
        clear e
        go_enter Try.func44, Try.ntmps44
        go_wp2
        go_ret
        exact ⟨rfl, by repeat' (first | (with_reducible exact Fr.refl _ _) | (with_reducible refine Fr.drew ?_) | (with_reducible refine Fr.drN ?_ _) | (with_reducible refine Fr.alloc ?_ _) | (with_reducible refine Fr.set ?_ ?_ _) | (left; simp; done) | (right; simp; done) | (right; simp; omega))⟩
      · have e : (decide (u ≤ u') && decide (d ≤ d')) = false := by simp [h1, h2]
        simp only [e]
        clear e
        go_enter Try.func44, Try.ntmps44
        go_wp2
        go_ret
        exact ⟨rfl, by repeat' (first | (with_reducible exact Fr.refl _ _) | (with_reducible refine Fr.drew ?_) | (with_reducible refine Fr.drN ?_ _) | (with_reducible refine Fr.alloc ?_ _) | (with_reducible refine Fr.set ?_ ?_ _) | (left; simp; done) | (right; simp; done) | (right; simp; omega))⟩
    · have e : (decide (u ≤ u') && decide (d ≤ d')) = false := by simp [h1]
      simp only [e]
      clear e
      go_enter Try.func44, Try.ntmps44
      go_wp2
      go_ret
      exact ⟨rfl, by repeat' (first | (with_reducible exact Fr.refl _ _) | (with_reducible refine Fr.drew ?_) | (with_reducible refine Fr.drN ?_ _) | (with_reducible refine Fr.alloc ?_ _) | (with_reducible refine Fr.set ?_ ?_ _) | (left; simp; done) | (right; simp; done) | (right; simp; omega))⟩
end Go.Proofs.Ytanbfejhhnhabaa

namespace Go.Proofs.Ytanbfejhhnhabaa
open Go.RowKit Go.Maps Go.Sort
set_option maxRecDepth 100000
set_option linter.unusedVariables false
set_option linter.unusedSimpArgs false
set_option maxHeartbeats 4000000
theorem SV.cells {w : World} {base size : Nat} {v : Value} {n : Nat} {xs : List Value} (h : SV w base size v n xs) (hn : 0 < n) : ∃ g o c, v = .slice (some ⟨g, o, none⟩) n c ∧ base ≤ g ∧ g < w.heap.size ∧ n ≤ c ∧ c ≤ maxLen ∧ (∀ j u, xs[j]? = some u → w.cell? ⟨g, o + j, none⟩ = some u) := by
  rcases h.2 with ⟨_, h2⟩ | ⟨g, o, c, h1, h2, h3, h4, h5, h6, _⟩
  · omega
  · exact ⟨g, o, c, h1, h2, h3, h4, h5, h6⟩
theorem cells_of_blk {W : World} {b : Nat} {xs : List Value} {t : TypeId} (h : Blk W b xs.toArray t) : ∀ j u, xs[j]? = some u → W.cell? ((⟨b, 0, none⟩ : Addr).add j) = some u := fun j u hj => by
  rw [show (⟨b, 0, none⟩ : Addr).add j = ⟨b, j, none⟩ by unfold Addr.add; split <;> simp_all, h.cell j]
  simpa using hj
/-- An own slice of nodes. -/
abbrev SN (w : World) (base : Nat) (v : Value) (l : List Nd) : Prop := SV w base 3 v l.length (flat3 l)
theorem SV.base_le {w : World} {base base' size : Nat} {v : Value} {n : Nat} {xs : List Value} (h : SV w base size v n xs) (hb : base' ≤ base) : SV w base' size v n xs := by
  obtain ⟨h1, h2⟩ := h
  refine ⟨h1, ?_⟩
  rcases h2 with h2 | ⟨g, o, c, e, k1, k2⟩
  · exact .inl h2
  · exact .inr ⟨g, o, c, e, Nat.le_trans hb k1, k2⟩
theorem own_fr {w wr w4 : World} {base size : Nat} {v : Value} {n : Nat} {xs : List Value} (h : Fr [] w wr) (hS : SV wr base size v n xs) (k : Fr v.ownBlock.toList wr w4) (hb : w.heap.size ≤ base) : Fr [] w w4 :=
  ((h.mono (by simp)).trans k).weaken (by intro z hz; rw [Option.mem_toList] at hz; have := (hS.own hz).1; right; omega)
theorem state_any (b n : Nat) (l : List Nd) (w : World) (h : NM w b n l) (hg : Good l) (hn : n ≤ 4096) (hl : l.length ≤ 4096) :
    Calls Try.prog 36 #[.map (some b)] w fun e w' => ∃ v, e = .returned v ∧ SN w' w.heap.size v l ∧ Fr [] w w' := by
  obtain ⟨D, ho, hD⟩ := h.ex
  have hmax : Maps.size D ≤ maxLen := by have := ho.size_le; unfold maxLen; omega
  have hbytes : Maps.size D * 16 ≤ 140737488355328 := by have := ho.size_le; omega
  have hp := names_perm ho hD hg
  have HP := Lib.hid hp
  have HM := Lib.hid h
  have HG := Lib.hid hg
  have HO := Lib.hid ho
  have hbl0 := h.lt
  clear h hp hD hg
  obtain ⟨i0, hi0, hz0, hz1, hz2⟩ := info_parts infoN
  go_enter Try.func36, Try.ntmps36
  go_wp2_with (first
    | (go_at_call 57; refine (callsIn_wide.1 (Try.maps_Keys_57 (some b) _)).mono ?_; rintro e w1 ⟨rfl, rfl⟩)
    | (go_at_call 56; refine (callsIn_wide.1 (Try.slices_Sorted_keys_56_57 b _ D NE w HO.out hmax hbytes)).mono ?_; rintro e w2 ⟨v, ss, rfl, hS, hrow, hnil, hbel⟩; have HF2 := Lib.hid (((Fr.refl [] w).alloc (.cells #[.map (some b)] 68)).trans (Fr.of_below hbel)); have hlen2 : ss.length = l.length := (by have := (hS.trans HP.out.symm).length_eq; simpa using this); have hr0 := hrow; rw [names_eq HG.out hS HP.out, hlen2] at hr0; have HK := Lib.hid (SV.of_owns (B := w.heap.size + 1) hr0 (by simp)); obtain ⟨ka, kc, hv⟩ := HK.out.at_; subst hv; clear hrow hr0 hnil hbel hS hlen2))
  have hz2' := HF2.out.size
  go_loopw [3, 10] (fun x u wr => ∃ j : Nat, j ≤ l.length ∧ u = .int .i64 j ∧ SN wr w2.heap.size x (l.take j) ∧ Fr [] w2 wr) (fun _ u _ => l.length - (intOf u).toNat)
  case atStart => exact ⟨0, by omega, rfl, SV.nil _ _ _, Fr.refl _ _⟩
  case round =>
    obtain ⟨j, hj, rfl, hX, hF⟩ := hrel
    have hlt : (l.take j).length = j := by simp; omega
    by_cases hjl : j < l.length
    · obtain ⟨⟨s, u, d⟩, hj0⟩ : ∃ a, l[j]? = some a := ⟨_, List.getElem?_eq_getElem hjl⟩
      obtain ⟨g, o, c', he, g1, g2, g3, g4, g5⟩ := ((HK.out.fr0 hF)).cells (by omega)
      simp only [Value.slice.injEq] at he
      obtain ⟨rfl, -, rfl⟩ := he
      have k0 := g5 j (.string s) (by simp [hj0, bts])
      have hsz : s.size ≤ maxLen := by have := HG.out.sz _ (List.mem_of_getElem? hj0); unfold maxLen; simp at this; omega
      have hM := (HM.out.fr0 HF2.out).fr0 hF
      have hlk := hM.look s hsz
      rw [lkV_some (lk_of_mem (x := (s, u, d)) HG.out.st (List.mem_of_getElem? hj0))] at hlk
      have hts := take_snoc hj0
      have hX2 : SV wr w2.heap.size 3 u3 j (flat3 (l.take j)) := by
        have h : SV wr w2.heap.size 3 u3 (l.take j).length (flat3 (l.take j)) := hX
        rwa [hlt] at h
      have HX := Lib.hid hX2
      obtain ⟨xa, xc, hx⟩ := hX2.at_
      subst hx
      clear hX2
      have HT := Lib.hid hts
      have hzr := hF.size
      clear g5 hM hX hts hj0
      go_wp2_with (at_builtin; (refine wpList_append_sv _ rfl (.tmp 14) (.tmp 18) 28 rfl 33 i0 (ndV ByteArray.empty 0 0) 3 32 Try.underlying28 hi0 hz0 hz1 hz2 rfl (by decide) w2.heap.size (.slice xa j xc) j (flat3 (l.take j)) ?_ ?_ ?_ ⟨wr.heap.size, 0, none⟩ 1 1 [.string s, .int .u64 u, .int .u64 d] rfl rfl (cells_of_blk (t := 33) (Blk.new _ _ _)) ?_ ?_ ?_ ?_); (focus rfl); (focus (exact HX.out.al _)); (focus (simp; omega)); (focus (simp [Value.oneCell'])); (focus (unfold maxLen; omega)); (focus omega); intro v4 w4 hS4 hF4)
      have eq1 : flat3 (l.take j) ++ [Value.string s, Value.int .u64 u, Value.int .u64 d] = flat3 (l.take (j + 1)) := by rw [HT.out, flat3_app]; rfl
      rw [eq1] at hS4
      have hl1 : (l.take (j + 1)).length = j + 1 := by simp; omega
      go_roundw
      case rel =>
        refine ⟨j + 1, by omega, by go_num, ?_, own_fr (hF.alloc _) (HX.out.al _) hF4 (Nat.le_refl _)⟩
        show SV _ _ _ _ _ _
        rw [hl1]
        exact hS4
      case measure => simp [intOf]; omega
    · obtain rfl : j = l.length := by omega
      rw [List.take_length] at hX
      have HX := Lib.hid hX
      clear hX
      go_wp2
      go_ret
      exact ⟨_, rfl, HX.out.base_le (by omega), HF2.out.trans hF⟩
end Go.Proofs.Ytanbfejhhnhabaa
