/- Names of a view, sorted. -/
import Derived.Test.YtbbnafnnbhbbcaaGreatDoorIter
import Derived.Sort.KeysCollected
import Derived.Sort.Walk0
namespace Go.Proofs.YtbbnafnnbhbbcaaGreatDoor
open Go.RowKit Go.Maps Go.Sort
open Go.Proofs.YtbbnafnnbhbbcaaGreatDoor.POnceAsks
set_option maxRecDepth 100000
set_option linter.unusedVariables false
set_option linter.unusedSimpArgs false
set_option maxHeartbeats 1000000
def bts (a : ByteArray) : List UInt8 := a.data.toList
theorem bts_inj {a b : ByteArray} (h : bts a = bts b) : a = b := by
  cases a; cases b
  exact congrArg _ (Array.toList_inj.1 h)
theorem ltS_iff (a b : ByteArray) : ltS a b = decide (bts a < bts b) := by
  unfold ltS bts
  rw [bytesLess_eq, ByteArray.toList_eq, ByteArray.toList_eq]
/-- What stands in the list of insertions. -/
theorem insF_perm (out : List S31) (a : S31) : (insF out a).Perm (a :: out) := by
  unfold insF
  have h := List.takeWhile_append_dropWhile (p := fun x : S31 => ltS x.f0 a.f0) (l := out)
  refine (List.Perm.append_right _ List.perm_append_comm).trans ?_
  show (a :: (List.takeWhile _ out ++ List.dropWhile _ out)).Perm _
  rw [h]
theorem fold_perm (l : List S31) : ∀ out, (l.foldl insF out).Perm (l ++ out) := by
  induction l with
  | nil => intro out; exact List.Perm.refl _
  | cons a l ih =>
    intro out
    refine (ih _).trans ?_
    refine (List.Perm.append_left l (insF_perm out a)).trans ?_
    exact List.perm_middle
abbrev LE (x y : S31) : Prop := bts x.f0 ≤ bts y.f0
theorem insF_sorted (out : List S31) (a : S31) (h : out.Pairwise LE) : (insF out a).Pairwise LE := by
  unfold insF
  have e := List.takeWhile_append_dropWhile (p := fun x : S31 => ltS x.f0 a.f0) (l := out)
  have h1 : ∀ x ∈ out.takeWhile (fun x => ltS x.f0 a.f0), LE x a := by
    intro x hx
    have := List.all_takeWhile (p := fun x : S31 => ltS x.f0 a.f0) (l := out)
    rw [List.all_eq_true] at this
    have := this x hx
    rw [ltS_iff] at this
    exact List.le_of_lt (by simpa using this)
  rw [← e] at h
  obtain ⟨p1, p2, p3⟩ := List.pairwise_append.1 h
  have h2 : ∀ y ∈ out.dropWhile (fun x => ltS x.f0 a.f0), LE a y := by
    cases hd : out.dropWhile (fun x => ltS x.f0 a.f0) with
    | nil => simp
    | cons b r =>
      have hb : ltS b.f0 a.f0 = false := by
        have := List.head_dropWhile_not (fun x : S31 => ltS x.f0 a.f0) (l := out) (by rw [hd]; simp)
        simpa [hd] using this
      rw [ltS_iff] at hb
      have hab : LE a b := List.not_lt.1 (by simpa using hb)
      rw [hd] at p2
      intro y hy
      rcases List.mem_cons.1 hy with rfl | hy
      · exact hab
      · exact List.le_trans hab ((List.pairwise_cons.1 p2).1 y hy)
  rw [List.append_assoc]
  refine List.pairwise_append.2 ⟨p1, ?_, ?_⟩
  · exact List.pairwise_cons.2 ⟨h2, p2⟩
  · intro x hx y hy
    rcases List.mem_cons.1 hy with rfl | hy
    · exact h1 x hx
    · exact p3 x hx y hy
theorem fold_sorted (l : List S31) : ∀ out, out.Pairwise LE → (l.foldl insF out).Pairwise LE := by
  induction l with
  | nil => intro out h; exact h
  | cons a l ih => intro out h; exact ih _ (insF_sorted out a h)
theorem sortF_perm (l : List (ByteArray × Int)) : (sortF l).Perm l := by
  unfold sortF
  have := (fold_perm (l.map toS) []).map ofS
  rw [List.append_nil] at this
  rw [of_to] at this
  exact this
theorem sortF_sorted (l : List (ByteArray × Int)) : ((sortF l).map (fun a => bts a.1)).Pairwise (fun x y => leB x y = true) := by
  unfold sortF
  rw [List.map_map]
  refine List.pairwise_map.2 ((fold_sorted (l.map toS) [] List.Pairwise.nil).imp ?_)
  intro x y h
  have h' : bts x.f0 ≤ bts y.f0 := h
  show leB (bts x.f0) (bts y.f0) = true
  unfold leB
  simpa using h'
/-- The lists of asks of which a registry speaks. -/
structure Good (l : List (ByteArray × Int)) : Prop where
  nd : (l.map (·.1)).Nodup
  sz : ∀ a ∈ l, a.1.size ≤ 64
theorem Good.nil : Good [] := ⟨by simp, by simp⟩
theorem nameF_sz {s : ByteArray} (h : nameF s = true) : s.size ≤ 64 := by
  unfold nameF at h
  simp at h
  omega
theorem Good.ask {l : List (ByteArray × Int)} (h : Good l) (s : ByteArray) (k : Int) : Good (askF l s k).1 := by
  unfold askF
  split
  · rename_i hr
    split
    · split <;> exact h
    · rename_i hp
      split
      · exact h
      · refine ⟨?_, ?_⟩
        · simp only [List.map_append, List.map_cons, List.map_nil]
          refine List.nodup_append.2 ⟨h.nd, by simp, ?_⟩
          intro a ha b hb hab
          simp at hb
          subst hb
          subst hab
          obtain ⟨x, hx, rfl⟩ := List.mem_map.1 ha
          unfold placeF at hp
          rw [List.findIdx?_eq_none_iff] at hp
          have := hp x hx
          simp at this
        · intro a ha
          rcases List.mem_append.1 ha with ha | ha
          · exact h.sz a ha
          · simp at ha
            subst ha
            refine nameF_sz ?_
            unfold rightF at hr
            by_cases hn : nameF s = true
            · exact hn
            · rw [if_neg hn] at hr; simp at hr
  · exact h
theorem place_some_iff (l : List (ByteArray × Int)) (s : ByteArray) : (placeF l s).isSome = true ↔ s ∈ l.map (·.1) := by
  unfold placeF
  rw [List.findIdx?_isSome]
  simp
theorem names_perm {w : World} {b n : Nat} {D : DataW Unit} {l : List (ByteArray × Int)} (ho : w.ownsMap Tryz.prog 9 ME b n D) (hD : MD D (placeF l)) (hg : Good l) : (l.map (fun a => bts a.1)).Perm (strKeys D) := by
  obtain ⟨es, hDe, hpw, _⟩ := ho.entries mlaw
  obtain ⟨es', hD', hko⟩ := ho.keysOf
  obtain rfl : es = es' := by rw [hDe] at hD'; simpa using hD'
  have hle := strKeys_le ho Tryz.underlying9
  subst hDe
  refine perm_strKeys hpw (fun p hp => by obtain ⟨v, hv⟩ := hko p hp; obtain ⟨x, _, hx, _⟩ := Maps.keyOf_str Tryz.underlying9 hv; exact ⟨x, hx⟩) ?_ ?_
  · have := hg.nd
    rw [show l.map (fun a => bts a.1) = (l.map (·.1)).map bts by simp [Function.comp_def]]
    exact List.pairwise_map.2 (this.imp (fun h e => h (bts_inj e)))
  · intro x
    by_cases hx : x.length ≤ maxLen
    · have hs : (⟨x.toArray⟩ : ByteArray).size ≤ maxLen := by simpa [ByteArray.size] using hx
      have := (hD ⟨x.toArray⟩ hs).1
      have ek : key (⟨x.toArray⟩ : ByteArray) = .string x := by simp [key]
      rw [ek] at this
      rw [this, place_some_iff]
      constructor
      · intro h
        obtain ⟨a, ha, e⟩ := List.mem_map.1 h
        refine List.mem_map.2 ⟨a, ha, bts_inj ?_⟩
        rw [e]; simp [bts]
      · intro h
        obtain ⟨a, ha, e⟩ := List.mem_map.1 h
        refine List.mem_map.2 ⟨a, ha, ?_⟩
        show bts a.1 = x
        rw [show a.1 = _ from e]; simp [bts]
    · constructor
      · intro h
        obtain ⟨a, ha, rfl⟩ := List.mem_map.1 h
        exfalso; apply hx
        have := hg.sz a ha
        show (bts a.1).length ≤ maxLen
        have e : (bts a.1).length = a.1.size := Array.length_toList
        unfold maxLen
        omega
      · intro h
        exfalso
        apply hx
        refine hle x ?_
        unfold Maps.has at h
        simp only [List.any_eq_true] at h
        obtain ⟨p, hp, hs⟩ := h
        obtain ⟨v, hv⟩ := hko p hp
        obtain ⟨y, _, hy, _⟩ := Maps.keyOf_str Tryz.underlying9 hv
        rw [hy] at hs
        have : y = x := by simpa [Lit.sameKey] using hs
        subst this
        exact List.mem_map.2 ⟨p, hp, by rw [hy]; rfl⟩
/-- What Names answers. -/
def namesV (l : List (ByteArray × Int)) : List Value := (sortF l).map fun a => .string a.1
theorem names_eq {ss : List (List UInt8)} {l : List (ByteArray × Int)} {D : DataW Unit} (h1 : ss.Perm (strKeys D)) (h2 : (l.map (fun a => bts a.1)).Perm (strKeys D)) :
    ss.mergeSort (fun x y => decide (x ≤ y)) = (sortF l).map (fun a => bts a.1) := by
  have e1 : ss.mergeSort leB = (l.map (fun a => bts a.1)).mergeSort leB := mergeSort_of_perm (h1.trans h2.symm)
  have e0 : (fun x y : List UInt8 => decide (x ≤ y)) = leB := by funext x y; rfl
  rw [e0, e1]
  have tr : ∀ a b c : List UInt8, leB a b = true → leB b c = true → leB a c = true := fun a b c h1 h2 => by simp only [leB, decide_eq_true_eq] at *; exact List.le_trans h1 h2
  have tl : ∀ a b : List UInt8, (leB a b || leB b a) = true := fun a b => by simp only [leB, Bool.or_eq_true, decide_eq_true_eq]; exact List.le_total a b
  refine List.Perm.eq_of_pairwise (le := fun a b => leB a b = true) (fun a b _ _ h1 h2 => ?_) (List.pairwise_mergeSort tr tl _) (sortF_sorted l) ((List.mergeSort_perm _ leB).trans ((sortF_perm l).map _).symm)
  simp only [leB, decide_eq_true_eq] at h1 h2
  exact List.le_antisymm h1 h2
theorem enc_bts (a : ByteArray) : encStr (bts a) = .string a := by
  cases a
  simp [encStr, bts]
theorem names_any (bv base : Nat) (l : List (ByteArray × Int)) (w : World) (h : VW w base bv l) (hg : Good l) :
    Calls Tryz.prog 29 #[.pointer (some ⟨bv, 0, none⟩)] w fun e w' => ∃ v', e = .returned v' ∧ SV w' w.heap.size 1 v' l.length (namesV l) ∧ Fr [] w w' := by
  have hlen := h.n
  obtain ⟨⟨sv, mv, h1, h2, h3⟩, h4, h5⟩ := h
  have hc := h1.cell
  have hl := h1.lt
  rcases h3 with ⟨rfl, hf⟩ | ⟨b, D, rfl, hb, ho, hD⟩
  · have hl0 : l = [] := by
      cases l with
      | nil => rfl
      | cons a l =>
        have := hf a.1
        have h2 := (place_some_iff (a :: l) a.1).2 (by simp)
        rw [this] at h2
        cases h2
    subst hl0
    go_enter Tryz.func29, Tryz.ntmps29
    go_wp2_with (first
      | (go_at_call 44; refine (callsIn_wide.1 (Tryz.maps_Keys_44 none _)).mono ?_; rintro e w1 ⟨rfl, rfl⟩)
      | (go_at_call 43; refine (callsIn_wide.1 (Tryz.slices_Sorted_keys_nil_43_44 w)).mono ?_; rintro e w2 ⟨v, ss, rfl, hS, hrow, hnil, hbel⟩))
    go_ret
    refine ⟨_, rfl, ?_, ((Fr.refl [] w).alloc _).trans (Fr.of_below hbel)⟩
    have := hnil.2 hS
    subst this
    exact SV.nil _ _ _
  · have hmax : Maps.size D ≤ maxLen := by have := ho.size_le; unfold maxLen; omega
    have hbytes : Maps.size D * 16 ≤ 140737488355328 := by have := ho.size_le; omega
    go_enter Tryz.func29, Tryz.ntmps29
    go_wp2_with (first
      | (go_at_call 44; refine (callsIn_wide.1 (Tryz.maps_Keys_44 (some b) _)).mono ?_; rintro e w1 ⟨rfl, rfl⟩)
      | (go_at_call 43; refine (callsIn_wide.1 (Tryz.slices_Sorted_keys_43_44 b _ D ME w ho hmax hbytes)).mono ?_; rintro e w2 ⟨v, ss, rfl, hS, hrow, hnil, hbel⟩))
    go_ret
    refine ⟨_, rfl, ?_, ((Fr.refl [] w).alloc _).trans (Fr.of_below hbel)⟩
    have hp := names_perm ho hD hg
    rw [names_eq hS hp] at hrow
    have hlen2 : ss.length = l.length := by
      have := (hS.trans hp.symm).length_eq
      simpa using this
    rw [hlen2] at hrow
    have e : ((sortF l).map (fun a => bts a.1)).map encStr = namesV l := by
      rw [List.map_map]
      unfold namesV
      congr 1
    rw [e] at hrow
    exact SV.of_owns hrow (by simp)
end Go.Proofs.YtbbnafnnbhbbcaaGreatDoor
