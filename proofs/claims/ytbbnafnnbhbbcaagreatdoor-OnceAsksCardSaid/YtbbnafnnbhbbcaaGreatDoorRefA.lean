/- The reference's Ask and Asks. -/
import Derived.Test.YtbbnafnnbhbbcaaGreatDoorRefN
import Derived.Test.YtbbnafnnbhbbcaaGreatDoorSv
namespace Go.Proofs.YtbbnafnnbhbbcaaGreatDoor
open Go.RowKit Go.Maps
set_option maxRecDepth 100000
set_option linter.unusedVariables false
set_option linter.unusedSimpArgs false
set_option maxHeartbeats 4000000
theorem ba_ne {a b : ByteArray} (h : ¬ a = b) : ¬ a.toList = b.toList := by
  intro e
  rw [ByteArray.toList_eq, ByteArray.toList_eq] at e
  apply h
  cases a; cases b
  exact congrArg _ (Array.toList_inj.1 e)
theorem ba_beq {a b : ByteArray} (h : ¬ a = b) : (a.toList == b.toList) = false := by simpa using ba_ne h
theorem place_first {l : List (ByteArray × Int)} {s : ByteArray} {j : Nat} {k : Int} (h : l[j]? = some (s, k)) (hb : ∀ i, i < j → ∀ a, l[i]? = some a → a.1 ≠ s) : placeF l s = some j := by
  unfold placeF
  obtain ⟨hj, he⟩ := List.getElem?_eq_some_iff.1 h
  rw [List.findIdx?_eq_some_iff_getElem]
  refine ⟨hj, by simp [he], fun i hi => ?_⟩
  have := hb i hi l[i] (List.getElem?_eq_getElem (by omega))
  simpa using this
theorem place_no {l : List (ByteArray × Int)} {s : ByteArray} (hb : ∀ i, i < l.length → ∀ a, l[i]? = some a → a.1 ≠ s) : placeF l s = none := by
  unfold placeF
  rw [List.findIdx?_eq_none_iff]
  intro a ha
  obtain ⟨i, hi, rfl⟩ := List.getElem_of_mem ha
  have := hb i hi l[i] (List.getElem?_eq_getElem hi)
  simpa using this
/-- What the reference's Ask leaves. -/
def AskPost (base : Nat) (l : List (ByteArray × Int)) (s : ByteArray) (k : Int) (w : World) (e : Ending) (w' : World) : Prop :=
  ∃ l' n f y v', askF l s k = (l', n, f, y) ∧ e = .returned (.tuple #[v', .int .i64 n, .bool f, .int .i64 y]) ∧ SV w' base 2 v' l'.length (flat l') ∧ Fr [] w w'
theorem AskPost.mk {base : Nat} {l : List (ByteArray × Int)} {s : ByteArray} {k : Int} {w w' : World} {l' : List (ByteArray × Int)} {n : Int} {f : Bool} {y : Int} {v' : Value} (h1 : askF l s k = (l', n, f, y)) (h2 : SV w' base 2 v' l'.length (flat l')) (h3 : Fr [] w w') :
    AskPost base l s k w (.returned (.tuple #[v', .int .i64 n, .bool f, .int .i64 y])) w' := ⟨l', n, f, y, v', h1, rfl, h2, h3⟩
theorem rask_any (base : Nat) (v : Value) (l : List (ByteArray × Int)) (s : ByteArray) (k : Int) (w : World) (hS : SV w base 2 v l.length (flat l)) (hn : l.length ≤ 4096) (hb : base ≤ w.heap.size) :
    Calls Tryz.prog 7 #[v, .agg #[.string s, .int .u8 k]] w (AskPost base l s k w) := by
  have hB := Blk.new w #[.string s, .int .u8 k] 31
  have hF : Fr [] w (w.alloc (.cells #[.string s, .int .u8 k] 31)) := (Fr.refl _ _).alloc _
  have HS := Lib.hid hS
  by_cases hnm : nameF s = true
  · by_cases hk : k ≤ 0 ∨ 6 ≤ k
    · have e : askF l s k = (l, 0, false, 132) := by
        have hr : rightF s k = 132 := by unfold rightF; rw [if_pos hnm, if_pos hk]
        unfold askF
        rw [hr]
        rfl
      have hk' : k < 1 ∨ 5 < k := by omega
      have HN := Lib.hid hnm
      clear hk hS hnm
      rcases hk' with hk | hk
      all_goals
        go_enter Tryz.func7, Tryz.ntmps7
        go_wp2_with ((go_at_call 17); (with_reducible refine (rname_any _ _).mono ?_); rintro e w1 ⟨rfl, rfl⟩; have hnm := HN.out)
        refine bodyPost_ret (v := .tuple #[v, .int .i64 0, .bool false, .int .i64 132]) (by simp [results, Tryz.results7, go_sem]) rfl ?_
        exact AskPost.mk e (HS.out.fr0 hF) hF
    · have hr : rightF s k = 0 := by unfold rightF; rw [if_pos hnm, if_neg hk]
      have hk1 : 1 ≤ k := by omega
      have hk5 : k ≤ 5 := by omega
      clear hk
      obtain ⟨va, vc, rfl⟩ := hS.at_
      clear hS
      have HN := Lib.hid hnm
      clear hnm
      go_enter Tryz.func7, Tryz.ntmps7
      go_wp2_with ((go_at_call 17); (with_reducible refine (rname_any _ _).mono ?_); rintro e w1 ⟨rfl, rfl⟩; have hnm := HN.out)
      go_loopw [27] (fun u wr => ∃ j : Nat, j ≤ l.length ∧ u = .int .i64 j ∧ (∀ i, i < j → ∀ a, l[i]? = some a → a.1 ≠ s) ∧ Fr [] (w.alloc (.cells #[.string s, .int .u8 k] 31)) wr) (fun u _ => l.length - (intOf u).toNat)
      case atStart => exact ⟨0, by omega, rfl, fun i hi => by omega, Fr.refl _ _⟩
      case round =>
        obtain ⟨j, hj, rfl, hno, hFr⟩ := hrel
        have HNO := Lib.hid hno
        clear hno
        have hBr := hFr.blk hB (by simp)
        have hBc := hBr.cell
        have hBl := hBr.lt
        by_cases hjl : j < l.length
        · obtain ⟨⟨sj, kj⟩, hj0⟩ : ∃ a, l[j]? = some a := ⟨_, List.getElem?_eq_getElem hjl⟩
          obtain ⟨g, o, c, he, g1, g2, g3, g4, g5⟩ := ((HS.out.fr0 hF).fr0 hFr).cells (by omega)
          simp only [Value.slice.injEq] at he
          obtain ⟨rfl, -, rfl⟩ := he
          have gk0 := g5 (j * 2) _ (flat_get l j _ hj0).1
          have gk1 := g5 (j * 2 + 1) _ (flat_get l j _ hj0).2
          rw [← Nat.add_assoc] at gk1
          clear g5
          have HJ := Lib.hid hj0
          clear hj0
          have h2c := (hBr.alloc (.cells #[.string sj, .int .u8 kj] 31)).cell
          by_cases hsj : sj = s
          · subst hsj
            by_cases hkj : kj = k
            · subst hkj
              go_wp2
              refine bodyPost_ret (v := .tuple #[.slice (some ⟨g, o, none⟩) l.length vc, .int .i64 j, .bool false, .int .i64 0]) (by simp [results, Tryz.results7, go_sem]) rfl ?_
              refine AskPost.mk (l' := l) ?_ (((HS.out.fr0 hF).fr0 hFr).al _) ((hF.trans hFr).alloc _)
              unfold askF
              rw [if_pos hr, place_first HJ.out HNO.out]
              simp [HJ.out]
            · have hkj' : (kj != k) = true := by simpa using hkj
              go_wp2
              refine bodyPost_ret (v := .tuple #[.slice (some ⟨g, o, none⟩) l.length vc, .int .i64 0, .bool false, .int .i64 132]) (by simp [results, Tryz.results7, go_sem]) rfl ?_
              refine AskPost.mk (l' := l) ?_ (((HS.out.fr0 hF).fr0 hFr).al _) ((hF.trans hFr).alloc _)
              unfold askF
              rw [if_pos hr, place_first HJ.out HNO.out]
              simp [HJ.out, hkj]
          · have hsj1 := ba_ne hsj
            have hsj2 := ba_beq hsj
            go_wp2
            go_roundw
            case rel =>
              refine ⟨j + 1, by omega, by go_num, ?_, hFr.alloc _⟩
              intro i hi a ha
              by_cases hij : i < j
              · exact HNO.out i hij a ha
              · obtain rfl : i = j := by omega
                rw [HJ.out] at ha
                cases ha
                exact hsj
            case measure => simp [intOf]; omega
        · obtain rfl : j = l.length := by omega
          have hp := place_no HNO.out
          by_cases hf : l.length = 4096
          · have hf1 : (4096 : Int) ≤ (l.length : Int) := by omega
            have HF := Lib.hid hf
            clear hf
            go_wp2
            refine bodyPost_ret (v := .tuple #[.slice va l.length vc, .int .i64 0, .bool false, .int .i64 3]) (by simp [results, Tryz.results7, go_sem]) rfl ?_
            refine AskPost.mk (l' := l) ?_ ((HS.out.fr0 hF).fr0 hFr) (hF.trans hFr)
            unfold askF
            rw [if_pos hr, hp]
            simp [HF.out]
          · have hf1 : ¬ (4096 : Int) ≤ (l.length : Int) := by omega
            have e : askF l s k = (l ++ [(s, k)], (l.length : Int), true, 0) := by
              unfold askF
              rw [if_pos hr, hp]
              simp [hf]
            clear hf
            obtain ⟨i0, hi0, hz0, hz1, hz2⟩ := info_parts infoA
            have hz := hFr.size
            have HFr := Lib.hid hFr
            have HE := Lib.hid e
            have HR := Lib.hid (((HS.out.fr0 hF).fr0 hFr).rd)
            clear hFr e hp hr
            go_wp2_with (first | (at_builtin; (refine wpList_append_svr _ rfl (.tmp 57) (.tmp 58) 22 rfl 31 i0 (.agg #[.string ByteArray.empty, .int .u8 0]) 2 24 Tryz.underlying22 hi0 hz0 hz1 hz2 rfl (by decide) wr.heap.size (.slice none 0 0) 0 [] rfl (SV.nil _ _ _) (Nat.le_refl _) _ l.length (flat l) rfl HR.out (flat_one l) ?_ ?_ ?_); (focus (unfold maxLen; omega)); (focus omega); intro v4 w4 hS4 hF4; simp only [Nat.zero_add, List.nil_append] at hS4; obtain ⟨va4, vc4, hv4⟩ := hS4.at_; subst hv4; have hB4 : Blk w4 w.heap.size #[.string s, .int .u8 k] 31 := (by refine hF4.blk hBr ?_; (simp [Value.ownBlock])); have hB4c := hB4.cell; have hB4l := hB4.lt) | (at_builtin; (refine wpList_append_sv _ rfl (.tmp 60) (.tmp 62) 22 rfl 31 i0 (.agg #[.string ByteArray.empty, .int .u8 0]) 2 24 Tryz.underlying22 hi0 hz0 hz1 hz2 rfl (by decide) wr.heap.size (.slice va4 l.length vc4) l.length (flat l) rfl ?_ ?_ ⟨w4.heap.size, 0, none⟩ 1 1 [.string s, .int .u8 k] rfl rfl (cells_of_blk (t := 31) (Blk.new _ _ _)) ?_ ?_ ?_ ?_); (focus (exact hS4.al _)); (focus (have := hF4.size; simp; omega)); (focus (simp [Value.oneCell'])); (focus (unfold maxLen; omega)); (focus omega); intro v5 w5 hS5 hF5; obtain ⟨va5, vc5, hv5⟩ := hS5.at_; subst hv5))
            refine bodyPost_ret (v := .tuple #[.slice va5 (l.length + 1) vc5, .int .i64 l.length, .bool true, .int .i64 0]) (by simp [results, Tryz.results7, go_sem]) rfl ?_
            have eq1 : flat l ++ [Value.string s, Value.int .u8 k] = flat (l ++ [(s, k)]) := by simp [flat]
            rw [eq1] at hS5
            refine AskPost.mk HE.out ?_ ?_
            · have h := hS5.base_le (base' := base) (by simp at hz; omega)
              simpa using h
            · have hO := hF4.size
              have hF45 : Fr [] wr w5 := by
                refine ((((Fr.refl [] wr).trans (hF4.mono (by simp [Value.ownBlock]))).alloc _).mono (T := (Value.slice va4 l.length vc4).ownBlock.toList) (by simp)).trans (by simpa using hF5) |>.weaken ?_
                intro z hz'
                rw [Option.mem_toList] at hz'
                have := hS4.own hz'
                exact .inr this.1
              exact (hF.trans HFr.out).trans hF45
  · have hnm' : nameF s = false := by simpa using hnm
    have e : askF l s k = (l, 0, false, 131) := by
      have hr : rightF s k = 131 := by unfold rightF; rw [if_neg hnm]
      unfold askF
      rw [hr]
      rfl
    have HN := Lib.hid hnm'
    clear hS hnm hnm'
    go_enter Tryz.func7, Tryz.ntmps7
    go_wp2_with ((go_at_call 17); (with_reducible refine (rname_any _ _).mono ?_); rintro e w1 ⟨rfl, rfl⟩; have hnm := HN.out)
    refine bodyPost_ret (v := .tuple #[v, .int .i64 0, .bool false, .int .i64 131]) (by simp [results, Tryz.results7, go_sem]) rfl ?_
    exact AskPost.mk e (HS.out.fr0 hF) hF
end Go.Proofs.YtbbnafnnbhbbcaaGreatDoor
