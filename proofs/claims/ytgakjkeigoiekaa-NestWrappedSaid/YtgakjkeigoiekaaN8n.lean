/- Chapter 8: the walk of the law NestWrapped. -/
import Derived.Test.YtgakjkeigoiekaaN8m
namespace Go.Proofs.Ytgakjkeigoiekaa
set_option linter.unusedVariables false
set_option linter.unusedSimpArgs false
open Go.RowKit

theorem MatchWn (a : Option Addr) (n c : Nat) (l : List OpD) (w : World) (M : List Int) (hn : n = l.length) (hw : well l = true) (hM : matchL l = M) (h : At w a l) (hl : n ≤ 1000000) :
    Calls Try.prog 24 #[.slice a n c] w fun e w' => ∃ a' c', e = .returned (.tuple #[.slice a' n c', .int .i64 0]) ∧ Own w' w.heap.size 3 a' c' M ∧ Below w.heap.size w w' := by
  subst hn hM
  exact MatchW a c l w h hl hw
theorem MatchNn (a : Option Addr) (n c : Nat) (l : List OpD) (w : World) (hn : n = l.length) (hw : well l = false) (h : At w a l) (hl : n ≤ 1000000) :
    Calls Try.prog 24 #[.slice a n c] w fun e w' => ∃ a' c', e = .returned (.tuple #[.slice a' 0 c', .int .i64 6]) ∧ Below w.heap.size w w' := by
  subst hn
  exact MatchN a c l w h hl hw
theorem MatchRn (a : Option Addr) (n c : Nat) (l : List OpD) (w : World) (R : List Int × Int) (hn : n = l.length) (hR : matchS l = R) (h : At w a l) (hl : n ≤ 1000000) :
    Calls Try.prog 24 #[.slice a n c] w fun e w' => ∃ a' c', e = .returned (.tuple #[.slice a' R.1.length c', .int .i64 R.2]) ∧ Own w' w.heap.size 3 a' c' R.1 ∧ Below w.heap.size w w' := by
  subst hn
  exact MatchR a c l w R hR h hl
theorem InsideRn (a : Option Addr) (n c : Nat) (l x : List OpD) (w : World) (hn : n = l.length) (hR : insideS l 0 = (x, 0)) (h : At w a l) (hc : n ≤ c) (hl : n ≤ 1000000) :
    Calls Try.prog 33 #[.slice a n c, .int .i64 0] w fun e w' => ∃ a' c', e = .returned (.tuple #[.slice a' x.length c', .int .i64 0]) ∧ Own w' w.heap.size 67 a' c' x ∧ Below w.heap.size w w' := by
  subst hn
  exact InsideR a c l 0 w (x, 0) hR h hc hl (by omega) (by omega)


set_option maxRecDepth 100000 in
set_option maxHeartbeats 3200000 in
theorem NestWrapped_calls (a : Option Addr) (ca : Nat) (l : List OpD) (v : UInt64) (w : World) (h : At w a l) :
    Calls Try.prog 9 #[.slice a l.length ca, .int .u64 (v.toNat : Int)] w fun e w' => e = .returned (.bool true) ∧ Below w.heap.size w w' := by
  by_cases hl : l.length ≤ 200
  rotate_left
  · go_enter Try.func9, Try.ntmps9
    go_wp2_with (go_at_call 23; (with_reducible refine (goes8_calls _).mono ?_); rintro e w8 ⟨rfl, hbel8⟩)
    go_ret
    exact ⟨rfl, hbel8⟩
  obtain ⟨W1, hW1⟩ : ∃ b, b = well l := ⟨_, rfl⟩
  have HW1 := hide hW1
  clear hW1
  have hc1 : W1 = true ∨ W1 = false := by cases W1 <;> simp
  rcases hc1 with rfl | rfl
  rotate_left
  · obtain ⟨R, hR⟩ : ∃ R, matchS (wrapped v l) = R := ⟨_, rfl⟩
    have HR := hide hR
    clear hR
    go_enter Try.func9, Try.ntmps9
    go_wp2_with (first
      | (at_builtin; first
          | (refine wpList_push tyO hown4 ⟨0, 0, 0, 0, 0⟩ rfl rfl rfl rfl rfl rfl (by simp; omega) hz4 (by omega) ?_; intro a5 c5 w5 hown5 hg5 _; have hB5 := below_push hB4 hown4 hg5 hz4; have hz5 := hB5.size; have h5 := h.belowN hB5; have hc5 : l.length + 2 ≤ c5 := (by have := hown5.cap.1; simp at this; omega))
          | (refine wpList_pushAll tyO (Own.lit w (Nat.le_refl _) 67 #[.int .i64 7, .int .i64 0, .int .i64 0, .int .i64 0, .int .u64 (v.toNat : Int)] [(⟨7, 0, 0, 0, v⟩ : OpD)] rfl (by simp)) (l2 := l) (h.belowN (Below.alloc (Below.refl _ _) (Nat.le_refl _) _)) rfl rfl rfl rfl rfl rfl (by simp) (by omega) (by omega) ?_; intro a4 c4 w4 hown4 hg4 _; have hB4 := below_push (Below.alloc (Below.refl w.heap.size w) (Nat.le_refl _) _) (Own.lit w (Nat.le_refl _) 67 #[.int .i64 7, .int .i64 0, .int .i64 0, .int .i64 0, .int .u64 (v.toNat : Int)] [(⟨7, 0, 0, 0, v⟩ : OpD)] rfl (by simp)) hg4 (by simp); have hz4 := hB4.size))
      | (go_at_call 24; first
          | ((with_reducible refine (MatchRn _ _ _ (wrapped v l) _ R (by simp [wrapped]; omega) HR.out (hown5.belowN hbel6).at_ (by omega)).mono ?_); rintro e w7 ⟨a7, c7, rfl, hown7, hbel7⟩; have hB7 := hB6.trans (hbel7.mono hz6); have hz7 := hB7.size)
          | ((with_reducible refine (MatchNn a _ ca l _ rfl HW1.out.symm h5 (by omega)).mono ?_); rintro e w6 ⟨a6, c6, rfl, hbel6⟩; have hB6 := hB5.trans (hbel6.mono hz5); have hz6 := hB6.size))
      | (go_at_call 23; (with_reducible refine (goes8_calls _).mono ?_); rintro e w8 ⟨rfl, hbel8⟩))
    go_ret
    exact ⟨rfl, hB7.trans (hbel8.mono hz7)⟩
  obtain ⟨M, hM⟩ : ∃ M, matchL l = M := ⟨_, rfl⟩
  obtain ⟨D, hD⟩ : ∃ D, deepL l = D := ⟨_, rfl⟩
  have hMl : M.length = l.length := by rw [← hM, matchL_length]
  have hDl : D ≤ 200 := by have := deepL_le l; omega
  have hmw := match_wrapped v l HW1.out.symm
  have hdw := deep_wrapped v l HW1.out.symm
  have hiw := inside_wrapped v l HW1.out.symm
  have hww := well_wrapped v l HW1.out.symm
  have hlt : ∀ z ∈ M, -1 ≤ z ∧ z < 200 := fun z hz => ⟨matchL_ge l HW1.out.symm z (by rw [hM]; exact hz), by have := matchL_lt l HW1.out.symm z (by rw [hM]; exact hz); omega⟩
  rw [hM] at hmw
  rw [hD] at hdw
  have HM := hide hM
  have HD := hide hD
  have HML := hide hMl
  have HMW := hide hmw
  have HDW := hide hdw
  have HIW := hide hiw
  have HWW := hide hww
  have HLT := hide hlt
  clear hM hD hMl hmw hdw hiw hww hlt
  go_enter Try.func9, Try.ntmps9
  go_wp2_with (first
      | (at_builtin; first
          | (refine wpList_push tyO hown4 ⟨0, 0, 0, 0, 0⟩ rfl rfl rfl rfl rfl rfl (by simp; omega) hz4 (by omega) ?_; intro a5 c5 w5 hown5 hg5 _; have hB5 := below_push hB4 hown4 hg5 hz4; have hz5 := hB5.size; have h5 := h.belowN hB5; have hc5 : l.length + 2 ≤ c5 := (by have := hown5.cap.1; simp at this; omega))
          | (refine wpList_pushAll tyO (Own.lit w (Nat.le_refl _) 67 #[.int .i64 7, .int .i64 0, .int .i64 0, .int .i64 0, .int .u64 (v.toNat : Int)] [(⟨7, 0, 0, 0, v⟩ : OpD)] rfl (by simp)) (l2 := l) (h.belowN (Below.alloc (Below.refl _ _) (Nat.le_refl _) _)) rfl rfl rfl rfl rfl rfl (by simp) (by omega) (by omega) ?_; intro a4 c4 w4 hown4 hg4 _; have hB4 := below_push (Below.alloc (Below.refl w.heap.size w) (Nat.le_refl _) _) (Own.lit w (Nat.le_refl _) 67 #[.int .i64 7, .int .i64 0, .int .i64 0, .int .i64 0, .int .u64 (v.toNat : Int)] [(⟨7, 0, 0, 0, v⟩ : OpD)] rfl (by simp)) hg4 (by simp); have hz4 := hB4.size))
      | (go_at_call 24; first
          | ((with_reducible refine (MatchWn _ _ _ (wrapped v l) _ _ (by simp [wrapped]; omega) HWW.out HMW.out hown6.at_ (by omega)).mono ?_); rintro e w7 ⟨a7, c7, rfl, hown7, hbel7⟩; have hB7 := hB6.trans (hbel7.mono hz6); have hz7 := hB7.size; have h7 := h6.belowN hbel7; have hO7 := hown6.belowN hbel7; have hm7 := (hMa.belowN hbel7).at_; have hn7 := hown7.at_; obtain ⟨g7, rfl, hg7, hg7'⟩ := hown7.some_ (by simp); have p0 := hn7.one 0 _ rfl 0 _ rfl; have p1 := hn7.one (l.length + 1) 0 (by rw [List.getElem?_cons_succ, List.getElem?_append_right (by simp [HML.out])]; simp [HML.out]) 0 _ rfl; simp only [Flat.n, Nat.add_zero, Nat.mul_one] at p0 p1)
          | ((with_reducible refine (MatchWn a _ ca l _ M rfl HW1.out.symm HM.out h5 (by omega)).mono ?_); rintro e w6 ⟨a6, c6, rfl, hMa, hbel6⟩; have hB6 := hB5.trans (hbel6.mono hz5); have hz6 := hB6.size; have h6 := h5.belowN hbel6; have hown6 := hown5.belowN hbel6)))
  go_loopw [10] (fun i wr => ∃ k : Nat, k ≤ l.length ∧ i = .int .i64 k ∧ ∃ q, wr = w7.drewN q) (fun i _ => l.length - (intOf i).toNat)
  case atStart => exact ⟨0, by omega, rfl, ⟨0, rfl⟩⟩
  case round =>
    obtain ⟨k, hk, rfl, q, rfl⟩ := hrel
    by_cases hlt : k < l.length
    · obtain ⟨b1, off1, y, rfl, hy, y0⟩ := hm7.getI (Below.refl _ _) (show k < M.length by rw [HML.out]; exact hlt)
      have hz0 := hn7.one (k + 1) (if y < 0 then y else y + 1) (by rw [List.getElem?_cons_succ, List.getElem?_append_left (by simp [HML.out]; exact hlt), List.getElem?_map, hy.out]; rfl) 0 _ rfl
      simp only [Flat.n, Nat.add_zero, Nat.mul_one] at hz0
      obtain ⟨v1, v2⟩ := HLT.out y (List.mem_of_getElem? hy.out)
      by_cases hy0 : y < 0
      · obtain rfl : y = -1 := by omega
        rw [if_pos (by omega)] at hz0
        have hd1 : decide ((0 : Int) ≤ -1) = false := by decide
        clear hy hy0
        go_wp2_with fail
        go_quiet (fail)
        go_wp2
        go_roundw
        case rel => exact ⟨k + 1, by omega, by go_num, ⟨_, rfl⟩⟩
        case measure => simp [intOf]; omega
      · rw [if_neg hy0] at hz0
        have hy1 : 0 ≤ y := by omega
        have hd2 : decide (y < 0) = false := by simpa using hy0
        clear hy hy0
        go_wp2_with fail
        go_quiet (fail)
        go_wp2
        go_roundw
        case rel => exact ⟨k + 1, by omega, by go_num, ⟨_, rfl⟩⟩
        case measure => simp [intOf]; omega
    · obtain ⟨w8, hw8⟩ : ∃ w8, w8 = w7.drewN q := ⟨_, rfl⟩
      have h8 := h7.drewN q
      have hO8 := hO7.drewN q
      have hB8 := below_drewN hB7 q
      have hz8 := hB8.size
      rw [← hw8] at *
      clear hw8
      go_wp2_with (first
        | (go_at_call 26; first
            | ((with_reducible refine (DeepWn _ _ _ (wrapped v l) _ _ (by simp [wrapped]; omega) HWW.out HDW.out hO9.at_ (by omega)).mono ?_); rintro e w10 ⟨rfl, hbel10⟩; have hB10 := hB9.trans (hbel10.mono hz9); have hz10 := hB10.size; have h10 := h9.belowN hbel10; have hO10 := hO9.belowN hbel10)
            | ((with_reducible refine (DeepWn a _ ca l _ D rfl HW1.out.symm HD.out h8 (by omega)).mono ?_); rintro e w9 ⟨rfl, hbel9⟩; have hB9 := hB8.trans (hbel9.mono hz8); have hz9 := hB9.size; have h9 := h8.belowN hbel9; have hO9 := hO8.belowN hbel9))
        | (go_at_call 33; go_loud (with_reducible refine (InsideRn _ _ _ (wrapped v l) l _ (by simp [wrapped]; omega) HIW.out hO10.at_ (by omega) (by omega)).mono ?_); rintro e w11 ⟨a11, c11, rfl, hown11, hbel11⟩; have hB11 := hB10.trans (hbel11.mono hz10); have hz11 := hB11.size; have h11 := h10.belowN hbel11; have hx11 := hown11.at_)
        | (go_at_call 35; (with_reducible refine (Ops8_calls _ _ _ _ l _ hx11 h11 (by omega)).mono ?_); rintro e w12 ⟨rfl, q12, rfl⟩)
        | (go_at_call 23; (with_reducible refine (goes8_calls _).mono ?_); rintro e w13 ⟨rfl, hbel13⟩))
      go_ret
      exact ⟨rfl, (below_drewN hB11 _).trans (hbel13.mono (by simp; omega))⟩
end Go.Proofs.Ytgakjkeigoiekaa
