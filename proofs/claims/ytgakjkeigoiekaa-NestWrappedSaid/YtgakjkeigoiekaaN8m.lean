/- Chapter 8: the walks of the laws NestJoined and NestWrapped. -/
import Derived.Test.YtgakjkeigoiekaaN8l
namespace Go.Proofs.Ytgakjkeigoiekaa
set_option linter.unusedVariables false
set_option linter.unusedSimpArgs false
open Go.RowKit

theorem PartsWn (a : Option Addr) (n c : Nat) (l : List OpD) (w : World) (P : List (Int × Int)) (hn : n = l.length) (hw : well l = true) (hP : partsL l = P) (h : At w a l) (hl : n ≤ 1000000) :
    Calls Try.prog 29 #[.slice a n c] w fun e w' => ∃ a' c', e = .returned (.tuple #[.slice a' P.length c', .int .i64 0]) ∧ Own w' w.heap.size 57 a' c' P ∧ Below w.heap.size w w' := by
  subst hn hP
  exact PartsR a c l w (partsL l, 0) (by unfold partsS; rw [if_pos hw]) h hl
theorem PartsNn (a : Option Addr) (n c : Nat) (l : List OpD) (w : World) (hn : n = l.length) (hw : well l = false) (h : At w a l) (hl : n ≤ 1000000) :
    Calls Try.prog 29 #[.slice a n c] w fun e w' => ∃ a' c', e = .returned (.tuple #[.slice a' 0 c', .int .i64 6]) ∧ Below w.heap.size w w' := by
  subst hn
  refine (PartsR a c l w ([], 6) (by unfold partsS; rw [if_neg (by simp [hw])]) h hl).mono ?_
  rintro e w' ⟨a', c', rfl, h1, h2⟩
  exact ⟨a', c', rfl, h2⟩
theorem DeepWn (a : Option Addr) (n c : Nat) (l : List OpD) (w : World) (D : Nat) (hn : n = l.length) (hw : well l = true) (hD : deepL l = D) (h : At w a l) (hl : n ≤ 1000000) :
    Calls Try.prog 26 #[.slice a n c] w fun e w' => e = .returned (.tuple #[.int .i64 (D : Int), .int .i64 0]) ∧ Below w.heap.size w w' := by
  subst hn hD
  have := Deep_calls a c l w h hl
  rw [show deepS l = ((deepL l : Int), 0) by unfold deepS; rw [if_pos hw]] at this
  exact this
theorem deepL_le (l : List OpD) : deepL l ≤ l.length := by
  have := deepAt_le l l.length
  unfold deepAt at this
  rw [List.take_length] at this
  exact this

theorem run_neqP_same (w : World) (a b : Int) : (binOp .neq 57 (.agg #[.int .i64 a, .int .i64 b]) (.agg #[.int .i64 a, .int .i64 b])).run Try.prog w = .ok (.bool false) w := by
  rw [run_neqP]; simp
theorem partsT_bd (f : Fo) (o : Nat) : ∀ p ∈ partsT o f, 0 ≤ p.1 ∧ p.1 ≤ ((o + f.size : Nat) : Int) ∧ 0 ≤ p.2 ∧ p.2 ≤ ((o + f.size : Nat) : Int) := by
  induction f generalizing o with
  | nil => intro p h; simp [partsT] at h
  | leaf op r ih =>
    intro p h
    rw [Fo.size_leaf]
    simp only [partsT, List.mem_cons] at h
    rcases h with rfl | h
    · simp; omega
    · have := ih _ p h; omega
  | rep op b fin r _ ih =>
    intro p h
    rw [Fo.size_rep]
    simp only [partsT, List.mem_cons] at h
    rcases h with rfl | h
    · simp; omega
    · have := ih _ p h; omega
theorem parts_bd (l : List OpD) (hl : well l = true) : ∀ p ∈ partsL l, 0 ≤ p.1 ∧ p.1 ≤ l.length ∧ 0 ≤ p.2 ∧ p.2 ≤ l.length := by
  obtain ⟨f, hf, rfl⟩ := forest_of_well l hl
  rw [partsL_flat f hf]
  intro p hp
  have := partsT_bd f 0 p hp
  simpa [Fo.size] using this

set_option maxRecDepth 100000 in
set_option maxHeartbeats 3200000 in
theorem NestJoined_calls (a b : Option Addr) (ca cb : Nat) (l m : List OpD) (w : World) (h : At w a l) (hm : At w b m) :
    Calls Try.prog 7 #[.slice a l.length ca, .slice b m.length cb] w fun e w' => e = .returned (.bool true) ∧ Below w.heap.size w w' := by
  by_cases hl : l.length ≤ 100
  rotate_left
  · go_enter Try.func7, Try.ntmps7
    go_wp2_with (go_at_call 23; (with_reducible refine (goes8_calls _).mono ?_); rintro e w8 ⟨rfl, hbel8⟩)
    go_ret
    exact ⟨rfl, hbel8⟩
  by_cases hml : m.length ≤ 100
  rotate_left
  · go_enter Try.func7, Try.ntmps7
    go_wp2_with (go_at_call 23; (with_reducible refine (goes8_calls _).mono ?_); rintro e w8 ⟨rfl, hbel8⟩)
    go_ret
    exact ⟨rfl, hbel8⟩
  obtain ⟨W1, hW1⟩ : ∃ b, b = well l := ⟨_, rfl⟩
  obtain ⟨W2, hW2⟩ : ∃ b, b = well m := ⟨_, rfl⟩
  have HW1 := hide hW1
  have HW2 := hide hW2
  clear hW1 hW2
  have hc1 : W1 = true ∨ W1 = false := by cases W1 <;> simp
  have hc2 : W2 = true ∨ W2 = false := by cases W2 <;> simp
  rcases hc1 with rfl | rfl
  rotate_left
  · obtain ⟨R, hR⟩ : ∃ R, partsS m = R := ⟨_, rfl⟩
    have HR := hide hR
    clear hR
    go_enter Try.func7, Try.ntmps7
    go_wp2_with (first
      | (go_at_call 29; first
          | ((with_reducible refine (PartsR b cb m _ R HR.out (hm.belowN hbel1) (by omega)).mono ?_); rintro e w2 ⟨a2, c2, rfl, hown2, hbel2⟩; have hB2 := hbel1.trans (hbel2.mono hz1); have hz2 := hB2.size)
          | ((with_reducible refine (PartsNn a _ ca l _ rfl HW1.out.symm h (by omega)).mono ?_); rintro e w1 ⟨a1, c1, rfl, hbel1⟩; have hz1 := hbel1.size))
      | (go_at_call 23; (with_reducible refine (goes8_calls _).mono ?_); rintro e w8 ⟨rfl, hbel8⟩))
    go_ret
    exact ⟨rfl, hB2.trans (hbel8.mono hz2)⟩
  rcases hc2 with rfl | rfl
  rotate_left
  · obtain ⟨P, hP⟩ : ∃ P, partsL l = P := ⟨_, rfl⟩
    have HP := hide hP
    clear hP
    go_enter Try.func7, Try.ntmps7
    go_wp2_with (first
      | (go_at_call 29; first
          | ((with_reducible refine (PartsNn b _ cb m _ rfl HW2.out.symm (hm.belowN hbel1) (by omega)).mono ?_); rintro e w2 ⟨a2, c2, rfl, hbel2⟩; have hB2 := hbel1.trans (hbel2.mono hz1); have hz2 := hB2.size)
          | ((with_reducible refine (PartsWn a _ ca l _ P rfl HW1.out.symm HP.out h (by omega)).mono ?_); rintro e w1 ⟨a1, c1, rfl, hown1, hbel1⟩; have hz1 := hbel1.size))
      | (go_at_call 23; (with_reducible refine (goes8_calls _).mono ?_); rintro e w8 ⟨rfl, hbel8⟩))
    go_ret
    exact ⟨rfl, hB2.trans (hbel8.mono hz2)⟩
  obtain ⟨P, hP⟩ : ∃ P, partsL l = P := ⟨_, rfl⟩
  obtain ⟨Q, hQ⟩ : ∃ Q, partsL m = Q := ⟨_, rfl⟩
  obtain ⟨D, hD⟩ : ∃ D, deepL l = D := ⟨_, rfl⟩
  obtain ⟨E, hE⟩ : ∃ E, deepL m = E := ⟨_, rfl⟩
  obtain ⟨S, hS⟩ : ∃ S, partsL (l ++ m) = S := ⟨_, rfl⟩
  have hj := parts_join l m HW1.out.symm HW2.out.symm
  rw [hP, hQ, hS] at hj
  have hSl : S.length = P.length + Q.length := by rw [hj]; simp
  have hPl : P.length ≤ 100 := by have := rpAt_length l l.length; unfold partsL at hP; rw [hP] at this; omega
  have hQl : Q.length ≤ 100 := by have := rpAt_length m m.length; unfold partsL at hQ; rw [hQ] at this; omega
  have hdj := deep_join l m HW1.out.symm HW2.out.symm
  rw [hD, hE] at hdj
  have hDl : D ≤ 100 := by have := deepL_le l; omega
  have hEl : E ≤ 100 := by have := deepL_le m; omega
  have hwj := well_join l m HW1.out.symm HW2.out.symm
  obtain ⟨sl, hsl⟩ : ∃ sl, sl = S.length := ⟨_, rfl⟩
  have hS1 : sl ≤ P.length + Q.length := by omega
  have hS2 : P.length + Q.length ≤ sl := by omega
  obtain ⟨M, hM⟩ : ∃ M, M = max D E := ⟨_, rfl⟩
  rw [← hM] at hdj
  have HP := hide hP
  have HQ := hide hQ
  have HD := hide hD
  have HE := hide hE
  have HS := hide hS
  have HJ := hide hj
  have HDJ := hide hdj
  have HWJ := hide hwj
  have HSL := hide hsl
  have HM := hide hM
  clear hP hQ hD hE hS hj hdj hwj hsl hSl hM
  have hneq := run_neqP_same
  have HBD := hide (parts_bd m HW2.out.symm)
  go_enter Try.func7, Try.ntmps7
  go_wp2_with (first
    | (go_at_call 29; first
        | ((with_reducible refine (PartsWn _ _ _ (l ++ m) _ S (by simp) HWJ.out HS.out hown5.at_ (by omega)).mono ?_); rw [← HSL.out]; rintro e w6 ⟨a6, c6, rfl, hown6, hbel6⟩; have hB6 := hB5.trans (hbel6.mono hz5); have hz6 := hB6.size; have hat1 := (hP5.belowN hbel6).at_; have hat2 := (hQ5.belowN hbel6).at_; have hat3 := hown6.at_; have h6 := h5.belowN hbel6; have hm6 := hm5.belowN hbel6)
        | ((with_reducible refine (PartsWn b _ cb m _ Q rfl HW2.out.symm HQ.out (hm.belowN hbel1) (by omega)).mono ?_); rintro e w2 ⟨a2, c2, rfl, hown2, hbel2⟩; have hB2 := hbel1.trans (hbel2.mono hz1); have hz2 := hB2.size; have hP2 := hown1.belowN hbel2; have h2 := h.belowN hB2; have hm2 := hm.belowN hB2)
        | ((with_reducible refine (PartsWn a _ ca l _ P rfl HW1.out.symm HP.out h (by omega)).mono ?_); rintro e w1 ⟨a1, c1, rfl, hown1, hbel1⟩; have hz1 := hbel1.size))
    | (at_builtin; first
        | (refine wpList_pushAll tyO hown4 (l2 := m) (hm2.belowN hB24) rfl rfl rfl rfl (by simp) rfl hz4 (by omega) (by omega) ?_; intro a5 c5 w5 hown5 hg5 _; have hB25 := below_push hB24 hown4 hg5 hz4; have hB5 := hB2.trans (hB25.mono hz2); have hz5 := hB5.size; have hP5 := hP2.belowN hB25; have hQ5 := hown2.belowN hB25; have h5 := h2.belowN hB25; have hm5 := hm2.belowN hB25)
        | (refine wpList_pushAll tyO (Own.new w2 (Nat.le_refl _) 67 OpD) (l2 := l) (h2.belowN (Below.alloc (Below.refl _ _) (Nat.le_refl _) _)) rfl rfl rfl rfl rfl rfl (by simp) (by omega) (by omega) ?_; intro a4 c4 w4 hown4 hg4 _; have hB24 := below_push (Below.alloc (Below.refl w2.heap.size w2) (Nat.le_refl _) (.cells #[] 67)) (Own.new w2 (Nat.le_refl _) 67 OpD) hg4 (by simp); have hz4 := hB24.size; rw [List.nil_append] at hown4)))
  go_loopw [11] (fun i wr => ∃ k : Nat, k ≤ sl ∧ i = .int .i64 k ∧ ∃ q, wr = w6.drewN q) (fun i _ => sl - (intOf i).toNat)
  case atStart => exact ⟨0, by omega, rfl, ⟨0, rfl⟩⟩
  case round =>
    obtain ⟨k, hk, rfl, q, rfl⟩ := hrel
    by_cases hlt : k < sl
    · obtain ⟨b3, off3, x, rfl, hx, x0, x1⟩ := hat3.getP (Below.refl _ _) (show k < S.length by rw [← HSL.out]; exact hlt)
      have hx' := hx.out
      rw [HJ.out] at hx'
      by_cases hkP : k < P.length
      · obtain ⟨b1, off1, y, rfl, hy, y0, y1⟩ := hat1.getP (Below.refl _ _) hkP
        rw [List.getElem?_append_left hkP] at hx'
        obtain rfl : x = y := by have := hx'.symm.trans hy.out; simpa using this
        have hkP' : (k : Int) < (P.length : Int) := by omega
        have hd2 : decide ((P.length : Int) ≤ (k : Int)) = false := by simpa using hkP
        have hd3 : decide (P.length ≤ k) = false := by simpa using hkP
        clear hx' hx hy
        go_wp2_with fail
        go_quiet (fail)
        go_wp2
        go_roundw
        case rel => exact ⟨k + 1, by omega, by go_num, ⟨_, rfl⟩⟩
        case measure => simp [intOf]; omega
      · obtain ⟨j, rfl⟩ : ∃ j, k = P.length + j := ⟨k - P.length, by omega⟩
        obtain ⟨b1, off1, y, rfl, hy, y0, y1⟩ := hat2.getP (Below.refl _ _) (show j < Q.length by omega)
        rw [List.getElem?_append_right (by omega), Nat.add_sub_cancel_left, List.getElem?_map, hy.out] at hx'
        obtain rfl : (y.1 + (l.length : Int), y.2 + (l.length : Int)) = x := by simpa using hx'
        obtain ⟨v1, v2, v3, v4⟩ := HBD.out y (by have := HQ.out; rw [this]; exact List.mem_of_getElem? hy.out)
        have hd2 : decide (((P.length : Int) + (j : Int)) < (P.length : Int)) = false := decide_eq_false (by omega)
        have hd3 : decide (P.length + j < P.length) = false := by simp
        have hkP' : (P.length : Int) ≤ (P.length : Int) + (j : Int) := by omega
        simp only at x0 x1
        clear hx' hx hy hkP
        go_wp2_with fail
        go_quiet (fail)
        go_wp2
        go_roundw
        case rel => exact ⟨P.length + j + 1, by omega, by go_num, ⟨_, rfl⟩⟩
        case measure => simp [intOf]; omega
    · obtain ⟨w7, hw7⟩ : ∃ w7, w7 = w6.drewN q := ⟨_, rfl⟩
      have h7 := h6.drewN q
      have hm7 := hm6.drewN q
      have hB7 := below_drewN hB6 q
      have hz7 := hB7.size
      rw [← hw7] at *
      clear hw7
      have hcs : D < E ∨ E ≤ D := by omega
      rcases hcs with hDE | hDE
      · obtain rfl : E = M := by have := HM.out; omega
        go_wp2_with (first
          | (go_at_call 26; first
              | ((with_reducible refine (DeepWn _ _ _ (l ++ m) _ _ (by simp) HWJ.out HDJ.out hown5.at_ (by omega)).mono ?_); rintro e w10 ⟨rfl, hbel10⟩; have hB10 := hB9.trans (hbel10.mono hz9); have hz10 := hB10.size)
              | ((with_reducible refine (DeepWn b _ cb m _ E rfl HW2.out.symm HE.out h8b (by omega)).mono ?_); rintro e w9 ⟨rfl, hbel9⟩; have hBx9 := hB8.trans (hbel9.mono hz8); have hzx9 := hBx9.size; have h9 := h8.belowN hbel9; have hm9 := h8b.belowN hbel9)
              | ((with_reducible refine (DeepWn a _ ca l _ D rfl HW1.out.symm HD.out h7 (by omega)).mono ?_); rintro e w8 ⟨rfl, hbel8⟩; have hB8 := hB7.trans (hbel8.mono hz7); have hz8 := hB8.size; have h8 := h7.belowN hbel8; have h8b := hm7.belowN hbel8))
          | (at_builtin; first
              | (refine wpList_pushAll tyO hown4 (l2 := m) (hm9.belowN hB94) rfl rfl rfl rfl (by simp) rfl hz94 (by omega) (by omega) ?_; intro a5 c5 w5 hown5 hg5 _; have hB95 := below_push hB94 hown4 hg5 hz94; have hB9 := hBx9.trans (hB95.mono hzx9); have hz9 := hB9.size)
              | (refine wpList_pushAll tyO (Own.new w9 (Nat.le_refl _) 67 OpD) (l2 := l) (h9.belowN (Below.alloc (Below.refl _ _) (Nat.le_refl _) _)) rfl rfl rfl rfl rfl rfl (by simp) (by omega) (by omega) ?_; intro a4 c4 w4 hown4 hg4 _; have hB94 := below_push (Below.alloc (Below.refl w9.heap.size w9) (Nat.le_refl _) (.cells #[] 67)) (Own.new w9 (Nat.le_refl _) 67 OpD) hg4 (by simp); have hz94 := hB94.size; rw [List.nil_append] at hown4))
          | (go_at_call 23; (with_reducible refine (goes8_calls _).mono ?_); rintro e w11 ⟨rfl, hbel11⟩))
        go_ret
        exact ⟨rfl, hB10.trans (hbel11.mono hz10)⟩
      · obtain rfl : D = M := by have := HM.out; omega
        go_wp2_with (first
          | (go_at_call 26; first
              | ((with_reducible refine (DeepWn _ _ _ (l ++ m) _ _ (by simp) HWJ.out HDJ.out hown5.at_ (by omega)).mono ?_); rintro e w10 ⟨rfl, hbel10⟩; have hB10 := hB9.trans (hbel10.mono hz9); have hz10 := hB10.size)
              | ((with_reducible refine (DeepWn b _ cb m _ E rfl HW2.out.symm HE.out h8b (by omega)).mono ?_); rintro e w9 ⟨rfl, hbel9⟩; have hBx9 := hB8.trans (hbel9.mono hz8); have hzx9 := hBx9.size; have h9 := h8.belowN hbel9; have hm9 := h8b.belowN hbel9)
              | ((with_reducible refine (DeepWn a _ ca l _ D rfl HW1.out.symm HD.out h7 (by omega)).mono ?_); rintro e w8 ⟨rfl, hbel8⟩; have hB8 := hB7.trans (hbel8.mono hz7); have hz8 := hB8.size; have h8 := h7.belowN hbel8; have h8b := hm7.belowN hbel8))
          | (at_builtin; first
              | (refine wpList_pushAll tyO hown4 (l2 := m) (hm9.belowN hB94) rfl rfl rfl rfl (by simp) rfl hz94 (by omega) (by omega) ?_; intro a5 c5 w5 hown5 hg5 _; have hB95 := below_push hB94 hown4 hg5 hz94; have hB9 := hBx9.trans (hB95.mono hzx9); have hz9 := hB9.size)
              | (refine wpList_pushAll tyO (Own.new w9 (Nat.le_refl _) 67 OpD) (l2 := l) (h9.belowN (Below.alloc (Below.refl _ _) (Nat.le_refl _) _)) rfl rfl rfl rfl rfl rfl (by simp) (by omega) (by omega) ?_; intro a4 c4 w4 hown4 hg4 _; have hB94 := below_push (Below.alloc (Below.refl w9.heap.size w9) (Nat.le_refl _) (.cells #[] 67)) (Own.new w9 (Nat.le_refl _) 67 OpD) hg4 (by simp); have hz94 := hB94.size; rw [List.nil_append] at hown4))
          | (go_at_call 23; (with_reducible refine (goes8_calls _).mono ?_); rintro e w11 ⟨rfl, hbel11⟩))
        go_ret
        exact ⟨rfl, hB10.trans (hbel11.mono hz10)⟩
end Go.Proofs.Ytgakjkeigoiekaa
