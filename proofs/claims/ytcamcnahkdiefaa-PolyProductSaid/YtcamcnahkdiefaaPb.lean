/- poly.right; how powers are compared. -/
import Derived.Test.YtcamcnahkdiefaaPa
namespace Go.Proofs.Ytcamcnahkdiefaa
set_option linter.unusedVariables false
set_option linter.unusedSimpArgs false
open Go.RowKit
def outB (n : Int) : Bool := decide (n < 0) || decide (65535 < n)
theorem RightClo_calls (n : Int) (w : World) : Calls Try.prog 60 #[.int .i64 n] w fun v w' => v = .returned (.bool (outB n)) ∧ w = w' := by
  unfold outB
  by_cases h : n < 0
  · have e : (decide (n < 0) || decide (65535 < n)) = true := by rw [decide_eq_true h]; rfl
    rw [e]
    clear e
    go_enter Try.func60, Try.ntmps60
    go_wp2
    go_ret
    exact ⟨rfl, rfl⟩
  · by_cases h2 : 65535 < n
    · have e : (decide (n < 0) || decide (65535 < n)) = true := by rw [decide_eq_true h2, Bool.or_true]
      rw [e]
      clear e
      go_enter Try.func60, Try.ntmps60
      go_wp2
      go_ret
      exact ⟨rfl, rfl⟩
    · have e : (decide (n < 0) || decide (65535 < n)) = false := by rw [decide_eq_false h, decide_eq_false h2]; rfl
      rw [e]
      clear e
      go_enter Try.func60, Try.ntmps60
      go_wp2
      go_ret
      exact ⟨rfl, rfl⟩
set_option maxHeartbeats 1600000 in
theorem IndexRt_calls (a : Option Addr) (n c : Nat) (e : List Int) (hn : n = e.length) (w : World) (h : At w a e) (hl : n ≤ 1000000) (A : Bool) (hA : e.any outB = A) :
    Calls Try.prog 65 #[.slice a n c, .func (.func 60) #[] #[]] w fun v w' => (A = true → ∃ j : Nat, v = .returned (.int .i64 (j : Int))) ∧ (A = false → v = .returned (.int .i64 (-1))) ∧ w = w' := by
  have HA := hide hA
  have HN := hide hn
  clear hA hn
  go_enter Try.func65, Try.ntmps65
  go_wp2
  go_loopw [8] (fun i wr => ∃ k : Nat, i = .int .i64 k ∧ k ≤ n ∧ Hid ((e.drop k).any outB = A) ∧ wr = w) (fun i _ => n - (intOf i).toNat)
  case atStart => exact ⟨0, rfl, by omega, HA.out, rfl⟩
  case round =>
    obtain ⟨k, rfl, hk, hAk, rfl⟩ := hrel
    by_cases hlt : k < n
    · obtain ⟨b1, off1, x, rfl, hx, x0⟩ := h.getI (Below.refl _ _) (k := k) (by rw [← HN.out]; exact hlt)
      have hA2 := hAk.out
      rw [drop_at hx.out, List.any_cons] at hA2
      have hk0 : (0 : Int) ≤ (k : Int) := by omega
      have hk1 : (k : Int) < (n : Int) := by omega
      have HC := hide (RightClo_calls x wr)
      clear hx
      cases hp : outB x with
      | true =>
        rw [hp] at hA2 HC
        have HR : Hid (A = true) := by show A = true; rw [← hA2]; rfl
        clear hA2 hp
        go_wp2_with (go_at_call 60; go_must ((with_reducible refine (HC.out).mono ?_); rintro v w1 ⟨rfl, rfl⟩))
        go_ret
        exact ⟨fun _ => ⟨k, rfl⟩, fun h => (by rw [HR.out] at h; cases h), rfl⟩
      | false =>
        rw [hp] at hA2 HC
        have HA2 := hide hA2
        clear hA2 hp
        go_wp2_with (go_at_call 60; go_must ((with_reducible refine (HC.out).mono ?_); rintro v w1 ⟨rfl, rfl⟩))
        go_roundw
        case rel => exact ⟨k + 1, by go_num, by omega, HA2.out, by first | rfl | trivial⟩
        case measure => simp [intOf]; omega
    · obtain rfl : k = n := by omega
      have hA2 := hAk.out
      rw [List.drop_eq_nil_of_le (by rw [← HN.out]; exact Nat.le_refl _)] at hA2
      have HR : Hid (A = false) := by show A = false; rw [← hA2]; rfl
      clear hA2
      go_wp2
      go_ret
      exact ⟨fun h => (by rw [HR.out] at h; cases h), fun _ => rfl, rfl⟩
theorem ContRt_calls (a : Option Addr) (n c : Nat) (e : List Int) (hn : n = e.length) (w : World) (h : At w a e) (hl : n ≤ 1000000) (A : Bool) (hA : e.any outB = A) :
    Calls Try.prog 59 #[.slice a n c, .func (.func 60) #[] #[]] w fun v w' => v = .returned (.bool A) ∧ w = w' := by
  have HI := hide (IndexRt_calls a n c e hn w h hl A hA)
  clear hA hn
  cases A with
  | true =>
    go_enter Try.func59, Try.ntmps59
    go_wp2_with (go_at_call 65; go_must ((with_reducible refine (HI.out).mono ?_); rintro v w1 ⟨h1, _, rfl⟩; obtain ⟨j, rfl⟩ := h1 rfl; have hj : (0 : Int) ≤ (j : Int) := by omega))
    go_ret
    exact ⟨rfl, rfl⟩
  | false =>
    go_enter Try.func59, Try.ntmps59
    go_wp2_with (go_at_call 65; go_must ((with_reducible refine (HI.out).mono ?_); rintro v w1 ⟨_, h1, rfl⟩; obtain rfl := h1 rfl))
    go_ret
    exact ⟨rfl, rfl⟩
set_option maxHeartbeats 800000 in
theorem PRight_calls (vars : Int) (a : Option Addr) (n c : Nat) (e : List Int) (hn : n = e.length) (w : World) (h : At w a e) (hl : n ≤ 1000000) (B : Bool) (hB : rightT vars e = B) :
    Calls Try.prog 40 #[.int .i64 vars, .slice a n c] w fun v w' => v = .returned (.bool B) ∧ w = w' := by
  unfold rightT at hB
  rw [← hn] at hB
  by_cases hv : (n : Int) = vars
  · rw [decide_eq_true hv, Bool.true_and] at hB
    have HC := hide (ContRt_calls a n c e hn w h hl (!B) (by rw [← hB, Bool.not_not]; rfl))
    subst hv
    have e1 : ((n : Int) == (n : Int)) = true := by simp
    clear hB hn
    go_enter Try.func40, Try.ntmps40
    go_wp2_with (go_at_call 59; go_must ((with_reducible refine (HC.out).mono ?_); rintro v w1 ⟨rfl, rfl⟩))
    go_ret
    exact ⟨by simp, rfl⟩
  · rw [decide_eq_false hv, Bool.false_and] at hB
    subst hB
    have e1 : ((n : Int) != vars) = true := by simpa using hv
    have e2 : ((n : Int) == vars) = false := by simpa using hv
    clear hv hn
    go_enter Try.func40, Try.ntmps40
    go_wp2
    go_ret
    exact ⟨rfl, rfl⟩
theorem IsNaN_calls (x : Int) (w : World) : Calls Try.prog 66 #[.int .i64 x] w fun v w' => v = .returned (.bool false) ∧ w = w' := by
  have e : (x != x) = false := by simp
  go_enter Try.func66, Try.ntmps66
  go_wp2
  go_ret
  exact ⟨rfl, rfl⟩
theorem CmpI_calls (x y : Int) (w : World) (R : Int) (hR : (if y < x then 1 else if x < y then -1 else 0) = R) : Calls Try.prog 61 #[.int .i64 x, .int .i64 y] w fun v w' => v = .returned (.int .i64 R) ∧ w = w' := by
  have HX := hide (IsNaN_calls x w)
  have HY := hide (IsNaN_calls y w)
  by_cases h1 : y < x
  · rw [if_pos h1] at hR
    subst hR
    have h2 : ¬ x < y := by omega
    go_enter Try.func61, Try.ntmps61
    go_wp2_with (go_at_call 66; (first | ((with_reducible refine (HX.out).mono ?_); rintro v w1 ⟨rfl, rfl⟩) | ((with_reducible refine (HY.out).mono ?_); rintro v w1 ⟨rfl, rfl⟩)))
    go_ret
    exact ⟨rfl, rfl⟩
  · rw [if_neg h1] at hR
    by_cases h2 : x < y
    · rw [if_pos h2] at hR
      subst hR
      go_enter Try.func61, Try.ntmps61
      go_wp2_with (go_at_call 66; (first | ((with_reducible refine (HX.out).mono ?_); rintro v w1 ⟨rfl, rfl⟩) | ((with_reducible refine (HY.out).mono ?_); rintro v w1 ⟨rfl, rfl⟩)))
      go_ret
      exact ⟨rfl, rfl⟩
    · rw [if_neg h2] at hR
      subst hR
      go_enter Try.func61, Try.ntmps61
      go_wp2_with (go_at_call 66; (first | ((with_reducible refine (HX.out).mono ?_); rintro v w1 ⟨rfl, rfl⟩) | ((with_reducible refine (HY.out).mono ?_); rintro v w1 ⟨rfl, rfl⟩)))
      go_ret
      exact ⟨rfl, rfl⟩
set_option maxHeartbeats 1600000 in
theorem Compare_calls (a b : Option Addr) (n ca cb : Nat) (e f : List Int) (hn : n = e.length) (hm : n = f.length) (w : World) (h : At w a e) (h' : At w b f) (hl : n ≤ 1000000) (R : Int) (hR : - ordR e f = R) :
    Calls Try.prog 43 #[.slice a n ca, .slice b n cb] w fun v w' => v = .returned (.int .i64 R) ∧ w = w' := by
  have HN := hide hn
  have HM := hide hm
  have HR := hide hR
  clear hn hm hR
  go_enter Try.func43, Try.ntmps43
  go_wp2
  go_loopw [11] (fun i wr => ∃ k : Nat, i = .int .i64 k ∧ k ≤ n ∧ Hid (- ordR (e.drop k) (f.drop k) = R) ∧ wr = w) (fun i _ => n - (intOf i).toNat)
  case atStart => exact ⟨0, rfl, by omega, HR.out, rfl⟩
  case round =>
    obtain ⟨k, rfl, hk, hRk, rfl⟩ := hrel
    by_cases hlt : k < n
    · obtain ⟨b1, off1, x, rfl, hx, x0⟩ := h.getI (Below.refl _ _) (k := k) (by rw [← HN.out]; exact hlt)
      obtain ⟨b2, off2, y, rfl, hy, y0⟩ := h'.getI (Below.refl _ _) (k := k) (by rw [← HM.out]; exact hlt)
      have hR2 := hRk.out
      rw [drop_at hx.out, drop_at hy.out, ordR] at hR2
      have hk0 : (0 : Int) ≤ (k : Int) := by omega
      have hk1 : (k : Int) < (n : Int) := by omega
      have hk2 : ¬ (n : Int) ≤ (k : Int) := by omega
      obtain ⟨S, hS⟩ : ∃ S : Int, (if y < x then 1 else if x < y then -1 else 0) = S := ⟨_, rfl⟩
      have HC := hide (CmpI_calls x y wr S hS)
      clear hx hy
      by_cases hS0 : S = 0
      · have h1 : ¬ y < x := by intro q; rw [if_pos q] at hS; omega
        have h2 : ¬ x < y := by intro q; rw [if_neg h1, if_pos q] at hS; omega
        rw [if_neg h1, if_neg h2] at hR2
        have HR2 := hide hR2
        subst hS0
        clear hS hR2
        go_wp2_with (go_at_call 61; go_must ((with_reducible refine (HC.out).mono ?_); rintro v w1 ⟨rfl, rfl⟩))
        go_roundw
        case rel => exact ⟨k + 1, by go_num, by omega, HR2.out, by first | rfl | trivial⟩
        case measure => simp [intOf]; omega
      · have e1 : (S == 0) = false := by simpa using hS0
        have e2 : (S != 0) = true := by simpa using hS0
        have HRS : Hid (R = S) := by
          show R = S
          rw [← hR2, ← hS]
          by_cases h1 : y < x
          · rw [if_pos h1, if_pos h1]; rfl
          · rw [if_neg h1, if_neg h1]
            by_cases h2 : x < y
            · rw [if_pos h2, if_pos h2]
            · rw [if_neg h1, if_neg h2] at hS; exact absurd hS.symm hS0
        clear hS hR2 hS0
        go_wp2_with (go_at_call 61; go_must ((with_reducible refine (HC.out).mono ?_); rintro v w1 ⟨rfl, rfl⟩))
        go_ret
        exact ⟨by rw [HRS.out]; rfl, rfl⟩
    · obtain rfl : k = n := by omega
      have hR2 := hRk.out
      rw [List.drop_eq_nil_of_le (by rw [← HN.out]; exact Nat.le_refl _)] at hR2
      have hR3 : R = 0 := by rw [← hR2, ordR]; rfl; intros; simp_all
      subst hR3
      clear hR2
      go_wp2
      go_ret
      exact ⟨rfl, rfl⟩
set_option maxHeartbeats 1600000 in
theorem EqualI_calls (a b : Option Addr) (n m ca cb : Nat) (e f : List Int) (hn : n = e.length) (hm : m = f.length) (w : World) (h : At w a e) (h' : At w b f) (hl : n ≤ 1000000) (B : Bool) (hB : decide (e = f) = B) :
    Calls Try.prog 46 #[.slice a n ca, .slice b m cb] w fun v w' => v = .returned (.bool B) ∧ ∃ q, w' = w.drewN q := by
  by_cases hnm : n = m
  · subst hnm
    have HN := hide hn
    have HM := hide hm
    have HB := hide hB
    have e1 : ((n : Int) != (n : Int)) = false := by simp
    clear hn hm hB
    go_enter Try.func46, Try.ntmps46
    go_wp2
    go_loopw [13] (fun i wr => ∃ k : Nat, i = .int .i64 k ∧ k ≤ n ∧ Hid (decide (e.drop k = f.drop k) = B) ∧ ∃ q, wr = w.drewN q) (fun i _ => n - (intOf i).toNat)
    case atStart => exact ⟨0, rfl, by omega, HB.out, 0, rfl⟩
    case round =>
      obtain ⟨k, rfl, hk, hBk, q, rfl⟩ := hrel
      by_cases hlt : k < n
      · obtain ⟨b1, off1, x, rfl, hx, x0⟩ := h.getI (Below.refl _ _) (k := k) (by rw [← HN.out]; exact hlt)
        obtain ⟨b2, off2, y, rfl, hy, y0⟩ := h'.getI (Below.refl _ _) (k := k) (by rw [← HM.out]; exact hlt)
        have hB2 := hBk.out
        rw [drop_at hx.out, drop_at hy.out] at hB2
        have hk0 : (0 : Int) ≤ (k : Int) := by omega
        have hk1 : (k : Int) < (n : Int) := by omega
        clear hx hy
        by_cases hxy : x = y
        · subst hxy
          have e2 : (x != x) = false := by simp
          have HB2 : Hid (decide (e.drop (k + 1) = f.drop (k + 1)) = B) := by
            show _ = B
            rw [← hB2]
            simp
          clear hB2
          go_wp2
          go_quiet (fail)
          go_wp2
          go_roundw
          case rel => exact ⟨k + 1, by go_num, by omega, HB2.out, _, rfl⟩
          case measure => simp [intOf]; omega
        · have e2 : (x != y) = true := by simpa using hxy
          have HB2 : Hid (B = false) := by
            show B = false
            rw [← hB2]
            simp [hxy]
          clear hB2 hxy
          go_wp2
          go_quiet (fail)
          go_wp2
          go_ret
          exact ⟨by rw [HB2.out]; rfl, by first | exact ⟨_, rfl⟩ | exact ⟨_, World.drewN_drewN _ _ _⟩⟩
      · obtain rfl : k = n := by omega
        have hB2 := hBk.out
        rw [List.drop_eq_nil_of_le (by rw [← HN.out]; exact Nat.le_refl _), List.drop_eq_nil_of_le (by rw [← HM.out]; exact Nat.le_refl _)] at hB2
        have HB2 : Hid (B = true) := by show B = true; rw [← hB2]; rfl
        clear hB2
        go_wp2
        go_ret
        exact ⟨by rw [HB2.out]; rfl, _, rfl⟩
  · have hne : e ≠ f := by intro q; rw [hn, hm, q] at hnm; exact hnm rfl
    rw [decide_eq_false hne] at hB
    subst hB
    have e1 : ((n : Int) != (m : Int)) = true := by simpa using (fun q => hnm (by omega))
    have e2 : ((n : Int) == (m : Int)) = false := by simpa using (fun q => hnm (by omega))
    clear hnm hne hn hm
    go_enter Try.func46, Try.ntmps46
    go_wp2
    go_ret
    exact ⟨rfl, 0, rfl⟩
end Go.Proofs.Ytcamcnahkdiefaa
