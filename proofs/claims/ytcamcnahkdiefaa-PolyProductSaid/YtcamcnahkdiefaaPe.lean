/- Powers of words. -/
import Derived.Test.YtcamcnahkdiefaaPd
import Derived.Test.YtcamcnahkdiefaaQc
namespace Go.Proofs.Ytcamcnahkdiefaa
set_option linter.unusedVariables false
set_option linter.unusedSimpArgs false
open Go.RowKit
theorem pow_half (x q : UInt64) (m : Nat) : q * x ^ m = (if m % 2 = 1 then q * x else q) * (x * x) ^ (m / 2) := by
  have e : ∀ k : Nat, (x * x) ^ k = x ^ (2 * k) := by
    intro k
    induction k with
    | zero => simp
    | succ k ih => rw [UInt64.pow_succ, ih, show 2 * (k + 1) = 2 * k + 1 + 1 by omega, UInt64.pow_succ, UInt64.pow_succ]; grind
  rw [e]
  by_cases h : m % 2 = 1
  · rw [if_pos h]
    have hm : x ^ m = x ^ (2 * (m / 2)) * x := by
      rw [← UInt64.pow_succ]; congr 1; omega
    rw [hm]; grind
  · rw [if_neg h]
    have hm : 2 * (m / 2) = m := by omega
    rw [hm]
set_option maxHeartbeats 1600000 in
theorem Pow_calls (a : UInt64) (n : Nat) (hn : n ≤ 1000000) (w : World) : Calls Try.prog 36 #[.int .u64 (a.toNat : Int), .int .u64 (n : Int)] w fun v w' => v = .returned (.int .u64 ((a ^ n).toNat : Int)) ∧ w = w' := by
  obtain ⟨R, hR⟩ : ∃ R, a ^ n = R := ⟨_, rfl⟩
  rw [hR]
  have HR : Hid ((1 : UInt64) * a ^ n = R) := by show _ = R; rw [hR]; grind
  clear hR
  go_enter Try.func36, Try.ntmps36
  go_wp2
  go_loopw [0, 1, 5] (fun xv mv qv wr => ∃ (x : UInt64) (m : Nat) (q : UInt64), xv = .int .u64 (x.toNat : Int) ∧ mv = .int .u64 (m : Int) ∧ qv = .int .u64 (q.toNat : Int) ∧ m ≤ n ∧ Hid (q * x ^ m = R) ∧ wr = w) (fun _ mv _ _ => (intOf mv).toNat)
  case atStart => exact ⟨a, n, 1, rfl, rfl, rfl, by omega, HR.out, rfl⟩
  case round =>
    obtain ⟨x, m, q, rfl, rfl, rfl, hm, hq, rfl⟩ := hrel
    have HX := hide (u64_mul x x)
    have HQ := hide (u64_mul q x)
    by_cases h0 : 0 < m
    · have hb := and_one_u64 (m : Int) (by omega) (by omega)
      have hq2 := hq.out
      rw [pow_half] at hq2
      by_cases h1 : m % 2 = 1
      · rw [if_pos h1] at hq2
        have HQ2 := hide hq2
        have e1 : (m : Int) % 2 = 1 := by omega
        rw [e1] at hb
        clear e1 h1 hq2
        go_wp2
        go_roundw
        case rel => exact ⟨x * x, m / 2, q * x, by rw [HX.out], by congr 1, by rw [HQ.out], by omega, HQ2.out, by first | rfl | trivial⟩
        case measure => simp [intOf]; omega
      · rw [if_neg h1] at hq2
        have HQ2 := hide hq2
        have e1 : (m : Int) % 2 = 0 := by omega
        rw [e1] at hb
        clear e1 h1 hq2
        go_wp2
        go_roundw
        case rel => exact ⟨x * x, m / 2, q, by rw [HX.out], by congr 1, rfl, by omega, HQ2.out, by first | rfl | trivial⟩
        case measure => simp [intOf]; omega
    · obtain rfl : m = 0 := by omega
      have hq2 := hq.out
      rw [UInt64.pow_zero] at hq2
      have hq3 : R = q := by rw [← hq2]; grind
      subst hq3
      clear hq2
      go_wp2
      go_ret
      exact ⟨rfl, rfl⟩
set_option maxHeartbeats 1600000 in
theorem RPow_calls (n : Nat) : ∀ (a : UInt64) (w : World), n ≤ 1000000 → Calls Try.prog 37 #[.int .u64 (a.toNat : Int), .int .u64 (n : Int)] w fun v w' => v = .returned (.int .u64 ((a ^ n).toNat : Int)) ∧ Below w.heap.size w w' := by
  induction n using Nat.strongRecOn with
  | _ n ih =>
    intro a w hn
    by_cases h0 : n = 0
    · subst h0
      rw [UInt64.pow_zero]
      go_enter Try.func37, Try.ntmps37
      go_wp2
      go_ret
      exact ⟨rfl, Below.refl _ _⟩
    · have e0 : ((n : Int) == 0) = false := by simpa using h0
      obtain ⟨m, hm⟩ : ∃ m, n / 2 = m := ⟨_, rfl⟩
      have HI := hide (ih m (by omega) a w (by omega))
      obtain ⟨P, hP⟩ : ∃ P, a ^ m = P := ⟨_, rfl⟩
      rw [hP] at HI
      have hq := pow_half a 1 n
      rw [hm] at hq
      have he : (a * a) ^ m = P * P := by
        rw [← hP]
        clear hP HI hq hm
        induction m with
        | zero => simp
        | succ k ihk => rw [UInt64.pow_succ, UInt64.pow_succ, ihk]; grind
      rw [he] at hq
      have e1 : (n : Int) / 2 = (m : Int) := by omega
      by_cases h1 : n % 2 = 1
      · have hR : a ^ n = P * P * a := by rw [if_pos h1] at hq; grind
        rw [hR]
        have e2 : (n : Int) % 2 = 1 := by omega
        have HT := hide (fun W => Times_calls P P W)
        obtain ⟨S, hS⟩ : ∃ S, P * P = S := ⟨_, rfl⟩
        rw [hS] at HT ⊢
        have HT2 := hide (fun W => Times_calls S a W)
        obtain ⟨T, hT⟩ : ∃ T, S * a = T := ⟨_, rfl⟩
        rw [hT] at HT2 ⊢
        clear hq he hR hP hm h1 ih hS hT
        go_enter Try.func37, Try.ntmps37
        go_wp2_with (first
          | (go_at_call 37; go_must ((with_reducible refine (HI.out).mono ?_); rintro v w1 ⟨rfl, hb1⟩))
          | (have hgd := hb2; go_at_call 35; go_must ((with_reducible refine (HT2.out _).mono ?_); rintro v w3 ⟨rfl, hb3⟩))
          | (go_at_call 35; go_must ((with_reducible refine (HT.out _).mono ?_); rintro v w2 ⟨rfl, hb2⟩)))
        go_ret
        have hB2 := hb1.trans (hb2.mono hb1.size)
        exact ⟨rfl, hB2.trans (hb3.mono hB2.size)⟩
      · have hR : a ^ n = P * P := by rw [if_neg h1] at hq; grind
        rw [hR]
        have e2 : (n : Int) % 2 = 0 := by omega
        have HT := hide (fun W => Times_calls P P W)
        obtain ⟨S, hS⟩ : ∃ S, P * P = S := ⟨_, rfl⟩
        rw [hS] at HT ⊢
        clear hq he hR hP hm h1 ih hS
        go_enter Try.func37, Try.ntmps37
        go_wp2_with (first
          | (go_at_call 37; go_must ((with_reducible refine (HI.out).mono ?_); rintro v w1 ⟨rfl, hb1⟩))
          | (go_at_call 35; go_must ((with_reducible refine (HT.out _).mono ?_); rintro v w2 ⟨rfl, hb2⟩)))
        go_ret
        have hB2 := hb1.trans (hb2.mono hb1.size)
        exact ⟨rfl, hB2⟩
end Go.Proofs.Ytcamcnahkdiefaa
