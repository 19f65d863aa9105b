/- Sums and products of words (ring). -/
import Derived.Test.YtcamcnahkdiefaaQc
namespace Go.Proofs.Ytcamcnahkdiefaa
set_option linter.unusedVariables false
set_option linter.unusedSimpArgs false
open Go.RowKit
theorem foldl_take_snoc {α β : Type} (f : β → α → β) (l : List α) (b : β) {k : Nat} {x : α} (h : l[k]? = some x) : (l.take (k + 1)).foldl f b = f ((l.take k).foldl f b) x := by
  rw [List.take_add_one, h]; simp
set_option maxHeartbeats 800000 in
theorem RMul_fold (l : List UInt64) (ra : Option Addr) (rn rc : Nat) (hn : rn = l.length) (w : World) (h : At w ra l) (hl : rn ≤ 1000000000) :
    Calls Try.prog 26 #[.slice ra rn rc] w fun e w' => e = .returned (.int .u64 ((l.foldl (fun x y => x * y) 1).toNat : Int)) ∧ w' = w := by
  obtain ⟨R, hR⟩ : ∃ R, l.foldl (fun x y => x * y) 1 = R := ⟨_, rfl⟩
  rw [hR]
  have HR := hide hR
  have HN := hide hn
  clear hR hn
  go_enter Try.func26, Try.ntmps26
  go_wp2
  go_loopw [3, 8] (fun ov iv wr => ∃ k : Nat, iv = .int .i64 k ∧ k ≤ rn ∧ ov = .int .u64 (((l.take k).foldl (fun x y => x * y) 1).toNat : Int) ∧ wr = w) (fun _ iv _ => rn - (intOf iv).toNat)
  case atStart => exact ⟨0, rfl, by omega, rfl, rfl⟩
  case round =>
    obtain ⟨k, rfl, hk, rfl, rfl⟩ := hrel
    by_cases hlt : k < rn
    · obtain ⟨b1, off1, x, rfl, hx, c0⟩ := h.getU (Below.refl _ _) (show k < l.length by have := HN.out; omega)
      obtain ⟨A, hA⟩ : ∃ A, (l.take k).foldl (fun x y => x * y) 1 = A := ⟨_, rfl⟩
      rw [hA]
      have HS := hide (show (l.take (k + 1)).foldl (fun x y => x * y) 1 = A * x by rw [foldl_take_snoc _ _ _ hx.out, hA])
      have HW := hide (u64_mul A x)
      clear hA
      go_wp2
      go_roundw
      case rel => exact ⟨k + 1, rfl, by omega, by rw [HS.out, HW.out], trivial⟩
      case measure => simp [intOf] <;> omega
    · have hkn : k = rn := by omega
      have e := HN.out
      subst hkn
      subst e
      rw [List.take_length, HR.out]
      clear HR HN hlt
      go_wp2
      go_ret
      exact ⟨rfl, rfl⟩
theorem RMul_calls (a b : UInt64) (ra : Option Addr) (rc : Nat) (w : World) (h : At w ra [a, b]) :
    Calls Try.prog 26 #[.slice ra 2 rc] w fun e w' => e = .returned (.int .u64 ((a * b).toNat : Int)) ∧ w' = w := by
  have := RMul_fold [a, b] ra 2 rc rfl w h (by omega)
  simpa [List.foldl] using this
set_option maxHeartbeats 800000 in
theorem RAdd_fold (l : List UInt64) (ra : Option Addr) (rn rc : Nat) (hn : rn = l.length) (w : World) (h : At w ra l) (hl : rn ≤ 1000000000) :
    Calls Try.prog 25 #[.slice ra rn rc] w fun e w' => e = .returned (.int .u64 ((l.foldl (fun x y => x + y) 0).toNat : Int)) ∧ w' = w := by
  obtain ⟨R, hR⟩ : ∃ R, l.foldl (fun x y => x + y) 0 = R := ⟨_, rfl⟩
  rw [hR]
  have HR := hide hR
  have HN := hide hn
  clear hR hn
  go_enter Try.func25, Try.ntmps25
  go_wp2
  go_loopw [3, 8] (fun ov iv wr => ∃ k : Nat, iv = .int .i64 k ∧ k ≤ rn ∧ ov = .int .u64 (((l.take k).foldl (fun x y => x + y) 0).toNat : Int) ∧ wr = w) (fun _ iv _ => rn - (intOf iv).toNat)
  case atStart => exact ⟨0, rfl, by omega, rfl, rfl⟩
  case round =>
    obtain ⟨k, rfl, hk, rfl, rfl⟩ := hrel
    by_cases hlt : k < rn
    · obtain ⟨b1, off1, x, rfl, hx, c0⟩ := h.getU (Below.refl _ _) (show k < l.length by have := HN.out; omega)
      obtain ⟨A, hA⟩ : ∃ A, (l.take k).foldl (fun x y => x + y) 0 = A := ⟨_, rfl⟩
      rw [hA]
      have HS := hide (show (l.take (k + 1)).foldl (fun x y => x + y) 0 = A + x by rw [foldl_take_snoc _ _ _ hx.out, hA])
      have HW := hide (u64_add A x)
      clear hA
      go_wp2
      go_roundw
      case rel => exact ⟨k + 1, rfl, by omega, by rw [HS.out, HW.out], trivial⟩
      case measure => simp [intOf] <;> omega
    · have hkn : k = rn := by omega
      have e := HN.out
      subst hkn
      subst e
      rw [List.take_length, HR.out]
      clear HR HN hlt
      go_wp2
      go_ret
      exact ⟨rfl, rfl⟩
theorem RAdd_calls (a b : UInt64) (ra : Option Addr) (rc : Nat) (w : World) (h : At w ra [a, b]) :
    Calls Try.prog 25 #[.slice ra 2 rc] w fun e w' => e = .returned (.int .u64 ((a + b).toNat : Int)) ∧ w' = w := by
  have := RAdd_fold [a, b] ra 2 rc rfl w h (by omega)
  simpa [List.foldl] using this
end Go.Proofs.Ytcamcnahkdiefaa
