/- Lists that are alike: the document's tests; copies of words. -/
import Derived.Test.YtoklehndfncmnaaProg
import Derived.Test.YtoklehndfncmnaaPre
namespace Go.Proofs.Ytoklehndfncmnaa
set_option linter.unusedVariables false
set_option linter.unusedSimpArgs false
open Go.RowKit

theorem tyU : Ty Try.prog 49 32 UInt64 := Ty.of (z := .int .u64 0) (size := 1) (bytes := 8) Try.underlying49 (by kernel_rfl) rfl (by decide) rfl
set_option maxHeartbeats 400000 in
theorem Same5_calls (a b : Option Addr) (ca cb : Nat) (l : List UInt64) (w : World) (h0 : At w a l) (h1 : At w b l) (hl : l.length ≤ 1000000000) :
    Calls Try.prog 27 #[.slice a l.length ca, .slice b l.length cb] w fun e w' => e = .returned (.bool true) ∧ ∃ n, w' = w.drewN n := by
  go_enter Try.func27, Try.ntmps27
  go_wp2
  go_loopw [5] (fun i wr => ∃ k : Nat, k ≤ l.length ∧ i = .int .i64 k ∧ ∃ q, wr = w.drewN q) (fun i _ => l.length - (intOf i).toNat)
  case atStart => exact ⟨0, by omega, rfl, ⟨0, rfl⟩⟩
  case round =>
    obtain ⟨k, hk, rfl, q, rfl⟩ := hrel
    by_cases hlt : k < l.length
    · obtain ⟨b1, off1, x, rfl, hx, hc⟩ := h0.getU (Below.refl _ _) hlt
      obtain ⟨b2, off2, y, rfl, hy, hd⟩ := h1.getU (Below.refl _ _) hlt
      obtain rfl : x = y := by have := hx.out.symm.trans hy.out; simpa using this
      go_wp2
      go_quiet (fail)
      go_wp2
      go_roundw
      case rel => exact ⟨k + 1, by omega, by go_num, ⟨_, rfl⟩⟩
      case measure => simp [intOf]; omega
    · go_wp2
      go_ret
      exact ⟨rfl, _, rfl⟩
set_option maxHeartbeats 400000 in
theorem Ops8_calls (a b : Option Addr) (ca cb : Nat) (l : List OpD) (w : World) (h0 : At w a l) (h1 : At w b l) (hl : l.length ≤ 1000000000) :
    Calls Try.prog 19 #[.slice a l.length ca, .slice b l.length cb] w fun e w' => e = .returned (.bool true) ∧ ∃ n, w' = w.drewN n := by
  go_enter Try.func19, Try.ntmps19
  go_wp2
  go_loopw [5] (fun i wr => ∃ k : Nat, k ≤ l.length ∧ i = .int .i64 k ∧ ∃ q, wr = w.drewN q) (fun i _ => l.length - (intOf i).toNat)
  case atStart => exact ⟨0, by omega, rfl, ⟨0, rfl⟩⟩
  case round =>
    obtain ⟨k, hk, rfl, q, rfl⟩ := hrel
    by_cases hlt : k < l.length
    · obtain ⟨b1, off1, x, rfl, hx, hc0, hc1, hc2, hc3, hc4⟩ := h0.getOp (Below.refl _ _) hlt
      obtain ⟨b2, off2, y, rfl, hy, hd0, hd1, hd2, hd3, hd4⟩ := h1.getOp (Below.refl _ _) hlt
      obtain rfl : x = y := by have := hx.out.symm.trans hy.out; simpa using this
      go_wp2
      go_quiet (fail)
      go_wp2
      go_roundw
      case rel => exact ⟨k + 1, by omega, by go_num, ⟨_, rfl⟩⟩
      case measure => simp [intOf]; omega
    · go_wp2
      go_ret
      exact ⟨rfl, _, rfl⟩
end Go.Proofs.Ytoklehndfncmnaa
