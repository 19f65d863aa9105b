/- The walks of chapter 5: the program's reader, case by case. -/
import Derived.Test.YtgakjkeigoiekaaW5d
namespace Go.Proofs.Ytgakjkeigoiekaa
set_option linter.unusedVariables false
set_option linter.unusedSimpArgs false
open Go.RowKit

section
variable {w : World} {rb : Nat} {a : Option Addr} {c : Nat} {r : List UInt64} {e : Int}

set_option maxHeartbeats 400000 in
theorem fail_calls (n : Nat) (code : Int) (h : Blk w rb 89 #[.slice a n c, .int .i64 0]) :
    Calls Try.prog 46 #[.pointer (some ⟨rb, 0, none⟩), .int .i64 code] w fun o w' => o = .returned (.tuple #[]) ∧ w' = w.setCell ⟨rb, 1, none⟩ (.int .i64 code) := by
  obtain ⟨p0, p1, p2, p3⟩ := h.c2
  go_enter Try.func46, Try.ntmps46
  go_wp2
  go_end0
  exact ⟨rfl, rfl⟩

set_option maxHeartbeats 400000 in
theorem peek1 (n : Nat) (he : e ≠ 0) (h : Blk w rb 89 #[.slice a n c, .int .i64 e]) :
    Calls Try.prog 55 #[.pointer (some ⟨rb, 0, none⟩)] w fun o w' => o = .returned (.tuple #[.int .u64 0, .bool false]) ∧ w = w' := by
  obtain ⟨p0, p1, p2, p3⟩ := h.c2
  have he' : (e != 0) = true := by simpa using he
  go_enter Try.func55, Try.ntmps55
  go_wp2
  go_ret2
  exact ⟨rfl, rfl⟩

set_option maxHeartbeats 400000 in
theorem peek2 (h : Blk w rb 89 #[.slice a 0 c, .int .i64 0]) :
    Calls Try.prog 55 #[.pointer (some ⟨rb, 0, none⟩)] w fun o w' => o = .returned (.tuple #[.int .u64 0, .bool false]) ∧ w' = w.setCell ⟨rb, 1, none⟩ (.int .i64 4) := by
  obtain ⟨p0, p1, p2, p3⟩ := h.c2
  go_enter Try.func55, Try.ntmps55
  go_wp2_with (go_at_call 46; refine (fail_calls 0 4 h).mono ?_; rintro o w1 ⟨rfl, rfl⟩)
  go_ret2
  exact ⟨rfl, rfl⟩

set_option maxHeartbeats 400000 in
theorem peek3 (x : UInt64) (h : Blk w rb 89 #[.slice a r.length c, .int .i64 0]) (hat : At w a r) (hx : r[0]? = some x) :
    Calls Try.prog 55 #[.pointer (some ⟨rb, 0, none⟩)] w fun o w' => o = .returned (.tuple #[.int .u64 (x.toNat : Int), .bool true]) ∧ w = w' := by
  have hpos : 0 < r.length := (List.getElem?_eq_some_iff.1 hx).1
  obtain ⟨b, off, y, rfl, hy, hc⟩ := hat.getU (Below.refl _ _) hpos
  obtain rfl : x = y := by have := hx.symm.trans hy.out; simpa using this
  rw [Nat.add_zero] at hc
  obtain ⟨p0, p1, p2, p3⟩ := h.c2
  clear hx hy
  go_enter Try.func55, Try.ntmps55
  go_wp2
  go_ret2
  exact ⟨rfl, rfl⟩

set_option maxHeartbeats 400000 in
theorem small1 (n : Nat) (most : Int) (he : e ≠ 0) (h : Blk w rb 89 #[.slice a n c, .int .i64 e]) :
    Calls Try.prog 45 #[.pointer (some ⟨rb, 0, none⟩), .int .i64 most] w fun o w' => o = .returned (.tuple #[.int .i64 0, .bool false]) ∧ w = w' := by
  go_enter Try.func45, Try.ntmps45
  go_wp2_with (go_at_call 55; refine (peek1 n he h).mono ?_; rintro o w1 ⟨rfl, rfl⟩)
  go_ret2
  exact ⟨rfl, rfl⟩

set_option maxHeartbeats 400000 in
theorem small2 (most : Int) (h : Blk w rb 89 #[.slice a 0 c, .int .i64 0]) :
    Calls Try.prog 45 #[.pointer (some ⟨rb, 0, none⟩), .int .i64 most] w fun o w' => o = .returned (.tuple #[.int .i64 0, .bool false]) ∧ w' = w.setCell ⟨rb, 1, none⟩ (.int .i64 4) := by
  go_enter Try.func45, Try.ntmps45
  go_wp2_with (go_at_call 55; refine (peek2 h).mono ?_; rintro o w1 ⟨rfl, rfl⟩)
  go_ret2
  exact ⟨rfl, rfl⟩

set_option maxHeartbeats 400000 in
theorem small3 (x : UInt64) (most : Int) (h : Blk w rb 89 #[.slice a r.length c, .int .i64 0]) (hat : At w a r) (hx : r[0]? = some x) (hm : most < 0 ∨ most < x.toNat) (hm1 : -9223372036854775808 ≤ most) (hm2 : most ≤ 9223372036854775807) :
    Calls Try.prog 45 #[.pointer (some ⟨rb, 0, none⟩), .int .i64 most] w fun o w' => o = .returned (.tuple #[.int .i64 0, .bool false]) ∧ w' = w.setCell ⟨rb, 1, none⟩ (.int .i64 2) := by
  have hX := hide hx
  have hM := hide hm
  have hl := x.toNat_lt
  clear hx hm
  rcases Int.lt_or_le most 0 with hm0 | hm0
  · go_enter Try.func45, Try.ntmps45
    go_wp2_with (first
      | (go_at_call 55; refine (peek3 x h hat hX.out).mono ?_; rintro o w1 ⟨rfl, rfl⟩)
      | (go_at_call 46; refine (fail_calls r.length 2 h).mono ?_; rintro o w1 ⟨rfl, rfl⟩))
    go_ret2
    exact ⟨rfl, rfl⟩
  · have hm3 : most < x.toNat := by have := hM.out; omega
    go_enter Try.func45, Try.ntmps45
    go_wp2_with (first
      | (go_at_call 55; refine (peek3 x h hat hX.out).mono ?_; rintro o w1 ⟨rfl, rfl⟩)
      | (go_at_call 46; refine (fail_calls r.length 2 h).mono ?_; rintro o w1 ⟨rfl, rfl⟩))
    go_ret2
    exact ⟨rfl, rfl⟩

set_option maxHeartbeats 400000 in
theorem small4 (x : UInt64) (most : Int) (h : Blk w rb 89 #[.slice a r.length c, .int .i64 0]) (hat : At w a r) (hx : r[0]? = some x) (hm : 0 ≤ most) (hm3 : (x.toNat : Int) ≤ most) (hm2 : most ≤ 9223372036854775807) :
    Calls Try.prog 45 #[.pointer (some ⟨rb, 0, none⟩), .int .i64 most] w fun o w' => o = .returned (.tuple #[.int .i64 (x.toNat : Int), .bool true]) ∧ w = w' := by
  have hX := hide hx
  clear hx
  go_enter Try.func45, Try.ntmps45
  go_wp2_with (go_at_call 55; refine (peek3 x h hat hX.out).mono ?_; rintro o w1 ⟨rfl, rfl⟩)
  go_ret2
  exact ⟨rfl, rfl⟩
end
end Go.Proofs.Ytgakjkeigoiekaa
