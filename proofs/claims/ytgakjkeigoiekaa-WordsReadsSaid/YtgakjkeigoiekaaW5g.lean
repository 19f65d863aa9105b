/- The walks of chapter 5: a reader that is none; what is left, the error, the end; a new reader; the law WordsNil. -/
import Derived.Test.YtgakjkeigoiekaaW5f
namespace Go.Proofs.Ytgakjkeigoiekaa
set_option linter.unusedVariables false
set_option linter.unusedSimpArgs false
open Go.RowKit

set_option maxHeartbeats 400000 in
theorem peekN (w : World) : Calls Try.prog 55 #[.pointer none] w fun o w' => o = .returned (.tuple #[.int .u64 0, .bool false]) ∧ w = w' := by
  go_enter Try.func55, Try.ntmps55
  go_wp2
  go_ret2
  exact ⟨rfl, rfl⟩
set_option maxHeartbeats 400000 in
theorem smallN (w : World) (most : Int) : Calls Try.prog 45 #[.pointer none, .int .i64 most] w fun o w' => o = .returned (.tuple #[.int .i64 0, .bool false]) ∧ w = w' := by
  go_enter Try.func45, Try.ntmps45
  go_wp2_with (go_at_call 55; refine (peekN _).mono ?_; rintro o w1 ⟨rfl, rfl⟩)
  go_ret2
  exact ⟨rfl, rfl⟩
set_option maxHeartbeats 400000 in
theorem WordN (w : World) : Calls Try.prog 38 #[.pointer none] w fun o w' => o = .returned (.int .u64 0) ∧ w = w' := by
  go_enter Try.func38, Try.ntmps38
  go_wp2_with (go_at_call 55; refine (peekN _).mono ?_; rintro o w1 ⟨rfl, rfl⟩)
  go_ret
  exact ⟨rfl, rfl⟩
set_option maxHeartbeats 400000 in
theorem IntN (w : World) (most : Int) : Calls Try.prog 39 #[.pointer none, .int .i64 most] w fun o w' => o = .returned (.int .i64 0) ∧ w = w' := by
  go_enter Try.func39, Try.ntmps39
  go_wp2_with (go_at_call 45; refine (smallN _ _).mono ?_; rintro o w1 ⟨rfl, rfl⟩)
  go_ret
  exact ⟨rfl, rfl⟩
set_option maxHeartbeats 400000 in
theorem ListN (w : World) (most : Int) : Calls Try.prog 22 #[.pointer none, .int .i64 most] w fun o w' => o = .returned (.slice none 0 0) ∧ w = w' := by
  go_enter Try.func22, Try.ntmps22
  go_wp2_with (go_at_call 45; refine (smallN _ _).mono ?_; rintro o w1 ⟨rfl, rfl⟩)
  go_ret
  exact ⟨rfl, rfl⟩
set_option maxHeartbeats 400000 in
theorem LeftN (w : World) : Calls Try.prog 36 #[.pointer none] w fun o w' => o = .returned (.int .i64 0) ∧ w = w' := by
  go_enter Try.func36, Try.ntmps36
  go_wp2
  go_ret
  exact ⟨rfl, rfl⟩
set_option maxHeartbeats 400000 in
theorem ErrN (w : World) : Calls Try.prog 40 #[.pointer none] w fun o w' => o = .returned (.int .i64 1) ∧ w = w' := by
  go_enter Try.func40, Try.ntmps40
  go_wp2
  go_ret
  exact ⟨rfl, rfl⟩
set_option maxHeartbeats 400000 in
theorem EndN (w : World) : Calls Try.prog 37 #[.pointer none] w fun o w' => o = .returned (.int .i64 1) ∧ w = w' := by
  go_enter Try.func37, Try.ntmps37
  go_wp2_with (go_at_call 40; refine (ErrN _).mono ?_; rintro o w1 ⟨rfl, rfl⟩)
  go_ret
  exact ⟨rfl, rfl⟩

section
variable {w : World} {rb : Nat} {ab : Option Nat} {r : List UInt64} {e : Int}
set_option maxHeartbeats 400000 in
theorem Left_calls (h : Rdr w rb ab r e) : Calls Try.prog 36 #[.pointer (some ⟨rb, 0, none⟩)] w fun o w' => o = .returned (.int .i64 r.length) ∧ w = w' := by
  obtain ⟨a, c, hb, _, _, _, _⟩ := h
  obtain ⟨p0, p1, p2, p3⟩ := hb.c2
  go_enter Try.func36, Try.ntmps36
  go_wp2
  go_ret
  exact ⟨rfl, rfl⟩
set_option maxHeartbeats 400000 in
theorem Err_calls (h : Rdr w rb ab r e) : Calls Try.prog 40 #[.pointer (some ⟨rb, 0, none⟩)] w fun o w' => o = .returned (.int .i64 e) ∧ w = w' := by
  obtain ⟨a, c, hb, _, _, _, _⟩ := h
  obtain ⟨p0, p1, p2, p3⟩ := hb.c2
  go_enter Try.func40, Try.ntmps40
  go_wp2
  go_ret
  exact ⟨rfl, rfl⟩
def endS (r : List UInt64) (e : Int) : Int := if e = 0 then (if r = [] then 0 else 21) else e
set_option maxHeartbeats 400000 in
theorem End_calls (h : Rdr w rb ab r e) : Calls Try.prog 37 #[.pointer (some ⟨rb, 0, none⟩)] w fun o w' => o = .returned (.int .i64 (endS r e)) ∧ w = w' := by
  have h0 := h
  obtain ⟨a, c, hb, _, _, _, _⟩ := h
  obtain ⟨p0, p1, p2, p3⟩ := hb.c2
  by_cases he : e = 0
  · cases r with
    | nil =>
      have hs : endS [] e = 0 := by simp [endS, he]
      rw [hs]
      subst he
      clear hs
      replace p0 : w.cell? ⟨rb, 0, none⟩ = some (.slice a 0 c) := p0
      go_enter Try.func37, Try.ntmps37
      go_wp2_with (go_at_call 40; refine (Err_calls h0).mono ?_; rintro o w1 ⟨rfl, rfl⟩)
      go_ret
      exact ⟨rfl, rfl⟩
    | cons x t =>
      have hs : endS (x :: t) e = 21 := by simp [endS, he]
      rw [hs]
      subst he
      clear hs
      simp only [List.length_cons] at p0
      go_enter Try.func37, Try.ntmps37
      go_wp2_with (go_at_call 40; refine (Err_calls h0).mono ?_; rintro o w1 ⟨rfl, rfl⟩)
      go_ret
      exact ⟨rfl, rfl⟩
  · have hs : endS r e = e := by simp [endS, he]
    rw [hs]
    have he' : (e != 0) = true := by simpa using he
    clear hs
    go_enter Try.func37, Try.ntmps37
    go_wp2_with (go_at_call 40; refine (Err_calls h0).mono ?_; rintro o w1 ⟨rfl, rfl⟩)
    go_ret
    exact ⟨rfl, rfl⟩
end

set_option maxHeartbeats 400000 in
theorem New_calls (w : World) (a : Option Addr) (n c : Nat) (l : List UInt64) (hn : n = l.length) (h : At w a l) (hl : n ≤ 1000000000) :
    Calls Try.prog 21 #[.slice a n c] w fun o w' => ∃ rb ab, o = .returned (.pointer (some ⟨rb, 0, none⟩)) ∧ Rdr w' rb ab l 0 ∧ Below w.heap.size w w' ∧ w.heap.size ≤ rb ∧ ∀ k, ab = some k → w.heap.size ≤ k ∧ k < w'.heap.size := by
  subst hn
  go_enter Try.func21, Try.ntmps21
  go_wp2_with (go_at_call 44; refine (CloneU_calls _ _ _ l _ rfl h hl).mono ?_; rintro o w2 ⟨a2, c2, rfl, hown, hbel⟩)
  go_ret
  have hs := hbel.size
  refine ⟨w2.heap.size, _, rfl, ⟨a2, c2, Blk.new _ _ _, (hown.at_.belowN (Below.alloc (Below.refl _ _) (Nat.le_refl _) _)), hown.cap.1, rfl, fun e => ?_⟩, Below.alloc hbel hs _, hs, fun k hk => ?_⟩
  · have := (hown.blk _ e).2
    omega
  · have := hown.blk _ hk
    simp
    omega

set_option maxHeartbeats 800000 in
theorem WordsNil_calls (w : World) (most : Int) : Calls Try.prog 11 #[.int .i64 most] w fun e w' => e = .returned (.bool true) ∧ Below w.heap.size w w' := by
  go_enter Try.func11, Try.ntmps11
  go_wp2_with (first
    | (go_at_call 38; refine (WordN _).mono ?_; rintro o w1 ⟨rfl, rfl⟩)
    | (go_at_call 39; refine (IntN _ _).mono ?_; rintro o w1 ⟨rfl, rfl⟩)
    | (go_at_call 22; refine (ListN _ _).mono ?_; rintro o w1 ⟨rfl, rfl⟩)
    | (go_at_call 36; refine (LeftN _).mono ?_; rintro o w1 ⟨rfl, rfl⟩)
    | (go_at_call 40; refine (ErrN _).mono ?_; rintro o w1 ⟨rfl, rfl⟩)
    | (go_at_call 37; refine (EndN _).mono ?_; rintro o w1 ⟨rfl, rfl⟩)
    | (go_at_call 14; refine (goes5_calls _).mono ?_; rintro e w8 ⟨rfl, hbel8⟩))
  go_ret
  exact ⟨rfl, hbel8⟩
end Go.Proofs.Ytgakjkeigoiekaa
