/- Chapter 23: ChainNil. -/
import Derived.Test.YtjfpnbnkfcgjcaaC23l
namespace Go.Proofs.Ytjfpnbnkfcgjcaa
set_option linter.unusedVariables false
set_option linter.unusedSimpArgs false
open Go.RowKit
theorem May_nil (t : Int) (a : Option Addr) (n c : Nat) (w : World) :
    Calls Try.prog 69 #[.pointer none, .int .i64 t, .slice a n c] w fun e w' => e = .returned (.int .i64 1) ∧ w' = w := by
  go_enter Try.func69, Try.ntmps69
  go_wp2
  go_ret
  exact ⟨rfl, rfl⟩
theorem Step_nil (t : Int) (a : Option Addr) (n c : Nat) (w : World) :
    Calls Try.prog 34 #[.pointer none, .int .i64 t, .slice a n c] w fun e w' => ∃ v, e = .returned (.tuple #[v, .int .i64 1]) ∧ w' = w := by
  go_enter Try.func34, Try.ntmps34
  go_wp2_with (go_at_call 69; go_must ((with_reducible refine (May_nil _ _ _ _ _).mono ?_); rintro e w1 ⟨rfl, rfl⟩))
  go_ret2
  exact ⟨_, rfl, rfl⟩
theorem Loss_nil (a : Option Addr) (n c : Nat) (w : World) :
    Calls Try.prog 35 #[.pointer none, .slice a n c] w fun e w' => ∃ v, e = .returned (.tuple #[v, .int .i64 1]) ∧ w' = w := by
  go_enter Try.func35, Try.ntmps35
  go_wp2_with (go_at_call 69; go_must ((with_reducible refine (May_nil _ _ _ _ _).mono ?_); rintro e w1 ⟨rfl, rfl⟩))
  go_ret2
  exact ⟨_, rfl, rfl⟩
theorem PullLoss_nil (a : Option Addr) (n c : Nat) (w : World) :
    Calls Try.prog 39 #[.pointer none, .slice a n c] w fun e w' => ∃ v v2, e = .returned (.tuple #[v, v2, .int .i64 1]) ∧ w' = w := by
  go_enter Try.func39, Try.ntmps39
  go_wp2_with (go_at_call 69; go_must ((with_reducible refine (May_nil _ _ _ _ _).mono ?_); rintro e w1 ⟨rfl, rfl⟩))
  go_ret3
  exact ⟨_, _, rfl, rfl⟩
theorem PullStep_nil (t : Int) (a : Option Addr) (n c : Nat) (a2 : Option Addr) (n2 c2 : Nat) (w : World) :
    Calls Try.prog 38 #[.pointer none, .int .i64 t, .slice a n c, .slice a2 n2 c2] w fun e w' => ∃ v v2, e = .returned (.tuple #[v, v2, .int .i64 1]) ∧ w' = w := by
  go_enter Try.func38, Try.ntmps38
  go_wp2_with (go_at_call 69; go_must ((with_reducible refine (May_nil _ _ _ _ _).mono ?_); rintro e w1 ⟨rfl, rfl⟩))
  go_ret3
  exact ⟨_, _, rfl, rfl⟩
theorem Each_nil (t : Int) (a : Option Addr) (n c : Nat) (F : Value) (w : World) :
    Calls Try.prog 71 #[.pointer none, .slice a n c, .int .i64 t, F] w fun e w' => e = .returned (.int .i64 1) ∧ w' = w := by
  go_enter Try.func71, Try.ntmps71
  go_wp2_with (go_at_call 69; go_must ((with_reducible refine (May_nil _ _ _ _ _).mono ?_); rintro e w1 ⟨rfl, rfl⟩))
  go_ret
  exact ⟨rfl, rfl⟩
theorem States_nil (t : Int) (a : Option Addr) (n c : Nat) (w : World) :
    Calls Try.prog 36 #[.pointer none, .slice a n c, .int .i64 t] w fun e w' => ∃ v, e = .returned (.tuple #[v, .int .i64 1]) ∧ Below w.heap.size w w' := by
  have hb0 := below_new12 w (.cells #[.slice none 0 0] 120)
  go_enter Try.func36, Try.ntmps36
  go_wp2_with (go_at_call 71; go_must ((with_reducible refine (Each_nil _ _ _ _ _ _).mono ?_); rintro e w1 ⟨rfl, rfl⟩))
  go_ret2
  exact ⟨_, rfl, hb0⟩
theorem Run_nil (t : Int) (a : Option Addr) (n c : Nat) (w : World) :
    Calls Try.prog 37 #[.pointer none, .slice a n c, .int .i64 t] w fun e w' => ∃ v v2, e = .returned (.tuple #[v, v2, .int .i64 1]) ∧ Below w.heap.size w w' := by
  have hb0 := below_new12 w (.cells #[.slice none 0 0] 25)
  go_enter Try.func37, Try.ntmps37
  go_wp2_with (go_at_call 71; go_must ((with_reducible refine (Each_nil _ _ _ _ _ _).mono ?_); rintro e w1 ⟨rfl, rfl⟩))
  go_ret3
  exact ⟨_, _, rfl, hb0⟩
set_option maxRecDepth 100000 in
set_option maxHeartbeats 3200000 in
theorem ChainNil_calls (t : Int) (ra : Option Addr) (rn rc : Nat) (w : World) :
    Calls Try.prog 12 #[.int .i64 t, .slice ra rn rc] w fun e w' => e = .returned (.bool true) ∧ Below w.heap.size w w' := by
  go_enter Try.func12, Try.ntmps12
  go_wp2_with (first
    | (go_at_call 34; go_must ((with_reducible refine (Step_nil _ _ _ _ _).mono ?_); rintro e w1 ⟨v1, rfl, hw1⟩; subst hw1))
    | (go_at_call 35; go_must ((with_reducible refine (Loss_nil _ _ _ _).mono ?_); rintro e w2 ⟨v2, rfl, hw2⟩; subst hw2))
    | (go_at_call 36; go_must ((with_reducible refine (States_nil _ _ _ _ _).mono ?_); rintro e w3 ⟨v3, rfl, hb3⟩))
    | (go_at_call 37; go_must ((with_reducible refine (Run_nil _ _ _ _ _).mono ?_); rintro e w4 ⟨v4, v5, rfl, hb4⟩; have hC4 := hb3.trans (hb4.mono hb3.size)))
    | (go_at_call 38; go_must ((with_reducible refine (PullStep_nil _ _ _ _ _ _ _ _).mono ?_); rintro e w5 ⟨v6, v7, rfl, hw5⟩; subst hw5))
    | (go_at_call 39; go_must ((with_reducible refine (PullLoss_nil _ _ _ _).mono ?_); rintro e w6 ⟨v8, v9, rfl, hw6⟩; subst hw6))
    | (go_at_call 40; go_must ((with_reducible refine (goes23_calls _).mono ?_); rintro e w7 ⟨rfl, hb7⟩; have hC7 := hC4.trans (hb7.mono hC4.size))))
  go_ret
  exact ⟨rfl, hC7⟩
end Go.Proofs.Ytjfpnbnkfcgjcaa
