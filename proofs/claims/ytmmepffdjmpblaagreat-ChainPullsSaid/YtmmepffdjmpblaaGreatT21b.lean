/- Chapter 21: the machine that goes back. -/
import Derived.StillTailTactics
import Derived.Test.YtmmepffdjmpblaaGreatT21a
namespace Go.Proofs.YtmmepffdjmpblaaGreat
set_option linter.unusedVariables false
set_option linter.unusedSimpArgs false
open Go.RowKit

theorem frame70 {t : Array Value} (h : t.size = 70) {s0 s1 s2 s3 s8 s9 s10 : Value} (h0 : t.getD 0 undef = s0) (h1 : t.getD 1 undef = s1) (h2 : t.getD 2 undef = s2) (h3 : t.getD 3 undef = s3) (h8 : t.getD 8 undef = s8) (h9 : t.getD 9 undef = s9) (h10 : t.getD 10 undef = s10) :
    ∃ u : Nat → Value, t = #[s0, s1, s2, s3, u 4, u 5, u 6, u 7, s8, s9, s10, u 11, u 12, u 13, u 14, u 15, u 16, u 17, u 18, u 19, u 20, u 21, u 22, u 23, u 24, u 25, u 26, u 27, u 28, u 29, u 30, u 31, u 32, u 33, u 34, u 35, u 36, u 37, u 38, u 39, u 40, u 41, u 42, u 43, u 44, u 45, u 46, u 47, u 48, u 49, u 50, u 51, u 52, u 53, u 54, u 55, u 56, u 57, u 58, u 59, u 60, u 61, u 62, u 63, u 64, u 65, u 66, u 67, u 68, u 69] :=
  ⟨fun i => t.getD i undef, by subst h0 h1 h2 h3 h8 h9 h10; exact arr_of_size t 70 h⟩
theorem kept_q {P : List OpD} {x : OpD} : (P ++ [x]).reverse = x :: P.reverse := by simp
/-- Where the machine that goes back stands when `N` steps are to come. -/
def UxJ (code : List (OpD × Int)) (steps : List Tk) (ac : Option Addr) (cc gr nr cr : Nat) (ta : Option Addr) (nt ct Br Bl n : Nat) (r0 t0 : List UInt64) (W : World) (N : Nat) (a' : Act) (wr : World) : Prop :=
  ∃ (pre rest : List Tk) (p : Int) (m k : Nat) (st : List UInt64), a'.defers = [] ∧ a'.tmps.size = 70 ∧
    a'.tmps.getD 0 undef = .slice ac code.length cc ∧ a'.tmps.getD 1 undef = .slice (some ⟨gr, 0, none⟩) nr cr ∧ a'.tmps.getD 2 undef = .slice ta nt ct ∧ a'.tmps.getD 3 undef = .int .i64 (m : Int) ∧ a'.tmps.getD 8 undef = .pointer (some ⟨Bl, 0, none⟩) ∧
    a'.tmps.getD 9 undef = .int .i64 p ∧ a'.tmps.getD 10 undef = .int .i64 (k : Int) ∧
    rest.length = N ∧ p < code.length ∧ k = st.length ∧ k ≤ 8 ∧ ChnB code (p, st) rest (-1, []) ∧ steps = pre ++ rest ∧ m + (wrs (pre.map (·.op))).length = n ∧ m ≤ 1200000 ∧
    LeftAt wr Bl st ∧ Own wr Br 50 (some ⟨gr, 0, none⟩) cr (unR n t0 r0 (wrs (pre.map (·.op))).reverse) ∧ Turned [gr] W wr

end Go.Proofs.YtmmepffdjmpblaaGreat
