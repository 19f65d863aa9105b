/- Several texts of mine in one file: R13, R13b, R13c. -/
import Derived.Test.YtmmepffdjmpblaaGreatQb
import Derived.Test.YtmmepffdjmpblaaGreatQc
import Derived.Test.YtmmepffdjmpblaaGreatQa
import Derived.Test.YtmmepffdjmpblaaGreatQj
import Derived.Test.YtmmepffdjmpblaaGreatQk
/- Chapter 13, the document's answers: Start, Straight. -/
namespace Go.Proofs.YtmmepffdjmpblaaGreat
set_option linter.unusedVariables false
set_option linter.unusedSimpArgs false
open Go.RowKit

def startS (n : Nat) (r : List UInt64) : List UInt64 := (List.range n).map fun i => (r[i]?).getD 0
theorem startS_snoc (n : Nat) (r : List UInt64) : startS (n + 1) r = startS n r ++ [(r[n]?).getD 0] := by unfold startS; rw [List.range_succ, List.map_append]; rfl
theorem startS_length (n : Nat) (r : List UInt64) : (startS n r).length = n := by simp [startS]
theorem startS_eq {n : Nat} {r : List UInt64} (h : r.length ≤ n) : startS n r = startR n r := by
  apply List.ext_getElem?
  intro i
  unfold startS startR
  rw [List.getElem?_map, List.getElem?_append, List.getElem?_replicate]
  by_cases hi : i < n
  · rw [List.getElem?_range hi]
    show some ((r[i]?).getD 0) = _
    by_cases hr : i < r.length
    · rw [if_pos hr, List.getElem?_eq_getElem hr]; rfl
    · rw [if_neg hr, if_pos (by omega), List.getElem?_eq_none (by omega)]; rfl
  · rw [List.getElem?_eq_none (by simp; omega), if_neg (by omega), if_neg (by omega)]; rfl
theorem startS_self (r : List UInt64) : startS r.length r = r := by rw [startS_eq (Nat.le_refl _)]; simp [startR]

set_option maxHeartbeats 800000 in
theorem Start13_calls (n : Nat) (N : Int) (hN : N = (n : Int)) (ra : Option Addr) (rc : Nat) (r : List UInt64) (w : World) (hn : n ≤ 1000000) (hr : At w ra r) (hrl : r.length ≤ 1000000000) :
    Calls Tryz.prog 48 #[.int .i64 N, .slice ra r.length rc] w fun e w' => ∃ a' c', e = .returned (.slice a' n c') ∧ Own w' w.heap.size 50 a' c' (startS n r) ∧ Below w.heap.size w w' := by
  subst hN
  go_enter Tryz.func48, Tryz.ntmps48
  go_wp2
  go_loopw [5, 6] (fun ov iv wr => ∃ (k : Nat) (ao : Option Addr) (co : Nat), iv = .int .i64 k ∧ k ≤ n ∧ ov = .slice ao k co ∧ Own wr w.heap.size 50 ao co (startS k r) ∧ Below w.heap.size w wr) (fun _ iv _ => n - (intOf iv).toNat)
  case atStart => exact ⟨0, _, 0, rfl, by omega, rfl, Own.new w (Nat.le_refl _) _ UInt64, Below.alloc (Below.refl _ _) (Nat.le_refl _) _⟩
  case round =>
    obtain ⟨k, ao, co, rfl, hk, rfl, hown, hb⟩ := hrel
    have hzr := hb.size
    have hkl := startS_length k r
    by_cases hlt : k < n
    · by_cases hkr : k < r.length
      · obtain ⟨b1, off1, x, rfl, hx, c0⟩ := hr.getU hb hkr
        have HX := hide (show startS k r ++ [x] = startS (k + 1) r by rw [startS_snoc, hx.out]; rfl)
        have HKL := hide hkl.symm
        clear hkl
        go_wp2_with (at_builtin; refine wpList_push tyU hown x rfl rfl rfl rfl rfl rfl HKL.out hzr (by omega) ?_; intro a4 c4 w4 hown4 hg4 _)
        go_roundw
        case rel => exact ⟨k + 1, a4, c4, by go_num, by omega, rfl, by rw [← HX.out]; exact hown4, below_push hb hown hg4 hzr⟩
        case measure => simp [intOf]; omega
      · have HX := hide (show startS k r ++ [0] = startS (k + 1) r by rw [startS_snoc, List.getElem?_eq_none (by omega)]; rfl)
        have HKL := hide hkl.symm
        clear hkl
        go_wp2_with (at_builtin; refine wpList_push tyU hown 0 rfl rfl rfl rfl rfl rfl HKL.out hzr (by omega) ?_; intro a4 c4 w4 hown4 hg4 _)
        go_roundw
        case rel => exact ⟨k + 1, a4, c4, by go_num, by omega, rfl, by rw [← HX.out]; exact hown4, below_push hb hown hg4 hzr⟩
        case measure => simp [intOf]; omega
    · obtain rfl : k = n := by omega
      clear hkl
      go_wp2
      go_ret
      exact ⟨ao, co, rfl, hown, hb⟩

theorem runR_snoc (l : List OpD) (r : List UInt64) {k : Nat} {x : OpD} (h : l[k]? = some x) : runR (l.take (k + 1)) r = stepR (runR (l.take k) r) x := by
  rw [List.take_add_one, h]
  show runR (l.take k ++ [x]) r = _
  rw [runR_append]
  rfl
end Go.Proofs.YtmmepffdjmpblaaGreat

/- Chapter 13, the document's answers: Upto, Run, Last. -/
namespace Go.Proofs.YtmmepffdjmpblaaGreat
set_option linter.unusedVariables false
set_option linter.unusedSimpArgs false
open Go.RowKit

end Go.Proofs.YtmmepffdjmpblaaGreat

/- Chapter 13, the document's answers: Last. -/
namespace Go.Proofs.YtmmepffdjmpblaaGreat
set_option linter.unusedVariables false
set_option linter.unusedSimpArgs false
open Go.RowKit

end Go.Proofs.YtmmepffdjmpblaaGreat
