/- Chapter 21: TapeBack. -/
import Derived.Deep.RegionLaw
import Derived.Test.YtmmepffdjmpblaaGreatW21a
import Derived.Test.YtmmepffdjmpblaaGreatQa
namespace Go.Proofs.YtmmepffdjmpblaaGreat
set_option linter.unusedVariables false
set_option linter.unusedSimpArgs false
open Go.RowKit
/-- so many noughts -/
def zerosU (n : Nat) : Array Value := (List.replicate n (Value.int .u64 0)).toArray
theorem zeros_made (n : Nat) : madeCells #[Value.int .u64 0] n = zerosU n := by
  apply Array.ext
  · simp [madeCells, zerosU]
  · intro i h1 h2
    simp [madeCells, zerosU, Nat.mod_one]
theorem mkU (n : Nat) (N : Int) (hN : N = (n : Int)) (hn : n ≤ 1000000000) (W : World) : (Instr.makeSlice 25 (.int .i64 N) (.int .i64 N)).run Tryz.prog W = .ok (.slice (some ⟨W.heap.size, 0, none⟩) n n) (W.alloc (.cells (zerosU n) 50)) := by
  subst hN
  rw [← zeros_made]
  exact run_make_row' 25 50 (.int .u64 0) 8 Tryz.underlying25 (by kernel_rfl) rfl .i64 .i64 n (by omega) (by omega) W
theorem ownZ {B : Nat} (W : World) (hB : B ≤ W.heap.size) (n : Nat) (hn : n ≤ 1000000000) : Own (W.alloc (.cells (zerosU n) 50)) B 50 (some ⟨W.heap.size, 0, none⟩) n (List.replicate n (0 : UInt64)) :=
  Own.made W hB 50 (zerosU n) _ (by rw [enc_map, List.map_replicate]; rfl) (by rw [List.length_replicate]; unfold maxLen; omega) n (by rw [List.length_replicate])
theorem sizeW_bd21 (l : List OpD) : 0 ≤ sizeW l ∧ sizeW l ≤ 65536 := by
  cases hw : well l with
  | false => rw [(size_bad hw).2.1]; omega
  | true =>
    obtain ⟨f, hf, rfl⟩ := forest_of_well l hw
    rw [(sizes_flat hf).1]
    split
    · rename_i h; have := h.2; omega
    · omega
theorem i64_id {x : Int} (h1 : 0 ≤ x) (h2 : x < 9223372036854775808) : IntKind.i64.wrap x = x := by
  simp [IntKind.wrap, IntKind.bits, IntKind.signed]
  omega
theorem uptoS_len21 (regs : Int) (l : List OpD) (r : List UInt64) (m : Int) : (uptoS regs l r m).length ≤ 64 := by
  by_cases h : dimsS regs l r.length = 0
  · obtain ⟨f, rfl, g, hn⟩ := dims_good h
    rw [uptoS_good g hn, runR_length, startR_length _ _ (by omega)]
    have := g.r2; omega
  · rw [uptoS_bad h]; simp
theorem startR_full {n : Nat} {r : List UInt64} (h : r.length = n) : startR n r = r := by subst h; simp [startR]
theorem back21_ok {regs : Int} {l : List OpD} {r t : List UInt64} (h : readyS regs l r.length t.length = 0) :
    dimsS regs l r.length = 0 ∧ recN regs l r.length t.length = sizeW l ∧ uptoS regs l r (-1) = recR regs l r t ∧ undS regs l (recR regs l r t) (recT regs l r t) = r := by
  obtain ⟨f, rfl, g, hn, hu⟩ := ready_good h
  obtain ⟨e1, e2, e3, _⟩ := rec_good g hn hu
  rw [e1, e2, e3]
  refine ⟨dims_of_good g (by omega), g.sizeW.1.symm, ?_, ?_⟩
  · rw [uptoS_good g (by omega), startR_full (by omega)]; rfl
  · obtain ⟨_, _, _, e4⟩ := rec_good g (r := runR f.unroll r) (t := tpR f.unroll r t) (by rw [runR_length]; exact hn) (by rw [tpR_length _ _ _ hu]; exact hu)
    rw [e4, undo_tp]
theorem back21_no {regs : Int} {l : List OpD} {rn tn : Nat} (h : readyS regs l rn tn ≠ 0) (hw : sizeW l ≤ (tn : Int)) : dimsS regs l rn ≠ 0 ∨ (dimsS regs l rn = 0 ∧ (rn : Int) < regs ∧ readyS regs l rn tn = 10) := by
  by_cases hc : checkS regs l = 0
  · obtain ⟨f, rfl, g⟩ := good_of_check hc
    rw [g.sizeW.1] at hw
    have hn : ¬ (rn : Int) = regs := fun hn => h (ready_of_good g hn (by omega))
    by_cases hd : regs < (rn : Int)
    · left; unfold dimsS; rw [if_neg (by simpa using hc), if_pos hd]; decide
    · right
      refine ⟨dims_of_good g (by omega), by omega, ?_⟩
      unfold readyS; rw [if_neg (by simpa using hc), if_pos hn]
  · left; unfold dimsS; rw [if_pos hc]; exact hc
end Go.Proofs.YtmmepffdjmpblaaGreat
