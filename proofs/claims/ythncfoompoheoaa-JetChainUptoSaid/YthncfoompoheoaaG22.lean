/- Chapter 22: what must come at any rate. -/
import Derived.RegionTactic
import Derived.BigRegion
import Derived.Deep.OwnRows
import Derived.Test.YthncfoompoheoaaS22d
import Derived.Test.YthncfoompoheoaaG21
namespace Go.Proofs.Ythncfoompoheoaa
set_option linter.unusedVariables false
set_option linter.unusedSimpArgs false
open Go.RowKit
def ex22 : Fo := .leaf ⟨3, 0, 0, 1, 0⟩ .nil
theorem ex22_good : Good 2 ex22 := good_of_lit (by simp [ex22, Fo.ok]) (by decide)
theorem ex22_pull : pullE 2 ex22.flat 2 2 = 0 ∧ pullA 2 ex22.flat [5, 3] [1, 0] = [3, 5] := by
  refine ⟨pull_of_good ex22_good (by decide) (by decide), ?_⟩
  rw [pullA_good ex22_good (by decide) (by decide)]
  decide
set_option maxRecDepth 100000 in
set_option maxHeartbeats 3200000 in
theorem goes22_calls (w : World) : Calls Try.prog 24 #[] w fun e w' => e = .returned (.bool true) ∧ Below w.heap.size w w' := by
  have hx0 : At (w.alloc (.cells #[.int .i64 3, .int .i64 0, .int .i64 0, .int .i64 1, .int .u64 0] 99)) (some ⟨w.heap.size, 0, none⟩) ex22.flat := At.ofBlk (Blk.new w _ #[.int .i64 3, .int .i64 0, .int .i64 0, .int .i64 1, .int .u64 0]) ex22.flat rfl
  have hB0 := below_new12 w (.cells #[.int .i64 3, .int .i64 0, .int .i64 0, .int .i64 1, .int .u64 0] 99)
  have hx1 := hx0.belowN (below_new12 _ (.cells #[.int .i64 2, .slice (some ⟨w.heap.size, 0, none⟩) 1 1] 24))
  have hX1 := Blk.new (w.alloc (.cells #[.int .i64 3, .int .i64 0, .int .i64 0, .int .i64 1, .int .u64 0] 99)) 24 #[.int .i64 2, .slice (some ⟨w.heap.size, 0, none⟩) 1 1]
  have hB1 := hB0.trans ((below_new12 _ (.cells #[.int .i64 2, .slice (some ⟨w.heap.size, 0, none⟩) 1 1] 24)).mono hB0.size)
  have hz0 : (w.alloc (.cells #[.int .i64 3, .int .i64 0, .int .i64 0, .int .i64 1, .int .u64 0] 99)).heap.size = w.heap.size + 1 := by simp
  rw [hz0] at hX1
  obtain ⟨w1, hw1⟩ : ∃ w1, w1 = ((w.alloc (.cells #[.int .i64 3, .int .i64 0, .int .i64 0, .int .i64 1, .int .u64 0] 99)).alloc (.cells #[.int .i64 2, .slice (some ⟨w.heap.size, 0, none⟩) 1 1] 24)) := ⟨_, rfl⟩
  have hz1 : w1.heap.size = w.heap.size + 2 := by rw [hw1]; simp
  rw [← hw1] at hx1 hX1 hB1
  have hB3 := hB1.trans ((below2 w1 (.cells #[.int .u64 5, .int .u64 3] 68) (.cells #[.int .u64 1, .int .u64 0] 68)).mono hB1.size)
  have hx3 := hx1.belowN (below2 w1 (.cells #[.int .u64 5, .int .u64 3] 68) (.cells #[.int .u64 1, .int .u64 0] 68))
  have hX3 := hX1.belowN (below2 w1 (.cells #[.int .u64 5, .int .u64 3] 68) (.cells #[.int .u64 1, .int .u64 0] 68))
  have h53 := ((At.ofBlk (Blk.new w1 68 #[.int .u64 5, .int .u64 3]) [(5 : UInt64), 3] rfl).belowN (below_new12 _ (.cells #[.int .u64 1, .int .u64 0] 68)))
  have h10 := At.ofBlk (Blk.new (w1.alloc (.cells #[.int .u64 5, .int .u64 3] 68)) 68 #[.int .u64 1, .int .u64 0]) [(1 : UInt64), 0] rfl
  rw [show (w1.alloc (.cells #[.int .u64 5, .int .u64 3] 68)).heap.size = w.heap.size + 2 + 1 by simp [hz1]] at h10
  rw [hz1] at h53
  obtain ⟨w3, hw3⟩ : ∃ w3, w3 = ((w1.alloc (.cells #[.int .u64 5, .int .u64 3] 68)).alloc (.cells #[.int .u64 1, .int .u64 0] 68)) := ⟨_, rfl⟩
  rw [← hw3] at hB3 hx3 hX3 h53 h10
  have HW3 : Hid (((((w.alloc (.cells #[.int .i64 3, .int .i64 0, .int .i64 0, .int .i64 1, .int .u64 0] 99)).alloc (.cells #[.int .i64 2, .slice (some ⟨w.heap.size, 0, none⟩) 1 1] 24)).alloc (.cells #[.int .u64 5, .int .u64 3] 68)).alloc (.cells #[.int .u64 1, .int .u64 0] 68)) = w3) := by show _ = _; rw [← hw1, ← hw3]
  have h35 : ∀ W : World, At (W.alloc (.cells #[.int .u64 3, .int .u64 5] 68)) (some ⟨W.heap.size, 0, none⟩) [(3 : UInt64), 5] := fun W => At.ofBlk (Blk.new W _ #[.int .u64 3, .int .u64 5]) [(3 : UInt64), 5] rfl
  have H35 := hide h35
  clear h35 hx0 hB0 hw1 hw3 hz0 hx1 hX1
  go_enter Try.func24, Try.ntmps24
  go_wp2_with (first
    | (go_at_call 25; go_must (rw [HW3.out]; (with_reducible refine (Pull_calls 2 _ 1 1 ex22.flat rfl _ 2 2 [5, 3] rfl _ 2 2 [1, 0] rfl [3, 5] 0 ex22_pull.2 ex22_pull.1 w3 hx3 (by omega) h53 h10 (by omega) (by omega)).mono ?_); rintro e w4 ⟨a4, c4, rfl, hA4, hb4⟩; have hB4 := hB3.trans (hb4.mono hB3.size); have hA5 := (hA4.alloc (.cells #[.int .u64 3, .int .u64 5] 68)).at_))
    | (go_at_call 27; go_must ((with_reducible refine (Same5N _ _ 2 2 _ _ [3, 5] _ rfl rfl hA5 (H35.out w4) (by omega)).mono ?_); rintro e w6 ⟨rfl, q6, rfl⟩)))
  go_ret
  exact ⟨rfl, below_drewN (hB4.alloc hB4.size _) _⟩
end Go.Proofs.Ythncfoompoheoaa
