/- Chapter 7: partials, the program's and the document's. -/
import Derived.Test.YtmmepffdjmpblaaGreatQc
import Derived.Test.YtmmepffdjmpblaaGreatQc
import Derived.Test.YtmmepffdjmpblaaGreatQc
namespace Go.Proofs.YtmmepffdjmpblaaGreat
set_option linter.unusedVariables false
set_option linter.unusedSimpArgs false
open Go.RowKit
theorem part_no {x : OpD} (a b : UInt64) (h : x.kind < 0 ∨ 7 < x.kind) : partU x a b = (0, 0) := by
  unfold partU
  rw [if_neg (by omega), if_neg (by omega), if_neg (by omega), if_neg (by omega), if_neg (by omega)]
theorem ret_uu {a b c d : Int} (h : a = b) (k : c = d) : Ending.returned (.tuple #[.int .u64 a, .int .u64 c]) = .returned (.tuple #[.int .u64 b, .int .u64 d]) := by rw [h, k]
theorem Partials_calls (x : OpD) (a b : UInt64) (w : World) : Calls Tryz.prog 98 #[.agg #[.int .i64 x.kind, .int .i64 x.d, .int .i64 x.a, .int .i64 x.b, .int .u64 (x.v.toNat : Int)], .int .u64 (a.toNat : Int), .int .u64 (b.toNat : Int)] w fun e w' => e = .returned (.tuple #[.int .u64 ((partU x a b).1.toNat : Int), .int .u64 ((partU x a b).2.toNat : Int)]) ∧ Below w.heap.size w w' := by
  obtain ⟨k, rd, ra, rb, v⟩ := x
  simp only
  rcases kind8 k with h | rfl | rfl | rfl | rfl | rfl | rfl | rfl | rfl | h
  case inl =>
    obtain ⟨h0, h1, h2, h3, h4, h5, h6, h7⟩ := kind_no (.inl h)
    go_enter Tryz.func98, Tryz.ntmps98
    go_wp2
    go_ret2
    exact ⟨ret_uu (by rw [part_no a b (.inl h)]; rfl) (by rw [part_no a b (.inl h)]; rfl), (by with_reducible repeat first | exact Below.refl _ _ | assumption | refine below_drewN ?_ _ | refine Below.drew ?_ | refine Below.alloc ?_ (by simp <;> omega) _ | refine Below.setCell ?_ (by simp <;> omega) _)⟩
  case inr.inr.inr.inr.inr.inr.inr.inr.inr =>
    obtain ⟨h0, h1, h2, h3, h4, h5, h6, h7⟩ := kind_no (.inr h)
    go_enter Tryz.func98, Tryz.ntmps98
    go_wp2
    go_ret2
    exact ⟨ret_uu (by rw [part_no a b (.inr h)]; rfl) (by rw [part_no a b (.inr h)]; rfl), (by with_reducible repeat first | exact Below.refl _ _ | assumption | refine below_drewN ?_ _ | refine Below.drew ?_ | refine Below.alloc ?_ (by simp <;> omega) _ | refine Below.setCell ?_ (by simp <;> omega) _)⟩
  all_goals
    go_enter Tryz.func98, Tryz.ntmps98
    go_wp2
    go_ret2
    exact ⟨ret_uu rfl rfl, (by with_reducible repeat first | exact Below.refl _ _ | assumption | refine below_drewN ?_ _ | refine Below.drew ?_ | refine Below.alloc ?_ (by simp <;> omega) _ | refine Below.setCell ?_ (by simp <;> omega) _)⟩
theorem RPartials_calls (x : OpD) (a b : UInt64) (w : World) : Calls Tryz.prog 70 #[.agg #[.int .i64 x.kind, .int .i64 x.d, .int .i64 x.a, .int .i64 x.b, .int .u64 (x.v.toNat : Int)], .int .u64 (a.toNat : Int), .int .u64 (b.toNat : Int)] w fun e w' => e = .returned (.tuple #[.int .u64 ((partU x a b).1.toNat : Int), .int .u64 ((partU x a b).2.toNat : Int)]) ∧ Below w.heap.size w w' := by
  have HN := hide (fun w => Neg_calls 1 w)
  have hX := fun (w1 : World) (hb1 : Below (w.alloc (.cells #[.int .i64 x.kind, .int .i64 x.d, .int .i64 x.a, .int .i64 x.b, .int .u64 (x.v.toNat : Int)] 71)).heap.size (w.alloc (.cells #[.int .i64 x.kind, .int .i64 x.d, .int .i64 x.a, .int .i64 x.b, .int .u64 (x.v.toNat : Int)] 71)) w1) => box5 hb1
  have HX := hide hX
  clear hX
  obtain ⟨k, rd, ra, rb, v⟩ := x
  simp only at *
  have k1 : Hid ((1 : UInt64).toNat = 1) := hide rfl
  rcases kind8 k with h | rfl | rfl | rfl | rfl | rfl | rfl | rfl | rfl | h
  case inl =>
    obtain ⟨h0, h1, h2, h3, h4, h5, h6, h7⟩ := kind_no (.inl h)
    go_enter Tryz.func70, Tryz.ntmps70
    go_wp2_with (go_at_call 88; go_must ((refine (HN.out _).mono ?_); rintro e w1 ⟨rfl, hb1⟩; obtain ⟨hz, hB1, hX⟩ := HX.out _ hb1; obtain ⟨x0, x1, x2, x3, x4, y0, y1, y2, y3, y4⟩ := hX.c5))
    go_ret2
    exact ⟨ret_uu (by rw [part_no a b (.inl h)]; rfl) (by rw [part_no a b (.inl h)]; rfl), hB1⟩
  case inr.inr.inr.inr.inr.inr.inr.inr.inr =>
    obtain ⟨h0, h1, h2, h3, h4, h5, h6, h7⟩ := kind_no (.inr h)
    go_enter Tryz.func70, Tryz.ntmps70
    go_wp2_with (go_at_call 88; go_must ((refine (HN.out _).mono ?_); rintro e w1 ⟨rfl, hb1⟩; obtain ⟨hz, hB1, hX⟩ := HX.out _ hb1; obtain ⟨x0, x1, x2, x3, x4, y0, y1, y2, y3, y4⟩ := hX.c5))
    go_ret2
    exact ⟨ret_uu (by rw [part_no a b (.inr h)]; rfl) (by rw [part_no a b (.inr h)]; rfl), hB1⟩
  all_goals
    go_enter Tryz.func70, Tryz.ntmps70
    go_wp2_with (go_at_call 88; go_must ((refine (HN.out _).mono ?_); rintro e w1 ⟨rfl, hb1⟩; obtain ⟨hz, hB1, hX⟩ := HX.out _ hb1; obtain ⟨x0, x1, x2, x3, x4, y0, y1, y2, y3, y4⟩ := hX.c5))
    go_ret2
    exact ⟨ret_uu rfl rfl, hB1⟩
end Go.Proofs.YtmmepffdjmpblaaGreat
