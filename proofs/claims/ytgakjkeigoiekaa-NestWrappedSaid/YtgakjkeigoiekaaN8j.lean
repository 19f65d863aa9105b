/- Chapter 8: what must come at any rate. -/
import Derived.Test.YtgakjkeigoiekaaW5a
import Derived.Test.YtgakjkeigoiekaaN8i
namespace Go.Proofs.Ytgakjkeigoiekaa
set_option linter.unusedVariables false
set_option linter.unusedSimpArgs false
open Go.RowKit

def ex8 : List OpD := [⟨6, 0, 0, 0, 0⟩, ⟨7, 0, 0, 0, 0⟩, ⟨7, 0, 0, 0, 0⟩, ⟨0, 0, 0, 0, 0⟩, ⟨0, 0, 0, 0, 0⟩]
theorem ex8_match : matchS ex8 = ([-1, 4, 3, 2, 1], 0) := by decide
theorem ex8_deep : deepS ex8 = (2, 0) := by decide
theorem ex8_around : aroundS ex8 2 = ([1], 0) := by decide
theorem ex8_parts : partsS ex8 = ([(0, 1), (1, 5)], 0) := by decide

set_option maxRecDepth 100000 in
set_option maxHeartbeats 1600000 in
theorem goes8_calls (w : World) : Calls Try.prog 23 #[] w fun e w' => e = .returned (.bool true) ∧ Below w.heap.size w w' := by
  have hM : ∀ (a : Option Addr) (w : World), At w a ex8 → Calls Try.prog 24 #[.slice a 5 5] w fun e w' => ∃ a' c', e = .returned (.tuple #[.slice a' 5 c', .int .i64 0]) ∧ Own w' w.heap.size 3 a' c' [(-1 : Int), 4, 3, 2, 1] ∧ Below w.heap.size w w' := by
    intro a w h
    refine (Match_calls a 5 ex8 w h (by decide)).mono ?_
    rintro e w' hp
    unfold MatchPost at hp
    rw [ex8_match] at hp
    exact hp
  have hD : ∀ (a : Option Addr) (w : World), At w a ex8 → Calls Try.prog 26 #[.slice a 5 5] w fun e w' => e = .returned (.tuple #[.int .i64 2, .int .i64 0]) ∧ Below w.heap.size w w' := by
    intro a w h
    have := Deep_calls a 5 ex8 w h (by decide)
    rw [ex8_deep] at this
    exact this
  have hA : ∀ (a : Option Addr) (w : World), At w a ex8 → Calls Try.prog 31 #[.slice a 5 5, .int .i64 2] w fun e w' => ∃ a' c', e = .returned (.tuple #[.slice a' 1 c', .int .i64 0]) ∧ Own w' w.heap.size 3 a' c' [(1 : Int)] ∧ Below w.heap.size w w' := by
    intro a w h
    refine (Around_calls a 5 ex8 2 w h (by decide)).mono ?_
    rintro e w' hp
    unfold AroundPost at hp
    rw [ex8_around] at hp
    exact hp
  have hP : ∀ (a : Option Addr) (w : World), At w a ex8 → Calls Try.prog 29 #[.slice a 5 5] w fun e w' => ∃ a' c', e = .returned (.tuple #[.slice a' 2 c', .int .i64 0]) ∧ Own w' w.heap.size 57 a' c' [((0 : Int), (1 : Int)), (1, 5)] ∧ Below w.heap.size w w' := by
    intro a w h
    refine (Parts_calls a 5 ex8 w h (by decide)).mono ?_
    rintro e w' hp
    unfold PartsPost at hp
    rw [ex8_parts] at hp
    exact hp
  have hI5 : ∀ (a b : Option Addr) (ca cb : Nat) (w : World), At w a [(-1 : Int), 4, 3, 2, 1] → At w b [(-1 : Int), 4, 3, 2, 1] → Calls Try.prog 28 #[.slice a 5 ca, .slice b 5 cb] w fun e w' => e = .returned (.bool true) ∧ ∃ n, w' = w.drewN n := fun a b ca cb w h1 h2 => Ints7_calls a b ca cb [(-1 : Int), 4, 3, 2, 1] w h1 h2 (by decide)
  have hI1 : ∀ (a b : Option Addr) (ca cb : Nat) (w : World), At w a [(1 : Int)] → At w b [(1 : Int)] → Calls Try.prog 28 #[.slice a 1 ca, .slice b 1 cb] w fun e w' => e = .returned (.bool true) ∧ ∃ n, w' = w.drewN n := fun a b ca cb w h1 h2 => Ints7_calls a b ca cb [(1 : Int)] w h1 h2 (by decide)
  have HI5 := hide hI5
  have HI1 := hide hI1
  clear hI5 hI1
  have HM := hide hM
  have HD := hide hD
  have HA := hide hA
  have HP := hide hP
  have hx0 : At (w.alloc (.cells #[.int .i64 6, .int .i64 0, .int .i64 0, .int .i64 0, .int .u64 0, .int .i64 7, .int .i64 0, .int .i64 0, .int .i64 0, .int .u64 0, .int .i64 7, .int .i64 0, .int .i64 0, .int .i64 0, .int .u64 0, .int .i64 0, .int .i64 0, .int .i64 0, .int .i64 0, .int .u64 0, .int .i64 0, .int .i64 0, .int .i64 0, .int .i64 0, .int .u64 0] 67)) (some ⟨w.heap.size, 0, none⟩) ex8 := At.ofBlk (Blk.new w _ #[.int .i64 6, .int .i64 0, .int .i64 0, .int .i64 0, .int .u64 0, .int .i64 7, .int .i64 0, .int .i64 0, .int .i64 0, .int .u64 0, .int .i64 7, .int .i64 0, .int .i64 0, .int .i64 0, .int .u64 0, .int .i64 0, .int .i64 0, .int .i64 0, .int .i64 0, .int .u64 0, .int .i64 0, .int .i64 0, .int .i64 0, .int .i64 0, .int .u64 0]) ex8 rfl
  have hB0 : Below w.heap.size w (w.alloc (.cells #[.int .i64 6, .int .i64 0, .int .i64 0, .int .i64 0, .int .u64 0, .int .i64 7, .int .i64 0, .int .i64 0, .int .i64 0, .int .u64 0, .int .i64 7, .int .i64 0, .int .i64 0, .int .i64 0, .int .u64 0, .int .i64 0, .int .i64 0, .int .i64 0, .int .i64 0, .int .u64 0, .int .i64 0, .int .i64 0, .int .i64 0, .int .i64 0, .int .u64 0] 67)) := Below.alloc (Below.refl _ _) (Nat.le_refl _) _
  have hz0 : (w.alloc (.cells #[.int .i64 6, .int .i64 0, .int .i64 0, .int .i64 0, .int .u64 0, .int .i64 7, .int .i64 0, .int .i64 0, .int .i64 0, .int .u64 0, .int .i64 7, .int .i64 0, .int .i64 0, .int .i64 0, .int .u64 0, .int .i64 0, .int .i64 0, .int .i64 0, .int .i64 0, .int .u64 0, .int .i64 0, .int .i64 0, .int .i64 0, .int .i64 0, .int .u64 0] 67)).heap.size = w.heap.size + 1 := by simp
  obtain ⟨w0, hw0⟩ : ∃ w0, w0 = w.alloc (.cells #[.int .i64 6, .int .i64 0, .int .i64 0, .int .i64 0, .int .u64 0, .int .i64 7, .int .i64 0, .int .i64 0, .int .i64 0, .int .u64 0, .int .i64 7, .int .i64 0, .int .i64 0, .int .i64 0, .int .u64 0, .int .i64 0, .int .i64 0, .int .i64 0, .int .i64 0, .int .u64 0, .int .i64 0, .int .i64 0, .int .i64 0, .int .i64 0, .int .u64 0] 67) := ⟨_, rfl⟩
  rw [← hw0] at hx0 hB0 hz0
  have HW0 := hide hw0
  clear hM hD hA hP hw0
  have heql := run_eqlP
  go_enter Try.func23, Try.ntmps23
  go_wp2_with (first
    | (go_at_call 24; rw [← HW0.out]; (with_reducible refine (HM.out _ _ hx0).mono ?_); rintro e w1 ⟨a1, c1, rfl, hown1, hbel1⟩; have hx1 := hx0.belowN hbel1; have hB1 := hB0.trans (hbel1.mono hB0.size); have hz1 := hB1.size)
    | (go_at_call 26; (with_reducible refine (HD.out _ _ hx1).mono ?_); rintro e w2 ⟨rfl, hbel2⟩; have hx2 := hx1.belowN hbel2; have hB2 := hB1.trans (hbel2.mono hz1); have hz2 := hB2.size; have hm2 := hown1.belowN hbel2)
    | (go_at_call 31; (with_reducible refine (HA.out _ _ hx2).mono ?_); rintro e w3 ⟨a3, c3, rfl, hown3, hbel3⟩; have hx3 := hx2.belowN hbel3; have hB3 := hB2.trans (hbel3.mono hz2); have hz3 := hB3.size; have hm3 := hm2.belowN hbel3)
    | (go_at_call 29; (with_reducible refine (HP.out _ _ hx3).mono ?_); rintro e w4 ⟨a4, c4, rfl, hown4, hbel4⟩; have hB4 := hB3.trans (hbel4.mono hz3); have hz4 := hB4.size; have hm4 := hm3.belowN hbel4; have ha4 := hown3.belowN hbel4; obtain ⟨g4, rfl, hg4, hg4'⟩ := hown4.some_ (by simp); have p0 := hown4.at_.one 1 _ rfl 0 _ rfl; have p1 := hown4.at_.one 1 _ rfl 1 _ rfl; simp only [Flat.n, Nat.add_zero, Nat.one_mul] at p0 p1)
    | (go_at_call 28; first
        | (have hm5 := (hm4.alloc (.cells #[.int .i64 (-1), .int .i64 4, .int .i64 3, .int .i64 2, .int .i64 1] 3)).at_; have hl5 : At (w4.alloc (.cells #[.int .i64 (-1), .int .i64 4, .int .i64 3, .int .i64 2, .int .i64 1] 3)) (some ⟨w4.heap.size, 0, none⟩) [(-1 : Int), 4, 3, 2, 1] := At.ofBlk (Blk.new _ _ _) [(-1 : Int), 4, 3, 2, 1] rfl; (with_reducible refine (HI5.out _ _ _ _ _ hm5 hl5).mono ?_); rintro e w5 ⟨rfl, n5, hn5⟩; have hb5 : Below w.heap.size w w5 := (by rw [hn5]; exact below_drewN (Below.alloc hB4 hz4 _) n5); have ha5 : Own w5 w2.heap.size 3 a3 c3 [(1 : Int)] := (by rw [hn5]; exact (ha4.alloc _).drewN n5); have p2 : w5.cell? ⟨g4, 2, none⟩ = some (.int .i64 1) := (by rw [hn5]; exact ((Below.alloc (Below.refl w4.heap.size w4) (Nat.le_refl _) _).cell (p := ⟨g4, 2, none⟩) hg4').trans p0); have p3 : w5.cell? ⟨g4, 3, none⟩ = some (.int .i64 5) := (by rw [hn5]; exact ((Below.alloc (Below.refl w4.heap.size w4) (Nat.le_refl _) _).cell (p := ⟨g4, 3, none⟩) hg4').trans p1); have hg5 : g4 < w5.heap.size := World.block_lt_of_cell? _ _ p2; have hz5 := hb5.size; clear hn5)
        | (have ha6 := (ha5.alloc (.cells #[.int .i64 1] 3)).at_; have hl6 : At (w5.alloc (.cells #[.int .i64 1] 3)) (some ⟨w5.heap.size, 0, none⟩) [(1 : Int)] := At.ofBlk (Blk.new _ _ _) [(1 : Int)] rfl; (with_reducible refine (HI1.out _ _ _ _ _ ha6 hl6).mono ?_); rintro e w6 ⟨rfl, n6, hn6⟩; have hb6 : Below w.heap.size w w6 := (by rw [hn6]; exact below_drewN (Below.alloc hb5 hz5 _) n6); have p4 : w6.cell? ⟨g4, 2, none⟩ = some (.int .i64 1) := (by rw [hn6]; exact ((Below.alloc (Below.refl w5.heap.size w5) (Nat.le_refl _) _).cell (p := ⟨g4, 2, none⟩) hg5).trans p2); have p5 : w6.cell? ⟨g4, 3, none⟩ = some (.int .i64 5) := (by rw [hn6]; exact ((Below.alloc (Below.refl w5.heap.size w5) (Nat.le_refl _) _).cell (p := ⟨g4, 3, none⟩) hg5).trans p3); clear hn6)))
  go_ret
  exact ⟨rfl, hb6⟩
end Go.Proofs.Ytgakjkeigoiekaa
