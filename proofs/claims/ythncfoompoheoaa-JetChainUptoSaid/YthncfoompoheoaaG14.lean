/- Chapter 14: what must come at any rate; lists held against each other. -/
import Derived.RegionTactic
import Derived.BigRegion
import Derived.Deep.OwnRows
import Derived.Test.YthncfoompoheoaaQt
import Derived.Test.YthncfoompoheoaaG22
namespace Go.Proofs.Ythncfoompoheoaa
set_option linter.unusedVariables false
set_option linter.unusedSimpArgs false
open Go.RowKit
set_option maxHeartbeats 400000 in
theorem Lists14_calls (a b : Option Addr) (ca cb na nb : Nat) (ls : List (List UInt64)) (hna : na = ls.length) (hnb : nb = ls.length) (w : World) (h0 : AtL w a ls) (h1 : AtL w b ls) (hl : ls.length ≤ 1000000000) (hls : ∀ l ∈ ls, l.length ≤ 1000000000) :
    Calls Try.prog 39 #[.slice a na ca, .slice b nb cb] w fun e w' => e = .returned (.bool true) ∧ ∃ n, w' = w.drewN n := by
  subst hna hnb
  have HL := hide hls
  clear hls
  go_enter Try.func39, Try.ntmps39
  go_wp2
  go_loopw [5] (fun i wr => ∃ k : Nat, k ≤ ls.length ∧ i = .int .i64 k ∧ ∃ q, wr = w.drewN q) (fun i _ => ls.length - (intOf i).toNat)
  case atStart => exact ⟨0, by omega, rfl, ⟨0, rfl⟩⟩
  case round =>
    obtain ⟨k, hk, rfl, q, rfl⟩ := hrel
    by_cases hlt : k < ls.length
    · obtain ⟨b1, off1, a1, c1, x, rfl, hx, hc, _, hat⟩ := h0.get (Below.refl _ _) hlt
      obtain ⟨b2, off2, a2, c2, y, rfl, hy, hd, _, hbt⟩ := h1.get (Below.refl _ _) hlt
      obtain rfl : x = y := by have := hx.out.symm.trans hy.out; simpa using this
      have hxl := HL.out x (List.mem_of_getElem? hx.out)
      go_wp2
      go_quiet ((go_at_call 27; exact quiet_add (Same5_calls _ _ _ _ _ _ (hat.drewN _) (hbt.drewN _) hxl)))
      go_wp2
      go_roundw
      case rel => exact ⟨k + 1, by omega, by go_num, ⟨_, rfl⟩⟩
      case measure => simp [intOf]; omega
    · go_wp2
      go_ret
      exact ⟨rfl, _, rfl⟩
theorem ex14_dual : dualE 2 ex22.flat 2 = 0 := dualE_of ex22_good (by decide)
theorem ex14_alongE (i : Int) (h0 : 0 ≤ i) (h1 : i < 2) : alongE 2 ex22.flat 2 i = 0 := alongE_of ex22_good (by decide) h0 h1
theorem ex14_along : alongA 2 ex22.flat [5, 3] 1 = [5, 1] := by
  rw [alongA_good ex22_good (by decide) (by decide) (by decide)]; decide
theorem ex14_along0 : alongA 2 ex22.flat [5, 3] 0 = [3, 0] := by
  rw [alongA_good ex22_good (by decide) (by decide) (by decide)]; decide
theorem ex14_mat : matA 2 ex22.flat [5, 3] = [[3, 5], [0, 1]] := by
  have h : matA ((2 : Nat) : Int) ex22.flat [5, 3] = matN (fun (i : Nat) => alongA ((2 : Nat) : Int) ex22.flat [5, 3] i) 2 2 0 := matA_good (by exact ex14_dual)
  refine h.trans ?_
  have e0 : alongA ((2 : Nat) : Int) ex22.flat [5, 3] ((0 : Nat) : Int) = [3, 0] := ex14_along0
  have e1 : alongA ((2 : Nat) : Int) ex22.flat [5, 3] ((1 : Nat) : Int) = [5, 1] := ex14_along
  unfold matN
  rw [show List.range 2 = [0, 1] from rfl]
  simp only [List.map_cons, List.map_nil, Nat.not_lt_zero, if_false, show List.range 2 = [0, 1] from rfl, e0, e1]
  rfl
theorem ex14_lists (w : World) : AtL (((w.alloc (.cells #[.int .u64 3, .int .u64 5] 68)).alloc (.cells #[.int .u64 0, .int .u64 1] 68)).alloc (.cells #[.slice (some ⟨w.heap.size, 0, none⟩) 2 2, .slice (some ⟨w.heap.size + 1, 0, none⟩) 2 2] 43)) (some ⟨w.heap.size + 1 + 1, 0, none⟩) [[3, 5], [0, 1]] ∧
    Below w.heap.size w (((w.alloc (.cells #[.int .u64 3, .int .u64 5] 68)).alloc (.cells #[.int .u64 0, .int .u64 1] 68)).alloc (.cells #[.slice (some ⟨w.heap.size, 0, none⟩) 2 2, .slice (some ⟨w.heap.size + 1, 0, none⟩) 2 2] 43)) := by
  have hB : Below w.heap.size w (((w.alloc (.cells #[.int .u64 3, .int .u64 5] 68)).alloc (.cells #[.int .u64 0, .int .u64 1] 68)).alloc (.cells #[.slice (some ⟨w.heap.size, 0, none⟩) 2 2, .slice (some ⟨w.heap.size + 1, 0, none⟩) 2 2] 43)) := (below2 w _ _).trans ((below_new12 _ _).mono (by simp <;> omega))
  have b0 := ((Blk.new w 68 #[.int .u64 3, .int .u64 5]).alloc (.cells #[.int .u64 0, .int .u64 1] 68)).alloc (.cells #[.slice (some ⟨w.heap.size, 0, none⟩) 2 2, .slice (some ⟨w.heap.size + 1, 0, none⟩) 2 2] 43)
  have b1 := (Blk.new (w.alloc (.cells #[.int .u64 3, .int .u64 5] 68)) 68 #[.int .u64 0, .int .u64 1]).alloc (.cells #[.slice (some ⟨w.heap.size, 0, none⟩) 2 2, .slice (some ⟨w.heap.size + 1, 0, none⟩) 2 2] 43)
  have b2 := Blk.new ((w.alloc (.cells #[.int .u64 3, .int .u64 5] 68)).alloc (.cells #[.int .u64 0, .int .u64 1] 68)) 43 #[.slice (some ⟨w.heap.size, 0, none⟩) 2 2, .slice (some ⟨w.heap.size + 1, 0, none⟩) 2 2]
  simp only [World.size_alloc] at b1 b2
  refine ⟨⟨[⟨some ⟨w.heap.size, 0, none⟩, 2, 2⟩, ⟨some ⟨w.heap.size + 1, 0, none⟩, 2, 2⟩], At.ofBlk b2 _ rfl, rfl, fun i hd l e1 e2 => ?_⟩, hB⟩
  match i, e1, e2 with
  | 0, e1, e2 => simp at e1 e2; subst e1 e2; exact ⟨rfl, Nat.le_refl 2, At.ofBlk b0 [(3 : UInt64), 5] rfl⟩
  | 1, e1, e2 => simp at e1 e2; subst e1 e2; exact ⟨rfl, Nat.le_refl 2, At.ofBlk b1 [(0 : UInt64), 1] rfl⟩
  | j + 2, e1, e2 => simp at e1
set_option maxRecDepth 100000 in
set_option maxHeartbeats 3200000 in
theorem goes14_calls (w : World) : Calls Try.prog 29 #[] w fun e w' => e = .returned (.bool true) ∧ Below w.heap.size w w' := by
  have hx0 : At (w.alloc (.cells #[.int .i64 3, .int .i64 0, .int .i64 0, .int .i64 1, .int .u64 0] 99)) (some ⟨w.heap.size, 0, none⟩) ex22.flat := At.ofBlk (Blk.new w _ #[.int .i64 3, .int .i64 0, .int .i64 0, .int .i64 1, .int .u64 0]) ex22.flat rfl
  have hB0 := below_new12 w (.cells #[.int .i64 3, .int .i64 0, .int .i64 0, .int .i64 1, .int .u64 0] 99)
  have hx1 := hx0.belowN (below_new12 _ (.cells #[.int .i64 2, .slice (some ⟨w.heap.size, 0, none⟩) 1 1] 24))
  have hX1 := Blk.new (w.alloc (.cells #[.int .i64 3, .int .i64 0, .int .i64 0, .int .i64 1, .int .u64 0] 99)) 24 #[.int .i64 2, .slice (some ⟨w.heap.size, 0, none⟩) 1 1]
  have hB1 := hB0.trans ((below_new12 _ (.cells #[.int .i64 2, .slice (some ⟨w.heap.size, 0, none⟩) 1 1] 24)).mono hB0.size)
  have hz0 : (w.alloc (.cells #[.int .i64 3, .int .i64 0, .int .i64 0, .int .i64 1, .int .u64 0] 99)).heap.size = w.heap.size + 1 := by simp
  rw [hz0] at hX1
  obtain ⟨w1, hw1⟩ : ∃ w1, w1 = ((w.alloc (.cells #[.int .i64 3, .int .i64 0, .int .i64 0, .int .i64 1, .int .u64 0] 99)).alloc (.cells #[.int .i64 2, .slice (some ⟨w.heap.size, 0, none⟩) 1 1] 24)) := ⟨_, rfl⟩
  have hz1 : w1.heap.size = w.heap.size + 2 := by rw [hw1]; simp
  rw [← hw1] at hx1 hX1 hB1
  have H53 : Hid (∀ W : World, At (W.alloc (.cells #[.int .u64 5, .int .u64 3] 68)) (some ⟨W.heap.size, 0, none⟩) [(5 : UInt64), 3]) := hide fun W => At.ofBlk (Blk.new W _ #[.int .u64 5, .int .u64 3]) [(5 : UInt64), 3] rfl
  have H51 : Hid (∀ W : World, At (W.alloc (.cells #[.int .u64 5, .int .u64 1] 68)) (some ⟨W.heap.size, 0, none⟩) [(5 : UInt64), 1]) := hide fun W => At.ofBlk (Blk.new W _ #[.int .u64 5, .int .u64 1]) [(5 : UInt64), 1] rfl
  have H35 : Hid (∀ W : World, At (W.alloc (.cells #[.int .u64 3, .int .u64 5] 68)) (some ⟨W.heap.size, 0, none⟩) [(3 : UInt64), 5]) := hide fun W => At.ofBlk (Blk.new W _ #[.int .u64 3, .int .u64 5]) [(3 : UInt64), 5] rfl
  have H10 : Hid (∀ W : World, At ((W.alloc (.cells #[.int .u64 5, .int .u64 3] 68)).alloc (.cells #[.int .u64 1, .int .u64 0] 68)) (some ⟨W.heap.size + 1, 0, none⟩) [(1 : UInt64), 0]) := hide fun W => by
    have h := At.ofBlk (Blk.new (W.alloc (.cells #[.int .u64 5, .int .u64 3] 68)) 68 #[.int .u64 1, .int .u64 0]) [(1 : UInt64), 0] rfl
    simpa only [World.size_alloc] using h
  have hn2 := below_new12 w1 (.cells #[.int .u64 5, .int .u64 3] 68)
  have hx2 := hx1.belowN hn2
  have hX2 := hX1.belowN hn2
  have hB2 := hB1.trans (hn2.mono hB1.size)
  have h53 := H53.out w1
  rw [hz1] at h53
  obtain ⟨w2, hw2⟩ : ∃ w2, w2 = w1.alloc (.cells #[.int .u64 5, .int .u64 3] 68) := ⟨_, rfl⟩
  rw [← hw2] at hx2 hX2 hB2 h53
  have HW2 : Hid ((((w.alloc (.cells #[.int .i64 3, .int .i64 0, .int .i64 0, .int .i64 1, .int .u64 0] 99)).alloc (.cells #[.int .i64 2, .slice (some ⟨w.heap.size, 0, none⟩) 1 1] 24)).alloc (.cells #[.int .u64 5, .int .u64 3] 68)) = w2) := by show _ = _; rw [← hw1, ← hw2]
  clear hx0 hB0 hw1 hw2 hz0 hx1 hX1 hn2
  go_enter Try.func29, Try.ntmps29
  go_wp2_with (first
    | (go_at_call 34; go_must (rw [HW2.out]; (with_reducible refine (JAlong_calls 2 _ 1 1 ex22.flat rfl _ 2 2 [5, 3] rfl 1 [5, 1] 0 ex14_along (ex14_alongE 1 (by decide) (by decide)) w2 hx2 (by omega) h53 (by omega)).mono ?_); rintro e w4 ⟨a4, c4, rfl, hA4, hb4⟩; have hB4 := hB2.trans (hb4.mono hB2.size); have hX4 := hX2.belowN hb4; have hx4 := (hx2.belowN hb4).belowN (below_new12 w4 (.cells #[.int .u64 5, .int .u64 3] 68)); have hB5 := hB4.trans ((below_new12 w4 (.cells #[.int .u64 5, .int .u64 3] 68)).mono hB4.size); obtain ⟨q0, q1, q2, q3⟩ := hX4.c2))
    | (go_at_call 36; go_must ((with_reducible refine (JMatrix_calls 2 _ 1 1 ex22.flat rfl _ 2 2 [5, 3] rfl [[3, 5], [0, 1]] 0 ex14_mat ex14_dual _ hx4 (by decide) (H53.out w4) (by decide)).mono ?_); rintro e w6 ⟨a6, c6, rfl, hA6, hb6⟩; have hB6 := hB5.trans (hb6.mono hB5.size); have hn46 : Below w4.heap.size w4 w6 := ((below_new12 w4 (.cells #[.int .u64 5, .int .u64 3] 68)).trans (hb6.mono (by simp))); have hX6 := hX4.belowN hn46; have hA46 := hA4.belowN hn46; have hx6 := (hx4.belowN hb6).belowN (below2 w6 (.cells #[.int .u64 5, .int .u64 3] 68) (.cells #[.int .u64 1, .int .u64 0] 68)); have hB7 := hB6.trans ((below2 w6 (.cells #[.int .u64 5, .int .u64 3] 68) (.cells #[.int .u64 1, .int .u64 0] 68)).mono hB6.size); have h537 := (H53.out w6).belowN (below_new12 _ (.cells #[.int .u64 1, .int .u64 0] 68)); obtain ⟨q0, q1, q2, q3⟩ := hX6.c2))
    | (go_at_call 38; go_must ((with_reducible refine (JPull_calls 2 _ 1 1 ex22.flat rfl _ 2 2 [5, 3] rfl _ 2 2 [1, 0] rfl [3, 5] 0 ex22_pull.2 ex22_pull.1 _ hx6 (by decide) h537 (H10.out w6) (by decide) (by decide)).mono ?_); rintro e w8 ⟨a8, c8, rfl, hA8, hb8⟩; have hB8 := hB7.trans (hb8.mono hB7.size); have hn68 : Below w6.heap.size w6 w8 := ((below2 w6 (.cells #[.int .u64 5, .int .u64 3] 68) (.cells #[.int .u64 1, .int .u64 0] 68)).trans (hb8.mono (by simp; omega))); have hA48 := hA46.belowN hn68; have hA68 := hA6.belowN hn68; have hA49 := (hA48.alloc (.cells #[.int .u64 5, .int .u64 1] 68)).at_))
    | (go_at_call 27; first
        | (have hgd := q10; go_must ((with_reducible refine (Same5N _ _ 2 2 _ _ [3, 5] _ rfl rfl hA811 (H35.out w10) (by decide)).mono ?_); rintro e w11 ⟨rfl, q11, rfl⟩))
        | go_must ((with_reducible refine (Same5N _ _ 2 2 _ _ [5, 1] _ rfl rfl hA49 (H51.out w8) (by decide)).mono ?_); rintro e w9 ⟨rfl, q9, hw9⟩; have hn89 : Below w8.heap.size w8 w9 := (by rw [hw9]; exact below_drewN (below_new12 w8 _) _); have hA69 := (hA68.belowN hn89).belowN (ex14_lists w9).2; have hA89 := hA8.belowN hn89; have hB9 := hB8.trans (hn89.mono hB8.size); clear hw9))
    | (go_at_call 39; go_must ((with_reducible refine (Lists14_calls _ _ _ _ 2 2 [[3, 5], [0, 1]] rfl rfl _ hA69 (ex14_lists w9).1 (by decide) (by decide)).mono ?_); rintro e w10 ⟨rfl, q10, hw10⟩; have hn910 : Below w9.heap.size w9 w10 := (by rw [hw10]; exact below_drewN (ex14_lists w9).2 _); have hA811 := ((hA89.belowN hn910).alloc (.cells #[.int .u64 3, .int .u64 5] 68)).at_; have hB10 := hB9.trans (hn910.mono hB9.size); clear hw10)))
  go_ret
  exact ⟨rfl, below_drewN (hB10.alloc hB10.size _) _⟩
end Go.Proofs.Ythncfoompoheoaa
