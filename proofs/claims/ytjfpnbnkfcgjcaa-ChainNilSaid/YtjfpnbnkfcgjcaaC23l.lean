/- Chapter 23: the page's example. -/
import Derived.Test.YtjfpnbnkfcgjcaaC23k
namespace Go.Proofs.Ytjfpnbnkfcgjcaa
set_option linter.unusedVariables false
set_option linter.unusedSimpArgs false
open Go.RowKit
set_option maxHeartbeats 400000 in
theorem Lists23_calls (a b : Option Addr) (ca cb : Nat) (ls : List (List UInt64)) (w : World) (h0 : AtL w a ls) (h1 : AtL w b ls) (hl : ls.length ≤ 1000000000) (hls : ∀ l ∈ ls, l.length ≤ 1000000000) :
    Calls Try.prog 77 #[.slice a ls.length ca, .slice b ls.length cb] w fun e w' => e = .returned (.bool true) ∧ ∃ n, w' = w.drewN n := by
  have HL := hide hls
  clear hls
  go_enter Try.func77, Try.ntmps77
  go_wp2
  go_loopw [5] (fun i wr => ∃ k : Nat, k ≤ ls.length ∧ i = .int .i64 k ∧ ∃ q, wr = w.drewN q) (fun i _ => ls.length - (intOf i).toNat)
  case atStart => exact ⟨0, by omega, rfl, ⟨0, rfl⟩⟩
  case round =>
    obtain ⟨k, hk, rfl, q, rfl⟩ := hrel
    by_cases hlt : k < ls.length
    · obtain ⟨b1, off1, a1, c1, x, rfl, hx, hc, _, hat⟩ := h0.get (Below.refl _ _) hlt
      obtain ⟨b2, off2, a2, c2, y, rfl, hy, hd, _, hbt⟩ := h1.get (Below.refl _ _) hlt
      obtain rfl : x = y := by have := hx.out.symm.trans hy.out; simpa using this
      have hxl := HL.out x (List.mem_of_getElem? hx.out)
      go_wp2
      go_quiet ((go_at_call 17; exact quiet_add (Same5_calls _ _ _ _ _ _ (hat.drewN _) (hbt.drewN _) hxl)))
      go_wp2
      go_roundw
      case rel => exact ⟨k + 1, by omega, by go_num, ⟨_, rfl⟩⟩
      case measure => simp [intOf]; omega
    · go_wp2
      go_ret
      exact ⟨rfl, _, rfl⟩

theorem ex23_lists (w : World) : AtL (((((w.alloc (.cells #[.int .u64 5] 37)).alloc (.cells #[.int .u64 5] 37)).alloc (.cells #[.int .u64 6] 37)).alloc (.cells #[.int .u64 8] 37)).alloc (.cells #[.slice (some ⟨w.heap.size, 0, none⟩) 1 1, .slice (some ⟨w.heap.size + 1, 0, none⟩) 1 1, .slice (some ⟨w.heap.size + 1 + 1, 0, none⟩) 1 1, .slice (some ⟨w.heap.size + 1 + 1 + 1, 0, none⟩) 1 1] 25)) (some ⟨w.heap.size + 1 + 1 + 1 + 1, 0, none⟩) [[5], [5], [6], [8]] ∧ Below w.heap.size w (((((w.alloc (.cells #[.int .u64 5] 37)).alloc (.cells #[.int .u64 5] 37)).alloc (.cells #[.int .u64 6] 37)).alloc (.cells #[.int .u64 8] 37)).alloc (.cells #[.slice (some ⟨w.heap.size, 0, none⟩) 1 1, .slice (some ⟨w.heap.size + 1, 0, none⟩) 1 1, .slice (some ⟨w.heap.size + 1 + 1, 0, none⟩) 1 1, .slice (some ⟨w.heap.size + 1 + 1 + 1, 0, none⟩) 1 1] 25)) := by
  have hB : Below w.heap.size w (((((w.alloc (.cells #[.int .u64 5] 37)).alloc (.cells #[.int .u64 5] 37)).alloc (.cells #[.int .u64 6] 37)).alloc (.cells #[.int .u64 8] 37)).alloc (.cells #[.slice (some ⟨w.heap.size, 0, none⟩) 1 1, .slice (some ⟨w.heap.size + 1, 0, none⟩) 1 1, .slice (some ⟨w.heap.size + 1 + 1, 0, none⟩) 1 1, .slice (some ⟨w.heap.size + 1 + 1 + 1, 0, none⟩) 1 1] 25)) := ((((below_new _ _).alloc (by simp) _).alloc (by simp; omega) _).alloc (by simp; omega) _).alloc (by simp; omega) _
  have b0 := ((((Blk.new w 37 #[.int .u64 5]).alloc (.cells #[.int .u64 5] 37)).alloc (.cells #[.int .u64 6] 37)).alloc (.cells #[.int .u64 8] 37)).alloc (.cells #[.slice (some ⟨w.heap.size, 0, none⟩) 1 1, .slice (some ⟨w.heap.size + 1, 0, none⟩) 1 1, .slice (some ⟨w.heap.size + 1 + 1, 0, none⟩) 1 1, .slice (some ⟨w.heap.size + 1 + 1 + 1, 0, none⟩) 1 1] 25)
  have b1 := (((Blk.new (w.alloc (.cells #[.int .u64 5] 37)) 37 #[.int .u64 5]).alloc (.cells #[.int .u64 6] 37)).alloc (.cells #[.int .u64 8] 37)).alloc (.cells #[.slice (some ⟨w.heap.size, 0, none⟩) 1 1, .slice (some ⟨w.heap.size + 1, 0, none⟩) 1 1, .slice (some ⟨w.heap.size + 1 + 1, 0, none⟩) 1 1, .slice (some ⟨w.heap.size + 1 + 1 + 1, 0, none⟩) 1 1] 25)
  have b2 := ((Blk.new ((w.alloc (.cells #[.int .u64 5] 37)).alloc (.cells #[.int .u64 5] 37)) 37 #[.int .u64 6]).alloc (.cells #[.int .u64 8] 37)).alloc (.cells #[.slice (some ⟨w.heap.size, 0, none⟩) 1 1, .slice (some ⟨w.heap.size + 1, 0, none⟩) 1 1, .slice (some ⟨w.heap.size + 1 + 1, 0, none⟩) 1 1, .slice (some ⟨w.heap.size + 1 + 1 + 1, 0, none⟩) 1 1] 25)
  have b3 := (Blk.new (((w.alloc (.cells #[.int .u64 5] 37)).alloc (.cells #[.int .u64 5] 37)).alloc (.cells #[.int .u64 6] 37)) 37 #[.int .u64 8]).alloc (.cells #[.slice (some ⟨w.heap.size, 0, none⟩) 1 1, .slice (some ⟨w.heap.size + 1, 0, none⟩) 1 1, .slice (some ⟨w.heap.size + 1 + 1, 0, none⟩) 1 1, .slice (some ⟨w.heap.size + 1 + 1 + 1, 0, none⟩) 1 1] 25)
  have b4 := Blk.new ((((w.alloc (.cells #[.int .u64 5] 37)).alloc (.cells #[.int .u64 5] 37)).alloc (.cells #[.int .u64 6] 37)).alloc (.cells #[.int .u64 8] 37)) 25 #[.slice (some ⟨w.heap.size, 0, none⟩) 1 1, .slice (some ⟨w.heap.size + 1, 0, none⟩) 1 1, .slice (some ⟨w.heap.size + 1 + 1, 0, none⟩) 1 1, .slice (some ⟨w.heap.size + 1 + 1 + 1, 0, none⟩) 1 1]
  simp only [World.size_alloc] at b1 b2 b3 b4
  refine ⟨AtL.ofBlk [⟨some ⟨w.heap.size, 0, none⟩, 1, 1⟩, ⟨some ⟨w.heap.size + 1, 0, none⟩, 1, 1⟩, ⟨some ⟨w.heap.size + 1 + 1, 0, none⟩, 1, 1⟩, ⟨some ⟨w.heap.size + 1 + 1 + 1, 0, none⟩, 1, 1⟩] _ b4 rfl rfl fun i hd l e1 e2 => ?_, hB⟩
  match i, e1, e2 with
  | 0, e1, e2 => simp at e1 e2; subst e1 e2; exact ⟨rfl, Nat.le_refl 1, At.ofBlk b0 [(5 : UInt64)] rfl⟩
  | 1, e1, e2 => simp at e1 e2; subst e1 e2; exact ⟨rfl, Nat.le_refl 1, At.ofBlk b1 [(5 : UInt64)] rfl⟩
  | 2, e1, e2 => simp at e1 e2; subst e1 e2; exact ⟨rfl, Nat.le_refl 1, At.ofBlk b2 [(6 : UInt64)] rfl⟩
  | 3, e1, e2 => simp at e1 e2; subst e1 e2; exact ⟨rfl, Nat.le_refl 1, At.ofBlk b3 [(8 : UInt64)] rfl⟩
  | j + 4, e1, e2 => simp at e1
theorem ex23_eight (w : World) (q : Nat) : At (((((((w.alloc (.cells #[.int .u64 5] 37)).alloc (.cells #[.int .u64 5] 37)).alloc (.cells #[.int .u64 6] 37)).alloc (.cells #[.int .u64 8] 37)).alloc (.cells #[.slice (some ⟨w.heap.size, 0, none⟩) 1 1, .slice (some ⟨w.heap.size + 1, 0, none⟩) 1 1, .slice (some ⟨w.heap.size + 1 + 1, 0, none⟩) 1 1, .slice (some ⟨w.heap.size + 1 + 1 + 1, 0, none⟩) 1 1] 25)).drewN q).alloc (.cells #[.int .u64 8] 37)) (some ⟨w.heap.size + 1 + 1 + 1 + 1 + 1, 0, none⟩) [(8 : UInt64)] ∧ Below w.heap.size w (((((((w.alloc (.cells #[.int .u64 5] 37)).alloc (.cells #[.int .u64 5] 37)).alloc (.cells #[.int .u64 6] 37)).alloc (.cells #[.int .u64 8] 37)).alloc (.cells #[.slice (some ⟨w.heap.size, 0, none⟩) 1 1, .slice (some ⟨w.heap.size + 1, 0, none⟩) 1 1, .slice (some ⟨w.heap.size + 1 + 1, 0, none⟩) 1 1, .slice (some ⟨w.heap.size + 1 + 1 + 1, 0, none⟩) 1 1] 25)).drewN q).alloc (.cells #[.int .u64 8] 37)) := by
  have hB := (ex23_lists w).2
  have hd := below_drawn (((((w.alloc (.cells #[.int .u64 5] 37)).alloc (.cells #[.int .u64 5] 37)).alloc (.cells #[.int .u64 6] 37)).alloc (.cells #[.int .u64 8] 37)).alloc (.cells #[.slice (some ⟨w.heap.size, 0, none⟩) 1 1, .slice (some ⟨w.heap.size + 1, 0, none⟩) 1 1, .slice (some ⟨w.heap.size + 1 + 1, 0, none⟩) 1 1, .slice (some ⟨w.heap.size + 1 + 1 + 1, 0, none⟩) 1 1] 25)) w.heap.size q
  have b5 := Blk.new ((((((w.alloc (.cells #[.int .u64 5] 37)).alloc (.cells #[.int .u64 5] 37)).alloc (.cells #[.int .u64 6] 37)).alloc (.cells #[.int .u64 8] 37)).alloc (.cells #[.slice (some ⟨w.heap.size, 0, none⟩) 1 1, .slice (some ⟨w.heap.size + 1, 0, none⟩) 1 1, .slice (some ⟨w.heap.size + 1 + 1, 0, none⟩) 1 1, .slice (some ⟨w.heap.size + 1 + 1 + 1, 0, none⟩) 1 1] 25)).drewN q) 37 #[.int .u64 8]
  have e : ((((((w.alloc (.cells #[.int .u64 5] 37)).alloc (.cells #[.int .u64 5] 37)).alloc (.cells #[.int .u64 6] 37)).alloc (.cells #[.int .u64 8] 37)).alloc (.cells #[.slice (some ⟨w.heap.size, 0, none⟩) 1 1, .slice (some ⟨w.heap.size + 1, 0, none⟩) 1 1, .slice (some ⟨w.heap.size + 1 + 1, 0, none⟩) 1 1, .slice (some ⟨w.heap.size + 1 + 1 + 1, 0, none⟩) 1 1] 25)).drewN q).heap.size = w.heap.size + 1 + 1 + 1 + 1 + 1 := by show (((((w.alloc (.cells #[.int .u64 5] 37)).alloc (.cells #[.int .u64 5] 37)).alloc (.cells #[.int .u64 6] 37)).alloc (.cells #[.int .u64 8] 37)).alloc (.cells #[.slice (some ⟨w.heap.size, 0, none⟩) 1 1, .slice (some ⟨w.heap.size + 1, 0, none⟩) 1 1, .slice (some ⟨w.heap.size + 1 + 1, 0, none⟩) 1 1, .slice (some ⟨w.heap.size + 1 + 1 + 1, 0, none⟩) 1 1] 25)).heap.size = _; simp
  rw [e] at b5
  exact ⟨At.ofBlk b5 [(8 : UInt64)] rfl, (hB.trans hd).alloc (by rw [e]; omega) _⟩
set_option maxRecDepth 100000 in
set_option maxHeartbeats 3200000 in
theorem goes23_calls (w : World) : Calls Try.prog 40 #[] w fun e w' => e = .returned (.bool true) ∧ Below w.heap.size w w' := by
  have HS := hide (Sum_calls w)
  have hl0 : 1 ≤ 1 := by decide
  have hl1 : 1 ≤ 1000000 := by decide
  have hl2 : (-9223372036854775808 : Int) ≤ 1 ∧ (1 : Int) ≤ 9223372036854775807 := by decide
  go_enter Try.func40, Try.ntmps40
  go_wp2_with (first
    | (go_at_call 75; go_must ((with_reducible refine (HS.out).mono ?_); rintro e w1 ⟨a, b, ta, rfl, hp, hq, ht, hb1⟩; have hn1 := below_new w1 (.cells #[.int .i64 3, .slice a 1 1, .int .i64 2, .slice b 1 1, .int .i64 1, .slice ta 1 1] 126); have hX := Blk.new w1 126 #[.int .i64 3, .slice a 1 1, .int .i64 2, .slice b 1 1, .int .i64 1, .slice ta 1 1]; have hB1 := hb1.trans (hn1.mono hb1.size); have hz1 := hB1.size))
    | (go_at_call 76; go_must ((refine (NewGood_calls (ex23 a b) ta 1 _ (hp.belowN hn1) hl1 (hq.belowN hn1) hl1 (ht.belowN hn1) hl2 hl1 (ex23_bad a b)).mono ?_); rintro e w2 ⟨g, rfl, hch, hg, hb2⟩; have hB2 := hB1.trans (hb2.mono hz1); have hz2 := hB2.size; have hLs := ex23_states a b; have hc := ex23_ok a b; have hLo : (ex23 a b).loss ((ex23 a b).iter [5] 3) = 16 := (by rw [(ex23_iter a b).2.2.2, ex23_loss]; rfl); have hIt := (ex23_iter a b).2.2.2; have hn2 := below_new w2 (.cells #[.int .u64 5] 37); have hx5 := At.ofBlk (Blk.new w2 37 #[.int .u64 5]) [(5 : UInt64)] rfl))
    | (go_at_call 36; go_must ((refine (StatesGood_calls g (ex23 a b) hc 3 (by decide) _ 1 1 [5] _ (hch.belowN hn2) hx5 rfl hl0 rfl).mono ?_); rintro e w3 ⟨a3, c3, hs3, rfl, hL3, hb3⟩; rw [hLs] at hL3; have hb3' := hn2.trans (hb3.mono hn2.size); have hB3 := hB2.trans (hb3'.mono hz2); have hz3 := hB3.size; have hn3 := below_new w3 (.cells #[.int .u64 5] 37); have hx6 := At.ofBlk (Blk.new w3 37 #[.int .u64 5]) [(5 : UInt64)] rfl))
    | (go_at_call 37; go_must ((refine (CRunGood_calls g (ex23 a b) hc 3 (by decide) _ 1 1 [5] _ ((hch.belowN hb3').belowN hn3) hx6 rfl hl0 rfl 16 hLo).mono ?_); rintro e w4 ⟨a4, k4, rfl, hk4, hat4, hb4⟩; rw [hIt] at hat4; have hb4' := hn3.trans (hb4.mono hn3.size); have hB4 := hB3.trans (hb4'.mono hz3); have hz4 := hB4.size; have hL4 := hL3.belowN hb4'; obtain ⟨hAL, hB5⟩ := ex23_lists w4; have hz5 := hB5.size))
    | (go_at_call 77; go_must ((refine (Lists23_calls a3 _ c3 4 [[5], [5], [6], [8]] _ (hL4.at_.belowN hB5) hAL (by decide) (by decide)).mono ?_); rintro e w5 ⟨rfl, q5, rfl⟩; obtain ⟨h8, hB6⟩ := ex23_eight w4 q5))
    | (go_at_call 17; go_must ((refine (Same5_calls a4 _ k4 1 [(8 : UInt64)] _ (hat4.belowN hB6) h8 (by decide)).mono ?_); rintro e w6 ⟨rfl, q6, rfl⟩)))
  go_ret
  exact ⟨rfl, (hB4.trans (hB6.mono hz4)).trans (below_drawn _ _ _)⟩
end Go.Proofs.Ytjfpnbnkfcgjcaa
