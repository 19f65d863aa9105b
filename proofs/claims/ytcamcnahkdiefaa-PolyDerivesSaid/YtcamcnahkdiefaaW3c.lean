/- Chapter 3: the law PolyDerives. -/
import Derived.Test.YtcamcnahkdiefaaW3b
namespace Go.Proofs.Ytcamcnahkdiefaa
set_option linter.unusedVariables false
set_option linter.unusedSimpArgs false
open Go.RowKit
set_option maxRecDepth 100000 in
set_option maxHeartbeats 6400000 in
theorem PolyDerives_calls (va i : Int) (a xa : Option Addr) (n c m xc : Nat) (ts : List Tm) (xs : List UInt64) (hm : m = xs.length) (w : World) (h : TOut (fun _ => True) w a n c ts) (hx : At w xa xs) :
    Calls Try.prog 3 #[.agg #[.int .i64 va, .slice a n c], .int .i64 i, .slice xa m xc] w fun v w' => v = .returned (.bool true) ∧ Below w.heap.size w w' := by
  obtain ⟨W0, hW0⟩ : ∃ W0, w.alloc (.cells #[.int .i64 va, .slice a n c] 24) = W0 := ⟨_, rfl⟩
  have hb0 := below_box w (.cells #[.int .i64 va, .slice a n c] 24)
  have hX := Blk.new w 24 #[.int .i64 va, .slice a n c]
  rw [hW0] at hb0 hX
  obtain ⟨p0, p1, p2, p3⟩ := hX.c2
  have h0 := h.belowN hb0
  have hx0 := hx.belowN hb0
  obtain ⟨Q, hQ⟩ : ∃ Q, fewB ts 60 = Q := ⟨_, rfl⟩
  have HF := hide (Few_calls (fun _ => True) va 60 (by decide) a n c ts W0 h0 Q hQ)
  have HW0 := hide hW0
  have HGO := hide goes3_calls
  cases Q with
  | false =>
    clear hQ h h0 hW0 hm
    go_enter Try.func3, Try.ntmps3
    go_wp2_with (first
      | (go_at_call 8; go_must ((rw [HW0.out]); (with_reducible refine (HF.out).mono ?_); rintro v w1 ⟨rfl, hb1⟩))
      | (go_at_call 9; go_must ((with_reducible refine (HGO.out _).mono ?_); rintro v w2 ⟨rfl, hb2⟩)))
    go_ret
    have hB1 := hb0.trans (hb1.mono hb0.size)
    exact ⟨rfl, hB1.trans (hb2.mono hB1.size)⟩
  | true =>
    obtain ⟨f1, f2⟩ := fewB_true hQ
    have hn6 : n ≤ 60 := by have := h.len; omega
    have hl6 : ∀ t ∈ ts, t.2.length ≤ 1000000 := fun t ht => Nat.le_trans (f2 t ht) (by decide)
    by_cases hg : 100 < m
    · have hg1 : (100 : Int) < (m : Int) := by omega
      clear hQ h h0 hW0 hm f1 f2 hl6 hg
      go_enter Try.func3, Try.ntmps3
      go_wp2_with (first
        | (go_at_call 8; go_must ((rw [HW0.out]); (with_reducible refine (HF.out).mono ?_); rintro v w1 ⟨rfl, hb1⟩))
        | (go_at_call 9; go_must ((with_reducible refine (HGO.out _).mono ?_); rintro v w2 ⟨rfl, hb2⟩)))
      go_ret
      have hB1 := hb0.trans (hb1.mono hb0.size)
      exact ⟨rfl, hB1.trans (hb2.mono hB1.size)⟩
    · have hg1 : ¬ (100 : Int) < (m : Int) := by omega
      obtain ⟨V, hV⟩ : ∃ V, resV (drvOk va ts i) va (drvT i.toNat ts) = V := ⟨_, rfl⟩
      obtain ⟨L, hL⟩ : ∃ L, resL (drvOk va ts i) va (drvT i.toNat ts) = L := ⟨_, rfl⟩
      obtain ⟨E, hE⟩ : ∃ E, resE (drvOk va ts i) va (drvT i.toNat ts) = E := ⟨_, rfl⟩
      obtain ⟨U, hU⟩ : ∃ U, evalV va ts xs = U := ⟨_, rfl⟩
      obtain ⟨F, hF⟩ : ∃ F, evalE va ts m = F := ⟨_, rfl⟩
      have hO := hL ▸ res_out (drvOk va ts i) va (drvT i.toNat ts)
      have H1 := hide (fun (W : World) (k : Below W0.heap.size W0 W) => PDrv_calls (fun _ => True) va i a n c ts W (h0.belowN k) (by omega) hl6 V L E hV hL hE)
      have H2 := hide (fun (W : World) (k : Below W0.heap.size W0 W) => RDrv_calls (fun _ => True) va i a n c ts W (h0.belowN k) (by omega) hl6 V L E hV hL hE)
      have H3 := hide (fun (W : World) (k : Below W0.heap.size W0 W) => Eval_calls va a n c ts h.len xa m xc xs hm W (h0.at_.at_.belowN k) (hx0.belowN k) (by omega) hl6 U hU F hF)
      have H4 := hide (fun (W : World) (k : Below W0.heap.size W0 W) => REval_calls va a n c ts h.len xa m xc xs hm W (h0.at_.at_.belowN k) (hx0.belowN k) (by omega) hl6 U hU F hF)
      have HXI := hide (fun (W : World) (k : Below W0.heap.size W0 W) => (hX.belowN k).c2)
      clear hQ h h0 hx hx0 hW0 hm f1 f2 hl6 hg hV hL hE hU hF
      have e1 : (E == E) = true := by simp
      have e2 : (F == F) = true := by simp
      have e3 : ((U.toNat : Int) == (U.toNat : Int)) = true := by simp
      go_enter Try.func3, Try.ntmps3
      go_wp2_with (first
        | (go_at_call 8; go_must ((rw [HW0.out]); (with_reducible refine (HF.out).mono ?_); rintro v w0 ⟨rfl, hB⟩; obtain ⟨r0, r1, r2, r3⟩ := HXI.out _ hB))
        | (go_at_call 10; go_must ((with_reducible refine (H1.out _ hB).mono ?_); rintro v w1 ⟨a1, n1, c1, rfl, hT1, hb1⟩; have hbx1 := below_box w1 (.cells #[.int .i64 V, .slice a1 n1 c1] 24); have hX1 := Blk.new w1 24 #[.int .i64 V, .slice a1 n1 c1]; have hT1 := hT1.belowN hbx1; have hst := hb1.trans (hbx1.mono hb1.size); have hB := hB.trans (hst.mono hB.size); obtain ⟨r0, r1, r2, r3⟩ := HXI.out _ hB))
        | (go_at_call 11; go_must ((with_reducible refine (H2.out _ hB).mono ?_); rintro v w2 ⟨a2, n2, c2, rfl, hT2, hb2⟩; have hbx2 := below_box w2 (.cells #[.int .i64 V, .slice a2 n2 c2] 24); have hX2 := Blk.new w2 24 #[.int .i64 V, .slice a2 n2 c2]; have hT2 := hT2.belowN hbx2; have hst := hb2.trans (hbx2.mono hb2.size); have hX1 := hX1.belowN hst; have hT1 := hT1.belowN hst; have hB := hB.trans (hst.mono hB.size); obtain ⟨r0, r1, r2, r3⟩ := HXI.out _ hB))
        | (go_at_call 12; go_must ((with_reducible refine (H3.out _ hB).mono ?_); rintro v w3 ⟨rfl, hst⟩; have hX1 := hX1.belowN hst; have hT1 := hT1.belowN hst; have hX2 := hX2.belowN hst; have hT2 := hT2.belowN hst; have hB := hB.trans (hst.mono hB.size); obtain ⟨r0, r1, r2, r3⟩ := HXI.out _ hB))
        | (go_at_call 13; go_must ((with_reducible refine (H4.out _ hB).mono ?_); rintro v w4 ⟨rfl, hst⟩; have hX1 := hX1.belowN hst; have hT1 := hT1.belowN hst; have hX2 := hX2.belowN hst; have hT2 := hT2.belowN hst; have hB := hB.trans (hst.mono hB.size); obtain ⟨r0, r1, r2, r3⟩ := HXI.out _ hB; obtain ⟨y0, y1, _, _⟩ := hX1.c2; obtain ⟨y2, y3, _, _⟩ := hX2.c2))
        | (go_at_call 14; go_must ((with_reducible refine (RSame_calls V V a1 a2 n1 n2 c1 c2 L L hT1.len hT2.len _ hT1.at_.at_ hT2.at_.at_ (by rw [hT1.len]; exact Nat.le_trans hO.len (by decide)) hO.six true (sameP_self _ _)).mono ?_); rintro v w5 ⟨rfl, hb5⟩; have hB := hB.trans (hb5.mono hB.size)))
        | (go_at_call 9; go_must ((with_reducible refine (HGO.out _).mono ?_); rintro v w6 ⟨rfl, hb6⟩; have hB := hB.trans (hb6.mono hB.size))))
      go_ret
      exact ⟨rfl, hb0.trans (hB.mono hb0.size)⟩
end Go.Proofs.Ytcamcnahkdiefaa
