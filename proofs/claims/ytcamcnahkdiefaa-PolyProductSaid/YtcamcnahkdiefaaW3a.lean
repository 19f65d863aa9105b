/- Chapter 3: what comes out is small; the page's example. -/
import Derived.Test.YtcamcnahkdiefaaPz2
namespace Go.Proofs.Ytcamcnahkdiefaa
set_option linter.unusedVariables false
set_option linter.unusedSimpArgs false
open Go.RowKit
/-- a polynomial's terms that were handed out -/
structure OutOk (L : List Tm) : Prop where
  len : L.length ≤ 4096
  exp : ∀ t ∈ L, t.2.length ≤ 64
theorem OutOk.nil : OutOk [] := ⟨by decide, fun t ht => by simp at ht⟩
theorem OutOk.six {L : List Tm} (h : OutOk L) : ∀ t ∈ L, t.2.length ≤ 1000000 := fun t ht => Nat.le_trans (h.exp t ht) (by decide)
theorem mk_out (vars : Int) (l : List Tm) : OutOk (mkL vars l) := by
  unfold mkL
  split
  · rename_i h
    unfold mkE at h
    split at h
    · cases h
    · rename_i hv
      split at h
      · cases h
      · rename_i hr
        split at h
        · cases h
        · rename_i hl
          have hr' : rightL vars l = true := by simpa using hr
          have hc := sortT_canon l (rightL_len hr')
          refine ⟨by omega, fun t ht => ?_⟩
          have := hc.len t ht
          omega
  · exact OutOk.nil
theorem res_out (ok : Bool) (vars : Int) (l : List Tm) : OutOk (resL ok vars l) := by
  unfold resL
  split
  · exact mk_out vars l
  · exact OutOk.nil
theorem mres_out (ok : Bool) (vars : Int) (A B : List Tm) : OutOk (mresL ok vars A B) := by
  unfold mresL
  split
  · unfold mulL
    split
    · exact mk_out _ _
    · exact OutOk.nil
  · exact OutOk.nil
theorem var_out (vars i : Int) : OutOk (varL vars i) := by
  unfold varL
  split
  · exact OutOk.nil
  · exact mk_out _ _
theorem sameP_self (v : Int) (L : List Tm) : sameP v L v L = true := by unfold sameP; simp
/-- the page's example -/
def exL : List Tm := [(9223372036854775808, [2]), (9223372036854775808, [1])]
theorem mergeT_two (x y : Tm) : mergeT [x] [y] = if ordR x.2 y.2 < 0 then nzT [x] ++ nzT [y] else if 0 < ordR x.2 y.2 then nzT [y] ++ nzT [x] else nzT [(x.1 + y.1, x.2)] := by
  rw [mergeT]
  split
  · rw [merge_nil']
  · split
    · rw [merge_nil]
    · rw [merge_nil]; simp [nzT]
theorem ex_sort : sortT [((9223372036854775808 : UInt64), [(1 : Int)]), (9223372036854775808, [2])] = exL := by
  rw [sort_two (by decide)]
  show mergeT (sortT [((9223372036854775808 : UInt64), [(1 : Int)])]) (sortT [((9223372036854775808 : UInt64), [(2 : Int)])]) = exL
  rw [sort_one (by decide), sort_one (by decide)]
  show mergeT [((9223372036854775808 : UInt64), [(1 : Int)])] [((9223372036854775808 : UInt64), [(2 : Int)])] = exL
  rw [mergeT_two]
  decide
theorem ex_make : mkE 1 [((9223372036854775808 : UInt64), [(1 : Int)]), (9223372036854775808, [2])] = 0 ∧ mkV 1 [((9223372036854775808 : UInt64), [(1 : Int)]), (9223372036854775808, [2])] = 1 ∧ mkL 1 [((9223372036854775808 : UInt64), [(1 : Int)]), (9223372036854775808, [2])] = exL := by
  have e : mkE 1 [((9223372036854775808 : UInt64), [(1 : Int)]), (9223372036854775808, [2])] = 0 := by
    unfold mkE
    rw [ex_sort]
    decide
  exact ⟨e, by unfold mkV; rw [e]; rfl, by unfold mkL; rw [e, ex_sort]; rfl⟩
theorem ex_check : checkP 1 exL = true := by decide
def exD : List Tm := [(9223372036854775808, [0])]
theorem ex_drv : resE (drvOk 1 exL 0) 1 (drvT (0 : Int).toNat exL) = 0 ∧ resV (drvOk 1 exL 0) 1 (drvT (0 : Int).toNat exL) = 1 ∧ resL (drvOk 1 exL 0) 1 (drvT (0 : Int).toNat exL) = exD := by
  have e0 : drvOk 1 exL 0 = true := by decide
  have e1 : drvT (0 : Int).toNat exL = [((0 : UInt64), [(1 : Int)]), (9223372036854775808, [0])] := by decide
  rw [e0, e1]
  have e2 : sortT [((0 : UInt64), [(1 : Int)]), (9223372036854775808, [0])] = exD := by
    rw [sort_two (by decide)]
    show mergeT (sortT [((0 : UInt64), [(1 : Int)])]) (sortT [((9223372036854775808 : UInt64), [(0 : Int)])]) = exD
    rw [sort_one (by decide), sort_one (by decide)]
    show mergeT [] [((9223372036854775808 : UInt64), [(0 : Int)])] = exD
    rw [merge_nil']
    decide
  have e : mkE 1 [((0 : UInt64), [(1 : Int)]), (9223372036854775808, [0])] = 0 := by
    unfold mkE
    rw [e2]
    decide
  exact ⟨e, by show mkV _ _ = _; unfold mkV; rw [e]; rfl, by show mkL _ _ = _; unfold mkL; rw [e, e2]; rfl⟩
theorem ex_eval : evalV 1 exL [5] = 0 ∧ evalE 1 exL 1 = 0 := by
  constructor
  · unfold evalV
    rw [if_pos ⟨ex_check, by decide⟩]
    decide
  · unfold evalE
    rw [if_pos ⟨ex_check, by decide⟩]
def fewB (ts : List Tm) (most : Int) : Bool := decide ((ts.length : Int) ≤ most) && ts.all fun t => decide (t.2.length ≤ 100)
theorem fewB_true {ts : List Tm} {most : Int} (h : fewB ts most = true) : (ts.length : Int) ≤ most ∧ ∀ t ∈ ts, t.2.length ≤ 100 := by
  unfold fewB at h
  simp only [Bool.and_eq_true, decide_eq_true_eq, List.all_eq_true] at h
  exact h
set_option maxRecDepth 100000 in
set_option maxHeartbeats 3200000 in
theorem Few_calls (P : Nat → Prop) (va most : Int) (hm : most ≤ 1000000) (a : Option Addr) (n c : Nat) (ts : List Tm) (w : World) (h : TOut P w a n c ts) (B : Bool) (hB : fewB ts most = B) :
    Calls Try.prog 8 #[.agg #[.int .i64 va, .slice a n c], .int .i64 most] w fun v w' => v = .returned (.bool B) ∧ Below w.heap.size w w' := by
  have hb0 := below_box w (.cells #[.int .i64 va, .slice a n c] 24)
  have hX := Blk.new w 24 #[.int .i64 va, .slice a n c]
  obtain ⟨p0, p1, p2, p3⟩ := hX.c2
  have hat := h.at_.belowN hb0
  have HN := hide h.len
  unfold fewB at hB
  rw [← h.len] at hB
  by_cases hl : most < (n : Int)
  · rw [decide_eq_false (by omega), Bool.false_and] at hB
    subst hB
    clear h
    go_enter Try.func8, Try.ntmps8
    go_wp2
    go_ret
    exact ⟨rfl, hb0⟩
  · rw [decide_eq_true (by omega), Bool.true_and] at hB
    have HB : Hid (((ts.drop 0).all fun t => decide (t.2.length ≤ 100)) = B) := hB
    clear h hB
    go_enter Try.func8, Try.ntmps8
    go_wp2
    go_loopw [5] (fun iv wr => ∃ k : Nat, iv = .int .i64 k ∧ k ≤ n ∧ Hid (((ts.drop k).all fun t => decide (t.2.length ≤ 100)) = B) ∧ wr = w.alloc (.cells #[.int .i64 va, .slice a n c] 24)) (fun iv _ => n - (intOf iv).toNat)
    case atStart => exact ⟨0, rfl, by omega, HB.out, rfl⟩
    case round =>
      obtain ⟨k, rfl, hk, hBk, rfl⟩ := hrel
      by_cases hlt : k < n
      · obtain ⟨b1, off1, t, ea, en, ec, rfl, ht, t0, t1, hrow, hfar⟩ := hat.getF (Below.refl _ _) (k := k) (by rw [← HN.out]; exact hlt)
        have hk0 : (0 : Int) ≤ (k : Int) := by omega
        have hk1 : (k : Int) < (n : Int) := by omega
        have hen : en = t.2.length := hrow.out.2.1
        have hB2 := hBk.out
        rw [drop_at ht.out, List.all_cons, ← hen] at hB2
        clear ht hen
        by_cases h1 : 100 < en
        · have hBF : Hid (B = false) := by show B = false; rw [← hB2, decide_eq_false (by omega)]; rfl
          have e1 : (100 : Int) < (en : Int) := by omega
          clear hB2 h1
          go_wp2
          go_ret
          exact ⟨by rw [hBF.out]; rfl, hb0⟩
        · have hB3 := hB2
          rw [decide_eq_true (show en ≤ 100 by omega), Bool.true_and] at hB3
          have HB3 := hide hB3
          have e1 : ¬ (100 : Int) < (en : Int) := by omega
          clear hB2 hB3 h1
          go_wp2
          go_roundw
          case rel => exact ⟨k + 1, by go_num, by omega, HB3.out, by first | rfl | trivial⟩
          case measure => simp [intOf]; omega
      · obtain rfl : k = n := by omega
        have hB2 := hBk.out
        rw [List.drop_eq_nil_of_le (by rw [← HN.out]; exact Nat.le_refl _)] at hB2
        have hBT : Hid (B = true) := by show B = true; rw [← hB2]; rfl
        clear hB2
        go_wp2
        go_ret
        exact ⟨by rw [hBT.out]; rfl, hb0⟩
end Go.Proofs.Ytcamcnahkdiefaa
