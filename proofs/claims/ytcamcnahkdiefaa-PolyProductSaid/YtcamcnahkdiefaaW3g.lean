/- Chapter 3: the law PolyProduct. -/
import Derived.Test.YtcamcnahkdiefaaW3f
import Derived.Test.YtcamcnahkdiefaaPl2
namespace Go.Proofs.Ytcamcnahkdiefaa
set_option linter.unusedVariables false
set_option linter.unusedSimpArgs false
open Go.RowKit
theorem mul_good {va : Int} {A B : List Tm} (hA : checkP va A = true) (hB : checkP va B = true) (hl : A.length * B.length ≤ 4096) (hr : rightL va (mulT A B) = true) :
    mresE (addOk va A va B) va A B = 0 ∧ mresV (addOk va A va B) va A B = va ∧ mresL (addOk va A va B) va A B = sortT (mulT A B) ∧ checkP va (sortT (mulT A B)) = true := by
  have hok : addOk va A va B = true := by unfold addOk; rw [hA, hB]; simp
  have oA := checkP_ok hA
  have hs : (sortT (mulT A B)).length ≤ 4096 := Nat.le_trans (sort_len _) (by rw [mulT_len]; exact hl)
  obtain ⟨h1, h2, h3⟩ := mk_of_ok oA.range hr hs
  rw [hok]
  refine ⟨?_, ?_, ?_, check_sort oA.range hr hs⟩
  · show mulE va A B = 0; unfold mulE; rw [if_pos hr]; exact h1
  · show mulV va A B = va; unfold mulV; rw [if_pos hr]; exact h2
  · show mulL va A B = _; unfold mulL; rw [if_pos hr]; exact h3
theorem checkP_out {va : Int} {A : List Tm} (h : checkP va A = true) : OutOk A := by
  have o := checkP_ok h
  exact ⟨o.len, fun t ht => by have := o.can.len t ht; have := o.n64; omega⟩
set_option maxRecDepth 100000 in
set_option maxHeartbeats 12800000 in
theorem PolyProduct_calls (va vb i j : Int) (a b : Option Addr) (n c k d : Nat) (ts us : List Tm) (w : World) (h : TOut (fun _ => True) w a n c ts) (h' : TOut (fun _ => True) w b k d us) :
    Calls Try.prog 6 #[.agg #[.int .i64 va, .slice a n c], .agg #[.int .i64 vb, .slice b k d], .int .i64 i, .int .i64 j] w fun v w' => v = .returned (.bool true) ∧ Below w.heap.size w w' := by
  obtain ⟨hX, hY, hb0, hz0⟩ := two_boxes w 24 24 #[.int .i64 va, .slice a n c] #[.int .i64 vb, .slice b k d]
  obtain ⟨W0, hW0⟩ : ∃ W0, (w.alloc (.cells #[.int .i64 va, .slice a n c] 24)).alloc (.cells #[.int .i64 vb, .slice b k d] 24) = W0 := ⟨_, rfl⟩
  rw [hW0] at hX hY hb0 hz0
  obtain ⟨p0, p1, p2, p3⟩ := hX.c2
  obtain ⟨p4, p5, p6, p7⟩ := hY.c2
  have h0 := h.belowN hb0
  have h0' := h'.belowN hb0
  have hB := Below.refl W0.heap.size W0
  obtain ⟨Q1, hQ1⟩ : ∃ Q, fewB ts 15 = Q := ⟨_, rfl⟩
  obtain ⟨Q2, hQ2⟩ : ∃ Q, fewB us 15 = Q := ⟨_, rfl⟩
  have HF1 := hide (fun (W : World) (kk : Below W0.heap.size W0 W) => Few_calls (fun _ => True) va 15 (by decide) a n c ts W (h0.belowN kk) Q1 hQ1)
  have HF2 := hide (fun (W : World) (kk : Below W0.heap.size W0 W) => Few_calls (fun _ => True) vb 15 (by decide) b k d us W (h0'.belowN kk) Q2 hQ2)
  have HXI := hide (fun (W : World) (kk : Below W0.heap.size W0 W) => (⟨(hX.belowN kk).c2, (hY.belowN kk).c2⟩ : (W.cell? ⟨w.heap.size, 0, none⟩ = some (.int .i64 va) ∧ W.cell? ⟨w.heap.size, 1, none⟩ = some (.slice a n c) ∧ W.frozen? ⟨w.heap.size, 0, none⟩ = false ∧ W.frozen? ⟨w.heap.size, 1, none⟩ = false) ∧ (W.cell? ⟨w.heap.size + 1, 0, none⟩ = some (.int .i64 vb) ∧ W.cell? ⟨w.heap.size + 1, 1, none⟩ = some (.slice b k d) ∧ W.frozen? ⟨w.heap.size + 1, 0, none⟩ = false ∧ W.frozen? ⟨w.heap.size + 1, 1, none⟩ = false)))
  have HW0 := hide hW0
  have HGO := hide goes3_calls
  obtain ⟨C1, hC1⟩ : ∃ Q, checkP va ts = Q := ⟨_, rfl⟩
  obtain ⟨C2, hC2⟩ : ∃ Q, checkP vb us = Q := ⟨_, rfl⟩
  cases Q1 with
  | false =>
    clear hQ1 hQ2 h h0 h' h0' hW0 hC1 hC2
    go_enter Try.func6, Try.ntmps6
    go_wp2_with (first
      | (go_at_call 8; (try rw [HW0.out]); (with_reducible refine (HF1.out _ hB).mono ?_); rintro v wx ⟨rfl, hbx⟩; have hB := hB.trans (hbx.mono hB.size); obtain ⟨⟨r0, r1, r2, r3⟩, ⟨s0, s1, s2, s3⟩⟩ := HXI.out _ hB)
      | (go_at_call 8; (with_reducible refine (HF2.out _ hB).mono ?_); rintro v wx ⟨rfl, hbx⟩; have hB := hB.trans (hbx.mono hB.size); obtain ⟨⟨r0, r1, r2, r3⟩, ⟨s0, s1, s2, s3⟩⟩ := HXI.out _ hB)
      | (go_at_call 9; (with_reducible refine (HGO.out _).mono ?_); rintro v wx ⟨rfl, hbx⟩; have hB := hB.trans (hbx.mono hB.size); obtain ⟨⟨r0, r1, r2, r3⟩, ⟨s0, s1, s2, s3⟩⟩ := HXI.out _ hB))
    go_ret
    exact ⟨rfl, hb0.trans (hB.mono hb0.size)⟩
  | true =>
    cases Q2 with
    | false =>
      clear hQ1 hQ2 h h0 h' h0' hW0 hC1 hC2
      go_enter Try.func6, Try.ntmps6
      go_wp2_with (first
        | (go_at_call 8; (try rw [HW0.out]); (with_reducible refine (HF1.out _ hB).mono ?_); rintro v wx ⟨rfl, hbx⟩; have hB := hB.trans (hbx.mono hB.size); obtain ⟨⟨r0, r1, r2, r3⟩, ⟨s0, s1, s2, s3⟩⟩ := HXI.out _ hB)
        | (go_at_call 8; (with_reducible refine (HF2.out _ hB).mono ?_); rintro v wx ⟨rfl, hbx⟩; have hB := hB.trans (hbx.mono hB.size); obtain ⟨⟨r0, r1, r2, r3⟩, ⟨s0, s1, s2, s3⟩⟩ := HXI.out _ hB)
        | (go_at_call 9; (with_reducible refine (HGO.out _).mono ?_); rintro v wx ⟨rfl, hbx⟩; have hB := hB.trans (hbx.mono hB.size); obtain ⟨⟨r0, r1, r2, r3⟩, ⟨s0, s1, s2, s3⟩⟩ := HXI.out _ hB))
      go_ret
      exact ⟨rfl, hb0.trans (hB.mono hb0.size)⟩
    | true =>
      obtain ⟨f1, f2⟩ := fewB_true hQ1
      obtain ⟨f3, f4⟩ := fewB_true hQ2
      have hn6 : n ≤ 15 := by have := h.len; omega
      have hk6 : k ≤ 15 := by have := h'.len; omega
      have hl6 : ∀ t ∈ ts, t.2.length ≤ 1000000 := fun t ht => Nat.le_trans (f2 t ht) (by decide)
      have hl6' : ∀ t ∈ us, t.2.length ≤ 1000000 := fun t ht => Nat.le_trans (f4 t ht) (by decide)
      have HC1 := hide (fun (W : World) (kk : Below W0.heap.size W0 W) => Check_calls va a n c ts h.len W (h0.at_.at_.belowN kk) (by omega) hl6 C1 hC1)
      have HC2 := hide (fun (W : World) (kk : Below W0.heap.size W0 W) => Check_calls vb b k d us h'.len W (h0'.at_.at_.belowN kk) (by omega) hl6' C2 hC2)
      cases C1 with
      | false =>
        clear f1 f2 f3 f4 hl6 hl6'
        clear hQ1 hQ2 h h0 h' h0' hW0 hC1 hC2
        go_enter Try.func6, Try.ntmps6
        go_wp2_with (first
          | (go_at_call 8; (try rw [HW0.out]); (with_reducible refine (HF1.out _ hB).mono ?_); rintro v wx ⟨rfl, hbx⟩; have hB := hB.trans (hbx.mono hB.size); obtain ⟨⟨r0, r1, r2, r3⟩, ⟨s0, s1, s2, s3⟩⟩ := HXI.out _ hB)
          | (go_at_call 8; (with_reducible refine (HF2.out _ hB).mono ?_); rintro v wx ⟨rfl, hbx⟩; have hB := hB.trans (hbx.mono hB.size); obtain ⟨⟨r0, r1, r2, r3⟩, ⟨s0, s1, s2, s3⟩⟩ := HXI.out _ hB)
          | (go_at_call 21; (with_reducible refine (HC1.out _ hB).mono ?_); rintro v wx ⟨rfl, hbx⟩; have hB := hB.trans (hbx.mono hB.size); obtain ⟨⟨r0, r1, r2, r3⟩, ⟨s0, s1, s2, s3⟩⟩ := HXI.out _ hB)
          | (go_at_call 21; (with_reducible refine (HC2.out _ hB).mono ?_); rintro v wx ⟨rfl, hbx⟩; have hB := hB.trans (hbx.mono hB.size); obtain ⟨⟨r0, r1, r2, r3⟩, ⟨s0, s1, s2, s3⟩⟩ := HXI.out _ hB)
          | (go_at_call 9; (with_reducible refine (HGO.out _).mono ?_); rintro v wx ⟨rfl, hbx⟩; have hB := hB.trans (hbx.mono hB.size); obtain ⟨⟨r0, r1, r2, r3⟩, ⟨s0, s1, s2, s3⟩⟩ := HXI.out _ hB))
        go_ret
        exact ⟨rfl, hb0.trans (hB.mono hb0.size)⟩
      | true =>
        cases C2 with
        | false =>
          clear f1 f2 f3 f4 hl6 hl6'
          clear hQ1 hQ2 h h0 h' h0' hW0 hC1 hC2
          go_enter Try.func6, Try.ntmps6
          go_wp2_with (first
            | (go_at_call 8; (try rw [HW0.out]); (with_reducible refine (HF1.out _ hB).mono ?_); rintro v wx ⟨rfl, hbx⟩; have hB := hB.trans (hbx.mono hB.size); obtain ⟨⟨r0, r1, r2, r3⟩, ⟨s0, s1, s2, s3⟩⟩ := HXI.out _ hB)
            | (go_at_call 8; (with_reducible refine (HF2.out _ hB).mono ?_); rintro v wx ⟨rfl, hbx⟩; have hB := hB.trans (hbx.mono hB.size); obtain ⟨⟨r0, r1, r2, r3⟩, ⟨s0, s1, s2, s3⟩⟩ := HXI.out _ hB)
            | (go_at_call 21; (with_reducible refine (HC1.out _ hB).mono ?_); rintro v wx ⟨rfl, hbx⟩; have hB := hB.trans (hbx.mono hB.size); obtain ⟨⟨r0, r1, r2, r3⟩, ⟨s0, s1, s2, s3⟩⟩ := HXI.out _ hB)
            | (go_at_call 21; (with_reducible refine (HC2.out _ hB).mono ?_); rintro v wx ⟨rfl, hbx⟩; have hB := hB.trans (hbx.mono hB.size); obtain ⟨⟨r0, r1, r2, r3⟩, ⟨s0, s1, s2, s3⟩⟩ := HXI.out _ hB)
            | (go_at_call 9; (with_reducible refine (HGO.out _).mono ?_); rintro v wx ⟨rfl, hbx⟩; have hB := hB.trans (hbx.mono hB.size); obtain ⟨⟨r0, r1, r2, r3⟩, ⟨s0, s1, s2, s3⟩⟩ := HXI.out _ hB))
          go_ret
          exact ⟨rfl, hb0.trans (hB.mono hb0.size)⟩
        | true =>
          by_cases hvb : va = vb
          case neg =>
            have g1 : (va != vb) = true := by simpa using hvb
            have g2 : (va == vb) = false := by simpa using hvb
            clear hvb f1 f2 f3 f4 hl6 hl6'
            clear hQ1 hQ2 h h0 h' h0' hW0 hC1 hC2
            go_enter Try.func6, Try.ntmps6
            go_wp2_with (first
              | (go_at_call 8; (try rw [HW0.out]); (with_reducible refine (HF1.out _ hB).mono ?_); rintro v wx ⟨rfl, hbx⟩; have hB := hB.trans (hbx.mono hB.size); obtain ⟨⟨r0, r1, r2, r3⟩, ⟨s0, s1, s2, s3⟩⟩ := HXI.out _ hB)
              | (go_at_call 8; (with_reducible refine (HF2.out _ hB).mono ?_); rintro v wx ⟨rfl, hbx⟩; have hB := hB.trans (hbx.mono hB.size); obtain ⟨⟨r0, r1, r2, r3⟩, ⟨s0, s1, s2, s3⟩⟩ := HXI.out _ hB)
              | (go_at_call 21; (with_reducible refine (HC1.out _ hB).mono ?_); rintro v wx ⟨rfl, hbx⟩; have hB := hB.trans (hbx.mono hB.size); obtain ⟨⟨r0, r1, r2, r3⟩, ⟨s0, s1, s2, s3⟩⟩ := HXI.out _ hB)
              | (go_at_call 21; (with_reducible refine (HC2.out _ hB).mono ?_); rintro v wx ⟨rfl, hbx⟩; have hB := hB.trans (hbx.mono hB.size); obtain ⟨⟨r0, r1, r2, r3⟩, ⟨s0, s1, s2, s3⟩⟩ := HXI.out _ hB)
              | (go_at_call 9; (with_reducible refine (HGO.out _).mono ?_); rintro v wx ⟨rfl, hbx⟩; have hB := hB.trans (hbx.mono hB.size); obtain ⟨⟨r0, r1, r2, r3⟩, ⟨s0, s1, s2, s3⟩⟩ := HXI.out _ hB))
            go_ret
            exact ⟨rfl, hb0.trans (hB.mono hb0.size)⟩
          case pos =>
            subst hvb
            have g1 : (va != va) = false := by simp
            by_cases i1 : i < 0
            · clear f1 f2 f3 f4 hl6 hl6'
              clear hQ1 hQ2 h h0 h' h0' hW0 hC1 hC2
              go_enter Try.func6, Try.ntmps6
              go_wp2_with (first
                | (go_at_call 8; (try rw [HW0.out]); (with_reducible refine (HF1.out _ hB).mono ?_); rintro v wx ⟨rfl, hbx⟩; have hB := hB.trans (hbx.mono hB.size); obtain ⟨⟨r0, r1, r2, r3⟩, ⟨s0, s1, s2, s3⟩⟩ := HXI.out _ hB)
                | (go_at_call 8; (with_reducible refine (HF2.out _ hB).mono ?_); rintro v wx ⟨rfl, hbx⟩; have hB := hB.trans (hbx.mono hB.size); obtain ⟨⟨r0, r1, r2, r3⟩, ⟨s0, s1, s2, s3⟩⟩ := HXI.out _ hB)
                | (go_at_call 21; (with_reducible refine (HC1.out _ hB).mono ?_); rintro v wx ⟨rfl, hbx⟩; have hB := hB.trans (hbx.mono hB.size); obtain ⟨⟨r0, r1, r2, r3⟩, ⟨s0, s1, s2, s3⟩⟩ := HXI.out _ hB)
                | (go_at_call 21; (with_reducible refine (HC2.out _ hB).mono ?_); rintro v wx ⟨rfl, hbx⟩; have hB := hB.trans (hbx.mono hB.size); obtain ⟨⟨r0, r1, r2, r3⟩, ⟨s0, s1, s2, s3⟩⟩ := HXI.out _ hB)
                | (go_at_call 9; (with_reducible refine (HGO.out _).mono ?_); rintro v wx ⟨rfl, hbx⟩; have hB := hB.trans (hbx.mono hB.size); obtain ⟨⟨r0, r1, r2, r3⟩, ⟨s0, s1, s2, s3⟩⟩ := HXI.out _ hB))
              go_ret
              exact ⟨rfl, hb0.trans (hB.mono hb0.size)⟩
            by_cases i2 : va ≤ i
            · clear f1 f2 f3 f4 hl6 hl6'
              clear hQ1 hQ2 h h0 h' h0' hW0 hC1 hC2
              go_enter Try.func6, Try.ntmps6
              go_wp2_with (first
                | (go_at_call 8; (try rw [HW0.out]); (with_reducible refine (HF1.out _ hB).mono ?_); rintro v wx ⟨rfl, hbx⟩; have hB := hB.trans (hbx.mono hB.size); obtain ⟨⟨r0, r1, r2, r3⟩, ⟨s0, s1, s2, s3⟩⟩ := HXI.out _ hB)
                | (go_at_call 8; (with_reducible refine (HF2.out _ hB).mono ?_); rintro v wx ⟨rfl, hbx⟩; have hB := hB.trans (hbx.mono hB.size); obtain ⟨⟨r0, r1, r2, r3⟩, ⟨s0, s1, s2, s3⟩⟩ := HXI.out _ hB)
                | (go_at_call 21; (with_reducible refine (HC1.out _ hB).mono ?_); rintro v wx ⟨rfl, hbx⟩; have hB := hB.trans (hbx.mono hB.size); obtain ⟨⟨r0, r1, r2, r3⟩, ⟨s0, s1, s2, s3⟩⟩ := HXI.out _ hB)
                | (go_at_call 21; (with_reducible refine (HC2.out _ hB).mono ?_); rintro v wx ⟨rfl, hbx⟩; have hB := hB.trans (hbx.mono hB.size); obtain ⟨⟨r0, r1, r2, r3⟩, ⟨s0, s1, s2, s3⟩⟩ := HXI.out _ hB)
                | (go_at_call 9; (with_reducible refine (HGO.out _).mono ?_); rintro v wx ⟨rfl, hbx⟩; have hB := hB.trans (hbx.mono hB.size); obtain ⟨⟨r0, r1, r2, r3⟩, ⟨s0, s1, s2, s3⟩⟩ := HXI.out _ hB))
              go_ret
              exact ⟨rfl, hb0.trans (hB.mono hb0.size)⟩
            by_cases j1 : j < 0
            · clear f1 f2 f3 f4 hl6 hl6'
              clear hQ1 hQ2 h h0 h' h0' hW0 hC1 hC2
              go_enter Try.func6, Try.ntmps6
              go_wp2_with (first
                | (go_at_call 8; (try rw [HW0.out]); (with_reducible refine (HF1.out _ hB).mono ?_); rintro v wx ⟨rfl, hbx⟩; have hB := hB.trans (hbx.mono hB.size); obtain ⟨⟨r0, r1, r2, r3⟩, ⟨s0, s1, s2, s3⟩⟩ := HXI.out _ hB)
                | (go_at_call 8; (with_reducible refine (HF2.out _ hB).mono ?_); rintro v wx ⟨rfl, hbx⟩; have hB := hB.trans (hbx.mono hB.size); obtain ⟨⟨r0, r1, r2, r3⟩, ⟨s0, s1, s2, s3⟩⟩ := HXI.out _ hB)
                | (go_at_call 21; (with_reducible refine (HC1.out _ hB).mono ?_); rintro v wx ⟨rfl, hbx⟩; have hB := hB.trans (hbx.mono hB.size); obtain ⟨⟨r0, r1, r2, r3⟩, ⟨s0, s1, s2, s3⟩⟩ := HXI.out _ hB)
                | (go_at_call 21; (with_reducible refine (HC2.out _ hB).mono ?_); rintro v wx ⟨rfl, hbx⟩; have hB := hB.trans (hbx.mono hB.size); obtain ⟨⟨r0, r1, r2, r3⟩, ⟨s0, s1, s2, s3⟩⟩ := HXI.out _ hB)
                | (go_at_call 9; (with_reducible refine (HGO.out _).mono ?_); rintro v wx ⟨rfl, hbx⟩; have hB := hB.trans (hbx.mono hB.size); obtain ⟨⟨r0, r1, r2, r3⟩, ⟨s0, s1, s2, s3⟩⟩ := HXI.out _ hB))
              go_ret
              exact ⟨rfl, hb0.trans (hB.mono hb0.size)⟩
            by_cases j2 : va ≤ j
            · clear f1 f2 f3 f4 hl6 hl6'
              clear hQ1 hQ2 h h0 h' h0' hW0 hC1 hC2
              go_enter Try.func6, Try.ntmps6
              go_wp2_with (first
                | (go_at_call 8; (try rw [HW0.out]); (with_reducible refine (HF1.out _ hB).mono ?_); rintro v wx ⟨rfl, hbx⟩; have hB := hB.trans (hbx.mono hB.size); obtain ⟨⟨r0, r1, r2, r3⟩, ⟨s0, s1, s2, s3⟩⟩ := HXI.out _ hB)
                | (go_at_call 8; (with_reducible refine (HF2.out _ hB).mono ?_); rintro v wx ⟨rfl, hbx⟩; have hB := hB.trans (hbx.mono hB.size); obtain ⟨⟨r0, r1, r2, r3⟩, ⟨s0, s1, s2, s3⟩⟩ := HXI.out _ hB)
                | (go_at_call 21; (with_reducible refine (HC1.out _ hB).mono ?_); rintro v wx ⟨rfl, hbx⟩; have hB := hB.trans (hbx.mono hB.size); obtain ⟨⟨r0, r1, r2, r3⟩, ⟨s0, s1, s2, s3⟩⟩ := HXI.out _ hB)
                | (go_at_call 21; (with_reducible refine (HC2.out _ hB).mono ?_); rintro v wx ⟨rfl, hbx⟩; have hB := hB.trans (hbx.mono hB.size); obtain ⟨⟨r0, r1, r2, r3⟩, ⟨s0, s1, s2, s3⟩⟩ := HXI.out _ hB)
                | (go_at_call 9; (with_reducible refine (HGO.out _).mono ?_); rintro v wx ⟨rfl, hbx⟩; have hB := hB.trans (hbx.mono hB.size); obtain ⟨⟨r0, r1, r2, r3⟩, ⟨s0, s1, s2, s3⟩⟩ := HXI.out _ hB))
              go_ret
              exact ⟨rfl, hb0.trans (hB.mono hb0.size)⟩
            obtain ⟨i, rfl⟩ : ∃ q : Nat, i = q := ⟨i.toNat, by omega⟩
            obtain ⟨j, rfl⟩ : ∃ q : Nat, j = q := ⟨j.toNat, by omega⟩
            have hi : (i : Int) < va := by omega
            have hj : (j : Int) < va := by omega
            have hlt15 : ts.length ≤ 15 := by have := h.len; omega
            have hlu15 : us.length ≤ 15 := by have := h'.len; omega
            have hlm : ts.length * us.length ≤ 4096 := Nat.le_trans (Nat.mul_le_mul hlt15 hlu15) (by decide)
            rcases mul_facts hC1 hC2 hlm with ⟨m1, m2, m3⟩ | ⟨m1, m2, m3, m4, m5⟩
            · have H3 := hide (fun (W : World) (kk : Below W0.heap.size W0 W) => PMul_calls (fun _ => True) (fun _ => True) va va a b n c k d ts us W (h0.belowN kk) (h0'.belowN kk) (by omega) (by omega) hl6 hl6' 0 [] 20 m2 m3 m1)
              clear hQ1 hQ2 h h0 h' h0' hW0 hC1 hC2 f1 f2 f3 f4 hl6 hl6' m1 m2 m3 hlm hlt15 hlu15
              go_enter Try.func6, Try.ntmps6
              go_wp2_with (first
                | (go_at_call 8; (try rw [HW0.out]); (with_reducible refine (HF1.out _ hB).mono ?_); rintro v wx ⟨rfl, hbx⟩; have hB := hB.trans (hbx.mono hB.size); obtain ⟨⟨r0, r1, r2, r3⟩, ⟨s0, s1, s2, s3⟩⟩ := HXI.out _ hB)
                | (go_at_call 8; (with_reducible refine (HF2.out _ hB).mono ?_); rintro v wx ⟨rfl, hbx⟩; have hB := hB.trans (hbx.mono hB.size); obtain ⟨⟨r0, r1, r2, r3⟩, ⟨s0, s1, s2, s3⟩⟩ := HXI.out _ hB)
                | (go_at_call 21; (with_reducible refine (HC1.out _ hB).mono ?_); rintro v wx ⟨rfl, hbx⟩; have hB := hB.trans (hbx.mono hB.size); obtain ⟨⟨r0, r1, r2, r3⟩, ⟨s0, s1, s2, s3⟩⟩ := HXI.out _ hB)
                | (go_at_call 21; (with_reducible refine (HC2.out _ hB).mono ?_); rintro v wx ⟨rfl, hbx⟩; have hB := hB.trans (hbx.mono hB.size); obtain ⟨⟨r0, r1, r2, r3⟩, ⟨s0, s1, s2, s3⟩⟩ := HXI.out _ hB)
                | (go_at_call 24; (with_reducible refine (H3.out _ hB).mono ?_); rintro v w3 ⟨a3, n3, c3, rfl, hT3, hb3⟩; have hbx3 := below_box w3 (.cells #[.int .i64 0, .slice a3 n3 c3] 24); have hX3 := Blk.new w3 24 #[.int .i64 0, .slice a3 n3 c3]; have hT3 := hT3.belowN hbx3; have hst := hb3.trans (hbx3.mono hb3.size); have hB := hB.trans (hst.mono hB.size); obtain ⟨⟨r0, r1, r2, r3⟩, ⟨s0, s1, s2, s3⟩⟩ := HXI.out _ hB; obtain ⟨y30, y31, y32, y33⟩ := hX3.c2)
                | (go_at_call 9; (with_reducible refine (HGO.out _).mono ?_); rintro v wx ⟨rfl, hbx⟩; have hB := hB.trans (hbx.mono hB.size); obtain ⟨⟨r0, r1, r2, r3⟩, ⟨s0, s1, s2, s3⟩⟩ := HXI.out _ hB))
              go_ret
              exact ⟨rfl, hb0.trans (hB.mono hb0.size)⟩
            · obtain ⟨M, hM⟩ : ∃ M, sortT (mulT ts us) = M := ⟨_, rfl⟩
              rw [hM] at m3 m5
              obtain ⟨A', hA'⟩ : ∃ A', sortT (drvT i ts) = A' := ⟨_, rfl⟩
              obtain ⟨B', hB'⟩ : ∃ B', sortT (drvT i us) = B' := ⟨_, rfl⟩
              obtain ⟨_, da1, da2, da3, da4⟩ := drv_facts hC1 hi
              obtain ⟨_, db1, db2, db3, db4⟩ := drv_facts hC2 hi
              obtain ⟨_, dd1, dd2, dd3, dd4⟩ := drv_facts m5 hi
              have hrX := right_mul_drv_l hC1 hC2 hi m4
              have hrY := right_mul_drv_r hC1 hC2 hi m4
              have hal : A'.length ≤ 15 := by rw [← hA']; exact Nat.le_trans (sort_len _) (Nat.le_trans (drvT_len i ts) hlt15)
              have hbl : B'.length ≤ 15 := by rw [← hB']; exact Nat.le_trans (sort_len _) (Nat.le_trans (drvT_len i us) hlu15)
              have hpr := prod_rule hC1 hC2 hi
              rw [hM] at hpr
              rw [hA'] at da3 da4 hrX hpr
              rw [hB'] at db3 db4 hrY hpr
              have hxl : A'.length * us.length ≤ 225 := Nat.mul_le_mul hal hlu15
              have hyl : ts.length * B'.length ≤ 225 := Nat.mul_le_mul hlt15 hbl
              obtain ⟨x1, x2, x3, x4⟩ := mul_good da4 hC2 (Nat.le_trans hxl (by decide)) hrX
              obtain ⟨yy1, yy2, yy3, yy4⟩ := mul_good hC1 db4 (Nat.le_trans hyl (by decide)) hrY
              have hXl : (sortT (mulT A' us)).length ≤ 225 := Nat.le_trans (sort_len _) (by rw [mulT_len]; exact hxl)
              have hYl : (sortT (mulT ts B')).length ≤ 225 := Nat.le_trans (sort_len _) (by rw [mulT_len]; exact hyl)
              obtain ⟨X, hX'⟩ : ∃ X, sortT (mulT A' us) = X := ⟨_, rfl⟩
              obtain ⟨Y, hY'⟩ : ∃ Y, sortT (mulT ts B') = Y := ⟨_, rfl⟩
              rw [hX'] at x3 x4 hXl hpr
              rw [hY'] at yy3 yy4 hYl hpr
              obtain ⟨ss1, ss2, ss3, ss4⟩ := add_facts x4 yy4 (by omega)
              rw [← hpr] at ss3 ss4
              obtain ⟨D, hD⟩ : ∃ D, sortT (drvT i M) = D := ⟨_, rfl⟩
              rw [hD] at dd3 dd4 ss3 ss4
              have htw := drv_twice (checkP_ok m5).can.len i j
              rw [hD] at htw
              obtain ⟨_, u1, u2, u3, u4⟩ := drv_facts dd4 hj
              obtain ⟨_, v1, v2, v3, v4⟩ := drv_facts m5 hj
              obtain ⟨V, hV⟩ : ∃ V, sortT (drvT j M) = V := ⟨_, rfl⟩
              rw [hV] at v3 v4 htw
              obtain ⟨_, z1, z2, z3, z4⟩ := drv_facts v4 hi
              rw [← htw] at z3 z4
              obtain ⟨U, hU⟩ : ∃ U, sortT (drvT j D) = U := ⟨_, rfl⟩
              rw [hU] at u3 u4 z3 z4
              have oM := checkP_out m5
              have oA := checkP_out da4
              have oB := checkP_out db4
              have oX := checkP_out x4
              have oY := checkP_out yy4
              have oD := checkP_out dd4
              have oV := checkP_out v4
              have oU := checkP_out u4
              have H3 := hide (fun (W : World) (kk : Below W0.heap.size W0 W) => PMul_calls (fun _ => True) (fun _ => True) va va a b n c k d ts us W (h0.belowN kk) (h0'.belowN kk) (by omega) (by omega) hl6 hl6' va M 0 m2 m3 m1)
              have H4 := hide (fun (W : World) (P : Nat → Prop) (a9 : Option Addr) (n9 c9 : Nat) (kT : TOut P W a9 n9 c9 M) => PDrv_calls P va (i : Int) a9 n9 c9 M W kT (by rw [kT.len]; exact Nat.le_trans oM.len (by decide)) oM.six va D 0 dd2 dd3 dd1)
              have H5 := hide (fun (W : World) (kk : Below W0.heap.size W0 W) => PDrv_calls (fun _ => True) va (i : Int) a n c ts W (h0.belowN kk) (by omega) hl6 va A' 0 da2 da3 da1)
              have H6 := hide (fun (W : World) (kk : Below W0.heap.size W0 W) => PDrv_calls (fun _ => True) va (i : Int) b k d us W (h0'.belowN kk) (by omega) hl6' va B' 0 db2 db3 db1)
              have H7 := hide (fun (W : World) (kk : Below W0.heap.size W0 W) (P : Nat → Prop) (a9 : Option Addr) (n9 c9 : Nat) (kT : TOut P W a9 n9 c9 A') => PMul_calls P (fun _ => True) va va a9 b n9 c9 k d A' us W kT (h0'.belowN kk) (by rw [kT.len]; exact Nat.le_trans oA.len (by decide)) (by omega) oA.six hl6' va X 0 x2 x3 x1)
              have H8 := hide (fun (W : World) (kk : Below W0.heap.size W0 W) (P : Nat → Prop) (a9 : Option Addr) (n9 c9 : Nat) (kT : TOut P W a9 n9 c9 B') => PMul_calls (fun _ => True) P va va a a9 n c n9 c9 ts B' W (h0.belowN kk) kT (by omega) (by rw [kT.len]; exact Nat.le_trans oB.len (by decide)) hl6 oB.six va Y 0 yy2 yy3 yy1)
              have H9 := hide (fun (W : World) (P Q : Nat → Prop) (a9 b9 : Option Addr) (n9 c9 k9 d9 : Nat) (kT : TOut P W a9 n9 c9 X) (kS : TOut Q W b9 k9 d9 Y) => PAdd_calls P Q va va a9 b9 n9 c9 k9 d9 X Y W kT kS (by rw [kT.len]; exact Nat.le_trans oX.len (by decide)) (by rw [kS.len]; exact Nat.le_trans oY.len (by decide)) oX.six oY.six va D 0 ss2 ss3 ss1)
              have H10 := hide (fun (W : World) (P : Nat → Prop) (a9 : Option Addr) (n9 c9 : Nat) (kT : TOut P W a9 n9 c9 D) => PDrv_calls P va (j : Int) a9 n9 c9 D W kT (by rw [kT.len]; exact Nat.le_trans oD.len (by decide)) oD.six va U 0 u2 u3 u1)
              have H11 := hide (fun (W : World) (P : Nat → Prop) (a9 : Option Addr) (n9 c9 : Nat) (kT : TOut P W a9 n9 c9 M) => PDrv_calls P va (j : Int) a9 n9 c9 M W kT (by rw [kT.len]; exact Nat.le_trans oM.len (by decide)) oM.six va V 0 v2 v3 v1)
              have H12 := hide (fun (W : World) (P : Nat → Prop) (a9 : Option Addr) (n9 c9 : Nat) (kT : TOut P W a9 n9 c9 V) => PDrv_calls P va (i : Int) a9 n9 c9 V W kT (by rw [kT.len]; exact Nat.le_trans oV.len (by decide)) oV.six va U 0 z2 z3 z1)
              have HS1 := hide (fun (W : World) (P Q : Nat → Prop) (a9 b9 : Option Addr) (n9 c9 k9 d9 : Nat) (kT : TOut P W a9 n9 c9 D) (kS : TOut Q W b9 k9 d9 D) => Same_calls va va a9 b9 n9 k9 c9 d9 D D kT.len kS.len W kT.at_.at_ kS.at_.at_ (by rw [kT.len]; exact Nat.le_trans oD.len (by decide)) oD.six true (sameP_self _ _))
              have HS2 := hide (fun (W : World) (P Q : Nat → Prop) (a9 b9 : Option Addr) (n9 c9 k9 d9 : Nat) (kT : TOut P W a9 n9 c9 U) (kS : TOut Q W b9 k9 d9 U) => Same_calls va va a9 b9 n9 k9 c9 d9 U U kT.len kS.len W kT.at_.at_ kS.at_.at_ (by rw [kT.len]; exact Nat.le_trans oU.len (by decide)) oU.six true (sameP_self _ _))
              clear hQ1 hQ2 h h0 h' h0' hW0 hC1 hC2 f1 f2 f3 f4 hl6 hl6' m1 m2 m3 m4 m5 hlm hlt15 hlu15 hM hA' hB' da1 da2 da3 da4 db1 db2 db3 db4 dd1 dd2 dd3 dd4 hrX hrY hal hbl hpr hxl hyl x1 x2 x3 x4 yy1 yy2 yy3 yy4 hXl hYl hX' hY' ss1 ss2 ss3 ss4 hD htw u1 u2 u3 u4 v1 v2 v3 v4 hV z1 z2 z3 z4 hU oM oA oB oX oY oD oV oU
              go_enter Try.func6, Try.ntmps6
              go_wp2_with (first
                | (go_at_call 8; (try rw [HW0.out]); (with_reducible refine (HF1.out _ hB).mono ?_); rintro v wx ⟨rfl, hbx⟩; have hB := hB.trans (hbx.mono hB.size); obtain ⟨⟨r0, r1, r2, r3⟩, ⟨s0, s1, s2, s3⟩⟩ := HXI.out _ hB)
                | (go_at_call 8; (with_reducible refine (HF2.out _ hB).mono ?_); rintro v wx ⟨rfl, hbx⟩; have hB := hB.trans (hbx.mono hB.size); obtain ⟨⟨r0, r1, r2, r3⟩, ⟨s0, s1, s2, s3⟩⟩ := HXI.out _ hB)
                | (go_at_call 21; (with_reducible refine (HC1.out _ hB).mono ?_); rintro v wx ⟨rfl, hbx⟩; have hB := hB.trans (hbx.mono hB.size); obtain ⟨⟨r0, r1, r2, r3⟩, ⟨s0, s1, s2, s3⟩⟩ := HXI.out _ hB)
                | (go_at_call 21; (with_reducible refine (HC2.out _ hB).mono ?_); rintro v wx ⟨rfl, hbx⟩; have hB := hB.trans (hbx.mono hB.size); obtain ⟨⟨r0, r1, r2, r3⟩, ⟨s0, s1, s2, s3⟩⟩ := HXI.out _ hB)
                | (go_at_call 24; (with_reducible refine (H3.out _ hB).mono ?_); rintro v w3 ⟨a3, n3, c3, rfl, hT3, hb3⟩; have hbx3 := below_box w3 (.cells #[.int .i64 va, .slice a3 n3 c3] 24); have hX3 := Blk.new w3 24 #[.int .i64 va, .slice a3 n3 c3]; have hT3 := hT3.belowN hbx3; have hst := hb3.trans (hbx3.mono hb3.size); have hB := hB.trans (hst.mono hB.size); obtain ⟨⟨r0, r1, r2, r3⟩, ⟨s0, s1, s2, s3⟩⟩ := HXI.out _ hB; obtain ⟨y30, y31, y32, y33⟩ := hX3.c2)
                | (go_at_call 10; (with_reducible refine (H4.out _ _ _ _ _ hT3).mono ?_); rintro v w4 ⟨a4, n4, c4, rfl, hT4, hb4⟩; have hbx4 := below_box w4 (.cells #[.int .i64 va, .slice a4 n4 c4] 24); have hX4 := Blk.new w4 24 #[.int .i64 va, .slice a4 n4 c4]; have hT4 := hT4.belowN hbx4; have hst := hb4.trans (hbx4.mono hb4.size); have hB := hB.trans (hst.mono hB.size); obtain ⟨⟨r0, r1, r2, r3⟩, ⟨s0, s1, s2, s3⟩⟩ := HXI.out _ hB; obtain ⟨y40, y41, y42, y43⟩ := hX4.c2; have hX3 := hX3.belowN hst; have hT3 := hT3.belowN hst; obtain ⟨y30, y31, y32, y33⟩ := hX3.c2)
                | (go_at_call 10; (with_reducible refine (H5.out _ hB).mono ?_); rintro v w5 ⟨a5, n5, c5, rfl, hT5, hb5⟩; have hbx5 := below_box w5 (.cells #[.int .i64 va, .slice a5 n5 c5] 24); have hX5 := Blk.new w5 24 #[.int .i64 va, .slice a5 n5 c5]; have hT5 := hT5.belowN hbx5; have hst := hb5.trans (hbx5.mono hb5.size); have hB := hB.trans (hst.mono hB.size); obtain ⟨⟨r0, r1, r2, r3⟩, ⟨s0, s1, s2, s3⟩⟩ := HXI.out _ hB; obtain ⟨y50, y51, y52, y53⟩ := hX5.c2; have hX3 := hX3.belowN hst; have hT3 := hT3.belowN hst; obtain ⟨y30, y31, y32, y33⟩ := hX3.c2; have hX4 := hX4.belowN hst; have hT4 := hT4.belowN hst; obtain ⟨y40, y41, y42, y43⟩ := hX4.c2)
                | (go_at_call 10; (with_reducible refine (H6.out _ hB).mono ?_); rintro v w6 ⟨a6, n6, c6, rfl, hT6, hb6⟩; have hbx6 := below_box w6 (.cells #[.int .i64 va, .slice a6 n6 c6] 24); have hX6 := Blk.new w6 24 #[.int .i64 va, .slice a6 n6 c6]; have hT6 := hT6.belowN hbx6; have hst := hb6.trans (hbx6.mono hb6.size); have hB := hB.trans (hst.mono hB.size); obtain ⟨⟨r0, r1, r2, r3⟩, ⟨s0, s1, s2, s3⟩⟩ := HXI.out _ hB; obtain ⟨y60, y61, y62, y63⟩ := hX6.c2; have hX3 := hX3.belowN hst; have hT3 := hT3.belowN hst; obtain ⟨y30, y31, y32, y33⟩ := hX3.c2; have hX4 := hX4.belowN hst; have hT4 := hT4.belowN hst; obtain ⟨y40, y41, y42, y43⟩ := hX4.c2; have hX5 := hX5.belowN hst; have hT5 := hT5.belowN hst; obtain ⟨y50, y51, y52, y53⟩ := hX5.c2)
                | (go_at_call 24; (with_reducible refine (H7.out _ hB _ _ _ _ hT5).mono ?_); rintro v w7 ⟨a7, n7, c7, rfl, hT7, hb7⟩; have hbx7 := below_box w7 (.cells #[.int .i64 va, .slice a7 n7 c7] 24); have hX7 := Blk.new w7 24 #[.int .i64 va, .slice a7 n7 c7]; have hT7 := hT7.belowN hbx7; have hst := hb7.trans (hbx7.mono hb7.size); have hB := hB.trans (hst.mono hB.size); obtain ⟨⟨r0, r1, r2, r3⟩, ⟨s0, s1, s2, s3⟩⟩ := HXI.out _ hB; obtain ⟨y70, y71, y72, y73⟩ := hX7.c2; have hX3 := hX3.belowN hst; have hT3 := hT3.belowN hst; obtain ⟨y30, y31, y32, y33⟩ := hX3.c2; have hX4 := hX4.belowN hst; have hT4 := hT4.belowN hst; obtain ⟨y40, y41, y42, y43⟩ := hX4.c2; have hX5 := hX5.belowN hst; have hT5 := hT5.belowN hst; obtain ⟨y50, y51, y52, y53⟩ := hX5.c2; have hX6 := hX6.belowN hst; have hT6 := hT6.belowN hst; obtain ⟨y60, y61, y62, y63⟩ := hX6.c2)
                | (go_at_call 24; (with_reducible refine (H8.out _ hB _ _ _ _ hT6).mono ?_); rintro v w8 ⟨a8, n8, c8, rfl, hT8, hb8⟩; have hbx8 := below_box w8 (.cells #[.int .i64 va, .slice a8 n8 c8] 24); have hX8 := Blk.new w8 24 #[.int .i64 va, .slice a8 n8 c8]; have hT8 := hT8.belowN hbx8; have hst := hb8.trans (hbx8.mono hb8.size); have hB := hB.trans (hst.mono hB.size); obtain ⟨⟨r0, r1, r2, r3⟩, ⟨s0, s1, s2, s3⟩⟩ := HXI.out _ hB; obtain ⟨y80, y81, y82, y83⟩ := hX8.c2; have hX3 := hX3.belowN hst; have hT3 := hT3.belowN hst; obtain ⟨y30, y31, y32, y33⟩ := hX3.c2; have hX4 := hX4.belowN hst; have hT4 := hT4.belowN hst; obtain ⟨y40, y41, y42, y43⟩ := hX4.c2; have hX5 := hX5.belowN hst; have hT5 := hT5.belowN hst; obtain ⟨y50, y51, y52, y53⟩ := hX5.c2; have hX6 := hX6.belowN hst; have hT6 := hT6.belowN hst; obtain ⟨y60, y61, y62, y63⟩ := hX6.c2; have hX7 := hX7.belowN hst; have hT7 := hT7.belowN hst; obtain ⟨y70, y71, y72, y73⟩ := hX7.c2)
                | (go_at_call 23; (with_reducible refine (H9.out _ _ _ _ _ _ _ _ _ hT7 hT8).mono ?_); rintro v w9 ⟨a9, n9, c9, rfl, hT9, hb9⟩; have hbx9 := below_box w9 (.cells #[.int .i64 va, .slice a9 n9 c9] 24); have hX9 := Blk.new w9 24 #[.int .i64 va, .slice a9 n9 c9]; have hT9 := hT9.belowN hbx9; have hst := hb9.trans (hbx9.mono hb9.size); have hB := hB.trans (hst.mono hB.size); obtain ⟨⟨r0, r1, r2, r3⟩, ⟨s0, s1, s2, s3⟩⟩ := HXI.out _ hB; obtain ⟨y90, y91, y92, y93⟩ := hX9.c2; have hX3 := hX3.belowN hst; have hT3 := hT3.belowN hst; obtain ⟨y30, y31, y32, y33⟩ := hX3.c2; have hX4 := hX4.belowN hst; have hT4 := hT4.belowN hst; obtain ⟨y40, y41, y42, y43⟩ := hX4.c2; have hX5 := hX5.belowN hst; have hT5 := hT5.belowN hst; obtain ⟨y50, y51, y52, y53⟩ := hX5.c2; have hX6 := hX6.belowN hst; have hT6 := hT6.belowN hst; obtain ⟨y60, y61, y62, y63⟩ := hX6.c2; have hX7 := hX7.belowN hst; have hT7 := hT7.belowN hst; obtain ⟨y70, y71, y72, y73⟩ := hX7.c2; have hX8 := hX8.belowN hst; have hT8 := hT8.belowN hst; obtain ⟨y80, y81, y82, y83⟩ := hX8.c2)
                | (go_at_call 27; (with_reducible refine (HS1.out _ _ _ _ _ _ _ _ _ hT4 hT9).mono ?_); rintro v wx ⟨rfl, hbx⟩; have hB := hB.trans (hbx.mono hB.size); obtain ⟨⟨r0, r1, r2, r3⟩, ⟨s0, s1, s2, s3⟩⟩ := HXI.out _ hB; have hX3 := hX3.belowN hbx; have hT3 := hT3.belowN hbx; obtain ⟨y30, y31, y32, y33⟩ := hX3.c2; have hX4 := hX4.belowN hbx; have hT4 := hT4.belowN hbx; obtain ⟨y40, y41, y42, y43⟩ := hX4.c2; have hX9 := hX9.belowN hbx; have hT9 := hT9.belowN hbx; obtain ⟨y90, y91, y92, y93⟩ := hX9.c2)
                | (go_at_call 10; (with_reducible refine (H10.out _ _ _ _ _ hT4).mono ?_); rintro v w10 ⟨a10, n10, c10, rfl, hT10, hb10⟩; have hbx10 := below_box w10 (.cells #[.int .i64 va, .slice a10 n10 c10] 24); have hX10 := Blk.new w10 24 #[.int .i64 va, .slice a10 n10 c10]; have hT10 := hT10.belowN hbx10; have hst := hb10.trans (hbx10.mono hb10.size); have hB := hB.trans (hst.mono hB.size); obtain ⟨⟨r0, r1, r2, r3⟩, ⟨s0, s1, s2, s3⟩⟩ := HXI.out _ hB; obtain ⟨y100, y101, y102, y103⟩ := hX10.c2; have hX3 := hX3.belowN hst; have hT3 := hT3.belowN hst; obtain ⟨y30, y31, y32, y33⟩ := hX3.c2; have hX4 := hX4.belowN hst; have hT4 := hT4.belowN hst; obtain ⟨y40, y41, y42, y43⟩ := hX4.c2)
                | (go_at_call 10; (with_reducible refine (H11.out _ _ _ _ _ hT3).mono ?_); rintro v w11 ⟨a11, n11, c11, rfl, hT11, hb11⟩; have hbx11 := below_box w11 (.cells #[.int .i64 va, .slice a11 n11 c11] 24); have hX11 := Blk.new w11 24 #[.int .i64 va, .slice a11 n11 c11]; have hT11 := hT11.belowN hbx11; have hst := hb11.trans (hbx11.mono hb11.size); have hB := hB.trans (hst.mono hB.size); obtain ⟨⟨r0, r1, r2, r3⟩, ⟨s0, s1, s2, s3⟩⟩ := HXI.out _ hB; obtain ⟨y110, y111, y112, y113⟩ := hX11.c2; have hX3 := hX3.belowN hst; have hT3 := hT3.belowN hst; obtain ⟨y30, y31, y32, y33⟩ := hX3.c2; have hX10 := hX10.belowN hst; have hT10 := hT10.belowN hst; obtain ⟨y100, y101, y102, y103⟩ := hX10.c2)
                | (go_at_call 10; (with_reducible refine (H12.out _ _ _ _ _ hT11).mono ?_); rintro v w12 ⟨a12, n12, c12, rfl, hT12, hb12⟩; have hbx12 := below_box w12 (.cells #[.int .i64 va, .slice a12 n12 c12] 24); have hX12 := Blk.new w12 24 #[.int .i64 va, .slice a12 n12 c12]; have hT12 := hT12.belowN hbx12; have hst := hb12.trans (hbx12.mono hb12.size); have hB := hB.trans (hst.mono hB.size); obtain ⟨⟨r0, r1, r2, r3⟩, ⟨s0, s1, s2, s3⟩⟩ := HXI.out _ hB; obtain ⟨y120, y121, y122, y123⟩ := hX12.c2; have hX10 := hX10.belowN hst; have hT10 := hT10.belowN hst; obtain ⟨y100, y101, y102, y103⟩ := hX10.c2; have hX11 := hX11.belowN hst; have hT11 := hT11.belowN hst; obtain ⟨y110, y111, y112, y113⟩ := hX11.c2)
                | (go_at_call 27; (with_reducible refine (HS2.out _ _ _ _ _ _ _ _ _ hT10 hT12).mono ?_); rintro v wx ⟨rfl, hbx⟩; have hB := hB.trans (hbx.mono hB.size); obtain ⟨⟨r0, r1, r2, r3⟩, ⟨s0, s1, s2, s3⟩⟩ := HXI.out _ hB)
                | (go_at_call 9; (with_reducible refine (HGO.out _).mono ?_); rintro v wx ⟨rfl, hbx⟩; have hB := hB.trans (hbx.mono hB.size); obtain ⟨⟨r0, r1, r2, r3⟩, ⟨s0, s1, s2, s3⟩⟩ := HXI.out _ hB))
              go_ret
              exact ⟨rfl, hb0.trans (hB.mono hb0.size)⟩
end Go.Proofs.Ytcamcnahkdiefaa
